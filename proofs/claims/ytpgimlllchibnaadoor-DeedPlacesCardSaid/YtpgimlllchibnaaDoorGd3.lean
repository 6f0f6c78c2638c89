/- Functions of the program, as they answer, and that their code comes to these answers. -/
import Derived.Test.YtpgimlllchibnaaDoorGd2
namespace Go.Proofs.YtpgimlllchibnaaDoor.VM
open Go Go.RowKit

theorem in_90 : Info Tryd.prog 90 3 3 (.agg #[.bool false, .bool false, .bool false]) := by unfold Info; kernel_rfl
theorem one_90 : (.agg #[.bool false, .bool false, .bool false] : Value).cells.all (·.oneCell') = true := by kernel_rfl
theorem zc_90 : ((.agg #[.bool false, .bool false, .bool false] : Value).cells.toList.map zcell) = ((Vector.replicate 3 false).toList).map AV.bool := by rfl

/-! chirographref.grantBounds$1 -/
noncomputable def g_ref_grantBounds_1 (n0 : Int) (many1 : Int) : Option (Bool) :=
  some (decide ((n0 ≥ (0 : Int)) ∧ (n0 < many1)))
set_option maxHeartbeats 4000000 in
set_option maxRecDepth 100000 in
theorem g_ref_grantBounds_1_ac {n0 : Int} {many1 : Int} {r : Bool} (H : g_ref_grantBounds_1 n0 many1 = some r) : ACp Tryd.prog 42 [(AV.int n0), (AV.int many1)] (AV.bool r) := by
 refine ACp_of (AC2_of_body (vs := [.b r]) Tryd.func42 Y Y (Nat.le_of_ble_eq_true Y) Y ?_) (fun _ => .same _)
 unfold g_ref_grantBounds_1 at H
 refine as2 [(0, .i n0), (1, .i many1)] [] Y Y Y ?_
 refine sg [0] Y ?_
 refine rp Y Y (p_asg Y Y) ?_
 refine rz [(0, .i n0), (1, .i many1)] [] Y Y Y ?_
 refine AW2_seq ?_
 refine AW2_mid (⟨[(4, .b (decide ((n0 ≥ (0 : Int)) ∧ (n0 < many1))))], [], 12⟩ : TS) ?_ ?_
 ·refine AW2_reg [0, 1, 2, 3, 4, 5, 6, 7] Y ?_
  refine rp Y Y (p_move Y Y) ?_
  refine rp Y Y (p_bin Y Y Y Y) ?_
  refine rp Y Y (p_move Y Y) ?_
  refine (Classical.em (n0 ≥ (0 : Int))).elim (fun h1 => ?_) (fun h1 => ?_)
  ·refine r_on Y Y Y Y (dT h1) Y (PureD.opD (p_move Y Y)) ?_
   refine r_on Y Y Y Y (dT h1) Y (PureD.opD (p_move Y Y)) ?_
   refine r_on Y Y Y Y (dT h1) Y (PureD.opD (p_bin Y Y Y Y)) ?_
   refine rp Y Y (p_pkt Y Y (dT h1) (tb ((and_l (p := n0 ≥ (0 : Int)) (q := n0 < many1) h1)))) ?_
   refine rp Y Y (p_asg Y Y) ?_
   refine rs [(4, .b (decide ((n0 ≥ (0 : Int)) ∧ (n0 < many1))))] [] Y Y Y ?_
   exact RunW_nil rfl
  ·refine r_off Y Y Y Y (dF h1) Y Y ?_
   refine r_off Y Y Y Y (dF h1) Y Y ?_
   refine r_off Y Y Y Y (dF h1) Y Y ?_
   refine rp Y Y (p_pkf Y Y (dF h1) (tb (dF (p := (n0 ≥ (0 : Int)) ∧ (n0 < many1)) (fun x => h1 x.1)).symm)) ?_
   refine rp Y Y (p_asg Y Y) ?_
   refine rs [(4, .b (decide ((n0 ≥ (0 : Int)) ∧ (n0 < many1))))] [] Y Y Y ?_
   exact RunW_nil rfl
 ·refine AW2_ret ?_
  have hz := some_elim H
  subst hz
  exact ⟨⟨res_tmp (.same _), trivial⟩, trivial⟩

/-! chirographref.Owner -/
noncomputable def g_ref_Owner (object0 : Int) : Option (Int) :=
  some (w64 (object0.tdiv (4 : Int)))
set_option maxHeartbeats 4000000 in
set_option maxRecDepth 100000 in
theorem g_ref_Owner_ac {object0 : Int} {r : Int} (H : g_ref_Owner object0 = some r) : ACp Tryd.prog 43 [(AV.int object0)] (AV.int r) := by
 refine ACp_of (AC2_of_body (vs := [.i r]) Tryd.func43 Y Y (Nat.le_of_ble_eq_true Y) Y ?_) (fun _ => .same _)
 unfold g_ref_Owner at H
 refine as2 [(0, .i object0)] [] Y Y Y ?_
 refine sg [0] Y ?_
 refine rp Y Y (p_asg Y Y) ?_
 refine rz [(0, .i object0)] [] Y Y Y ?_
 refine sg [0, 1, 2] Y ?_
 refine rp Y Y (p_move Y Y) ?_
 refine rp Y Y (p_iquo Y Y Y (by decide)) ?_
 refine rp Y Y (p_asg Y Y) ?_
 refine rz [(2, .i (w64 (object0.tdiv (4 : Int))))] [] Y Y Y ?_
 refine AW2_ret ?_
 have hz := some_elim H
 subst hz
 exact ⟨⟨res_tmp (.same _), trivial⟩, trivial⟩

/-! chirographref.grantBounds -/
def g_ref_grantBounds_r6 : List (List (Nat × Option Nat)) := [[(1, none)], [(34, some 0)], [(1, none)], [(36, some 2)], [(35, some 1), (37, some 3)], [(38, some 4)], [(1, none), (39, some 5)], [(39, some 5), (40, some 6)], [(1, none), (39, some 5)], [(39, some 5), (42, some 8)], [(39, some 5), (43, some 9)]]
def g_ref_grantBounds_r6c : List (List Nat) := [[], [0], [], [2], [0, 1, 2, 3], [0, 1, 2, 3, 4], [0, 1, 2, 3, 4, 5], [0, 1, 2, 3, 4, 5, 6], [0, 1, 2, 3, 4, 5], [0, 1, 2, 3, 4, 5, 8], [0, 1, 2, 3, 4, 5, 8, 9], [0, 1, 2, 3, 4, 5, 6, 7, 8, 9, 10], [0, 1, 2, 3, 4, 5, 6, 7, 8, 9, 10, 11], [0, 1, 2, 3, 4, 5, 6, 7, 8, 9, 10, 11, 12]]
noncomputable def g_ref_grantBounds (g0 : GGrant) : Option (Int) :=
  ((g_ref_grantBounds_1 g0.From (3 : Int)).bind fun r'3 => (if (!r'3) = true then some true else (g_ref_grantBounds_1 g0.To (3 : Int)).bind fun r'4 => (if (!r'4) = true then some true else (g_ref_grantBounds_1 g0.Object (12 : Int)).bind fun r'5 => some (!r'5)))).bind fun g'6 => (if g'6 = true then some (6 : Int) else (if (g0.Right ≠ (1 : Int)) ∧ (g0.Right ≠ (2 : Int)) then some (2 : Int) else ((if g0.From = g0.To then some true else (g_ref_Owner g0.Object).bind fun r'7 => some (decide (g0.To = r'7)))).bind fun g'8 => (if g'8 = true then some (3 : Int) else some (0 : Int))))
set_option maxHeartbeats 4000000 in
set_option maxRecDepth 100000 in
theorem g_ref_grantBounds_ac {g0 : GGrant} {r : Int} (H : g_ref_grantBounds g0 = some r) : ACp Tryd.prog 25 [(.agg (GGrant.cs g0))] (AV.int r) := by
 refine ACp_of (AC2_of_body (vs := [.i r]) Tryd.func25 Y Y (Nat.le_of_ble_eq_true Y) Y ?_) (fun _ => .same _)
 unfold g_ref_grantBounds at H
 refine as2 [(0, .g (GGrant.cs g0))] [] Y Y Y ?_
 refine sg [0, 1] Y ?_
 refine r_op Y Y (MakeD.opD (n_box 1 Y Y) Y Y Y Y) ?_
 refine rp Y Y (p_asg Y Y) ?_
 refine rz [(1, .q 1 (0))] [(1, .pure (GGrant.cs g0))] Y Y Y ?_
 refine sg [0] Y ?_
 refine rp Y Y (p_asg Y Y) ?_
 refine RunW_st [(1, .q 1 (0)), (3, .clo 42 [])] [(1, .pure (GGrant.cs g0))] Y ⟨TLes.same _, (fun _ => .same _), trivial⟩ ⟨Y, trivial⟩ ?_
 refine RunW_nil ?_
 refine AW2_seq ?_
 refine AW2_block ?_
 refine AW2_seq ?_
 refine bindK H fun g'6 h8 H => ?_
 refine AW2_mid (⟨[(1, .q 1 (0)), (4, .b g'6)], [(1, .pure (GGrant.cs g0))], 47⟩ : TS) ?_ ?_
 ·clear H
  have H := h8
  clear h8
  refine AW2_reg [0, 1, 2, 3, 4, 5, 6, 7, 8, 9, 10, 11, 12, 13, 14, 15, 16, 17, 18, 19] Y ?_
  refine rp Y Y (p_move Y Y) ?_
  refine rp Y Y (u_fa Y Y Tryd.underlying47 Y in_3 nz Y Y (nl (GGrant.len g0))) ?_
  refine rp Y Y (u_ld Y Y Tryd.underlying3 Y Y ((Sub.refl _).trans (GGrant.sub0 g0))) ?_
  refine bindK H fun r'3 h3 H => ?_
  refine rp Y Y (p_callp Y Y Y Tryd.func42 Y Y (g_ref_grantBounds_1_ac h3) ⟨Y, Y, trivial⟩) ?_
  refine rp Y Y (p_not Y Y) ?_
  refine rp Y Y (p_move Y Y) ?_
  refine (Classical.em ((!r'3) = true)).elim (fun h4 => ?_) (fun h4 => ?_)
  ·replace H := ite_then h4 H
   refine r_off Y Y Y Y h4 Y Y ?_
   refine r_off Y Y Y Y h4 Y Y ?_
   refine r_off Y Y Y Y h4 Y Y ?_
   refine r_off Y Y Y Y h4 Y Y ?_
   refine r_off Y Y Y Y h4 Y Y ?_
   refine rp Y Y (p_pkt Y Y h4 (.same _)) ?_
   refine rp Y Y (p_move Y Y) ?_
   refine r_off Y Y Y Y Y Y Y ?_
   refine r_off Y Y Y Y Y Y Y ?_
   refine r_off Y Y Y Y Y Y Y ?_
   refine r_off Y Y Y Y Y Y Y ?_
   refine r_off Y Y Y Y Y Y Y ?_
   refine rp Y Y (p_pkt Y Y Y (.same _)) ?_
   refine rp Y Y (p_asg Y Y) ?_
   refine rs [(1, .q 1 (0)), (4, .b true)] [(1, .pure (GGrant.cs g0))] Y Y Y ?_
   have hz := some_elim H
   subst hz
   exact RunW_nil rfl
  ·replace H := ite_else h4 H
   refine r_on Y Y Y Y (bfalse h4) Y (PureD.opD (p_move Y Y)) ?_
   refine r_on Y Y Y Y (bfalse h4) Y (PureD.opD (u_fa Y Y Tryd.underlying47 Y in_3 nz Y Y (nl (GGrant.len g0)))) ?_
   refine r_on Y Y Y Y (bfalse h4) Y (PureD.opD (u_ld Y Y Tryd.underlying3 Y Y ((Sub.refl _).trans (GGrant.sub1 g0)))) ?_
   refine bindK H fun r'4 h5 H => ?_
   refine r_on Y Y Y Y (bfalse h4) Y (PureD.opD (p_callp Y Y Y Tryd.func42 Y Y (g_ref_grantBounds_1_ac h5) ⟨Y, Y, trivial⟩)) ?_
   refine r_on Y Y Y Y (bfalse h4) Y (PureD.opD (p_not Y Y)) ?_
   refine rp Y Y (p_pkf Y Y (bfalse h4) (.same _)) ?_
   refine rp Y Y (p_move Y Y) ?_
   refine (Classical.em ((!r'4) = true)).elim (fun h6 => ?_) (fun h6 => ?_)
   ·replace H := ite_then h6 H
    refine r_off Y Y Y Y h6 Y Y ?_
    refine r_off Y Y Y Y h6 Y Y ?_
    refine r_off Y Y Y Y h6 Y Y ?_
    refine r_off Y Y Y Y h6 Y Y ?_
    refine r_off Y Y Y Y h6 Y Y ?_
    refine rp Y Y (p_pkt Y Y h6 (.same _)) ?_
    refine rp Y Y (p_asg Y Y) ?_
    refine rs [(1, .q 1 (0)), (4, .b true)] [(1, .pure (GGrant.cs g0))] Y Y Y ?_
    have hz := some_elim H
    subst hz
    exact RunW_nil rfl
   ·replace H := ite_else h6 H
    refine r_on Y Y Y Y (bfalse h6) Y (PureD.opD (p_move Y Y)) ?_
    refine r_on Y Y Y Y (bfalse h6) Y (PureD.opD (u_fa Y Y Tryd.underlying47 Y in_3 nz Y Y (nl (GGrant.len g0)))) ?_
    refine r_on Y Y Y Y (bfalse h6) Y (PureD.opD (u_ld Y Y Tryd.underlying3 Y Y ((Sub.refl _).trans (GGrant.sub2 g0)))) ?_
    refine bindK H fun r'5 h7 H => ?_
    refine r_on Y Y Y Y (bfalse h6) Y (PureD.opD (p_callp Y Y Y Tryd.func42 Y Y (g_ref_grantBounds_1_ac h7) ⟨Y, Y, trivial⟩)) ?_
    refine r_on Y Y Y Y (bfalse h6) Y (PureD.opD (p_not Y Y)) ?_
    refine rp Y Y (p_pkf Y Y (bfalse h6) (.same _)) ?_
    refine rp Y Y (p_asg Y Y) ?_
    refine rs [(1, .q 1 (0)), (4, .b (!r'5))] [(1, .pure (GGrant.cs g0))] Y Y Y ?_
    have hz := some_elim H
    subst hz
    exact RunW_nil rfl
 ·refine AW2_cond Y (fun h9 => ?_) (fun h9 => ?_)
  ·replace H := ite_then h9 H
   refine sg [0] Y ?_
   refine rp Y Y (p_asg Y Y) ?_
   refine rz [(2, .i (6 : Int))] [] Y Y Y ?_
   refine AW2_ret ?_
   have hz := some_elim H
   subst hz
   exact ⟨⟨res_tmp (.same _), trivial⟩, trivial⟩
  ·replace H := ite_else (ne_true h9) H
   refine AW2_seq ?_
   refine AW2_mid (⟨[(1, .q 1 (0)), (24, .b (decide ((g0.Right ≠ (1 : Int)) ∧ (g0.Right ≠ (2 : Int)))))], [(1, .pure (GGrant.cs g0))], 47⟩ : TS) ?_ ?_
   ·refine AW2_reg [0, 1, 2, 3, 4, 5, 6, 7, 8] Y ?_
    refine rp Y Y (u_fa Y Y Tryd.underlying47 Y in_3 nz Y Y (nl (GGrant.len g0))) ?_
    refine rp Y Y (u_ld Y Y Tryd.underlying3 Y Y ((Sub.refl _).trans (GGrant.sub3 g0))) ?_
    refine rp Y Y (p_ine Y Y Y) ?_
    refine rp Y Y (p_move Y Y) ?_
    refine (Classical.em (g0.Right ≠ (1 : Int))).elim (fun h10 => ?_) (fun h10 => ?_)
    ·refine r_on Y Y Y Y (dT h10) Y (PureD.opD (u_fa Y Y Tryd.underlying47 Y in_3 nz Y Y (nl (GGrant.len g0)))) ?_
     refine r_on Y Y Y Y (dT h10) Y (PureD.opD (u_ld Y Y Tryd.underlying3 Y Y ((Sub.refl _).trans (GGrant.sub3 g0)))) ?_
     refine r_on Y Y Y Y (dT h10) Y (PureD.opD (p_ine Y Y Y)) ?_
     refine rp Y Y (p_pkt Y Y (dT h10) (tb ((and_l (p := g0.Right ≠ (1 : Int)) (q := g0.Right ≠ (2 : Int)) h10)))) ?_
     refine rp Y Y (p_asg Y Y) ?_
     refine rs [(1, .q 1 (0)), (24, .b (decide ((g0.Right ≠ (1 : Int)) ∧ (g0.Right ≠ (2 : Int)))))] [(1, .pure (GGrant.cs g0))] Y Y Y ?_
     exact RunW_nil rfl
    ·refine r_off Y Y Y Y (dF h10) Y Y ?_
     refine r_off Y Y Y Y (dF h10) Y Y ?_
     refine r_off Y Y Y Y (dF h10) Y Y ?_
     refine rp Y Y (p_pkf Y Y (dF h10) (tb (dF (p := (g0.Right ≠ (1 : Int)) ∧ (g0.Right ≠ (2 : Int))) (fun x => h10 x.1)).symm)) ?_
     refine rp Y Y (p_asg Y Y) ?_
     refine rs [(1, .q 1 (0)), (24, .b (decide ((g0.Right ≠ (1 : Int)) ∧ (g0.Right ≠ (2 : Int)))))] [(1, .pure (GGrant.cs g0))] Y Y Y ?_
     exact RunW_nil rfl
   ·refine AW2_if (p := (g0.Right ≠ (1 : Int)) ∧ (g0.Right ≠ (2 : Int))) Y (fun h11 => ?_) (fun h11 => ?_)
    ·replace H := ite_then h11 H
     refine sg [0] Y ?_
     refine rp Y Y (p_asg Y Y) ?_
     refine rz [(2, .i (2 : Int))] [] Y Y Y ?_
     refine AW2_ret ?_
     have hz := some_elim H
     subst hz
     exact ⟨⟨res_tmp (.same _), trivial⟩, trivial⟩
    ·replace H := ite_else h11 H
     refine AW2_seq ?_
     refine bindK H fun g'8 h14 H => ?_
     refine AW2_mid (⟨[(33, .b g'8)], [], 47⟩ : TS) ?_ ?_
     ·clear H
      have H := h14
      clear h14
      refine (Classical.em (g0.From = g0.To)).elim (fun h12 => ?_) (fun h12 => ?_)
      ·replace H := ite_then h12 H
       have hz := some_elim H
       subst hz
       refine AW2_ghoQ ?_
       refine AW2_draw 11 [11, 12, 13] (fun k => ([.q 1 (0 + 0), .i g0.From, .q 1 (0 + 1), .i g0.To, .b (decide (g0.From = g0.To)), .b (decide (g0.From = g0.To)), .p (.tup []), .p (.tup []), .p (.tup []), .p (.tup []), .p (.tup [])] : List TV).getD k TV.any) (fun k => g_ref_grantBounds_r6.getD k []) [(39, some 5), (41, some 7), (44, some 10)] [] (fun k => g_ref_grantBounds_r6c.getD k []) mixed (by kernel_rfl) Y Y (a_op (g_x Y (x_p Y (u_fa Y Y Tryd.underlying47 Y in_3 nz Y Y (nl (GGrant.len g0))) Y)) (a_op (g_x Y (x_p Y (u_ld Y Y Tryd.underlying3 Y Y ((Sub.refl _).trans (GGrant.sub0 g0))) Y)) (a_op (g_x Y (x_p Y (u_fa Y Y Tryd.underlying47 Y in_3 nz Y Y (nl (GGrant.len g0))) Y)) (a_op (g_x Y (x_p Y (u_ld Y Y Tryd.underlying3 Y Y ((Sub.refl _).trans (GGrant.sub1 g0))) Y)) (a_op (g_x Y (x_p Y (p_ieq Y Y Y) Y)) (a_op (g_x Y (x_p Y (p_move Y Y) Y)) (a_op (g_off Y Y Y Y Y (dT h12) Y Y) (a_op (g_off Y Y Y Y Y (dT h12) Y Y) (a_op (g_off Y Y Y Y Y (dT h12) Y Y) (a_op (g_off Y Y Y Y Y (dT h12) Y Y) (a_op (g_off Y Y Y Y Y (dT h12) Y Y) (a_nil)))))))))))) ?_
       refine t_off Y Y Y Y (dT h12) Y Y ?_
       refine t_op Y Y (PureD.opD (p_pkt Y Y (dT h12) (.same _))) ?_
       refine t_op Y Y (PureD.opD (p_asg Y Y)) ?_
       refine t_gho (Gho_st (L := [(33, .b true)]) (H := []) (N := 47) Y ⟨TLes.same _, trivial⟩ trivial) ?_
       exact rfl
      ·replace H := ite_else h12 H
       refine bindK H fun r'7 h13 H => ?_
       have hz := some_elim H
       subst hz
       refine AW2_ghoQ ?_
       refine AW2_draw 11 [11, 12, 13] (fun k => ([.q 1 (0 + 0), .i g0.From, .q 1 (0 + 1), .i g0.To, .b (decide (g0.From = g0.To)), .b (decide (g0.From = g0.To)), .q 1 (0 + 1), .i g0.To, .q 1 (0 + 2), .i g0.Object, .i r'7] : List TV).getD k TV.any) (fun k => g_ref_grantBounds_r6.getD k []) [(39, some 5), (41, some 7), (44, some 10)] [] (fun k => g_ref_grantBounds_r6c.getD k []) mixed (by kernel_rfl) Y Y (a_op (g_x Y (x_p Y (u_fa Y Y Tryd.underlying47 Y in_3 nz Y Y (nl (GGrant.len g0))) Y)) (a_op (g_x Y (x_p Y (u_ld Y Y Tryd.underlying3 Y Y ((Sub.refl _).trans (GGrant.sub0 g0))) Y)) (a_op (g_x Y (x_p Y (u_fa Y Y Tryd.underlying47 Y in_3 nz Y Y (nl (GGrant.len g0))) Y)) (a_op (g_x Y (x_p Y (u_ld Y Y Tryd.underlying3 Y Y ((Sub.refl _).trans (GGrant.sub1 g0))) Y)) (a_op (g_x Y (x_p Y (p_ieq Y Y Y) Y)) (a_op (g_x Y (x_p Y (p_move Y Y) Y)) (a_op (g_on Y Y Y (dF h12) Y (x_p Y (u_fa Y Y Tryd.underlying47 Y in_3 nz Y Y (nl (GGrant.len g0))) Y)) (a_op (g_on Y Y Y (dF h12) Y (x_p Y (u_ld Y Y Tryd.underlying3 Y Y ((Sub.refl _).trans (GGrant.sub1 g0))) Y)) (a_op (g_on Y Y Y (dF h12) Y (x_p Y (u_fa Y Y Tryd.underlying47 Y in_3 nz Y Y (nl (GGrant.len g0))) Y)) (a_op (g_on Y Y Y (dF h12) Y (x_p Y (u_ld Y Y Tryd.underlying3 Y Y ((Sub.refl _).trans (GGrant.sub2 g0))) Y)) (a_op (g_on Y Y Y (dF h12) Y (x_p Y (p_callp Y Y Y Tryd.func43 Y Y (g_ref_Owner_ac h13) ⟨Y, trivial⟩) Y)) (a_nil)))))))))))) ?_
       refine t_on Y Y Y Y (dF h12) Y (PureD.opD (p_ieq Y Y Y)) ?_
       refine t_op Y Y (PureD.opD (p_pkf Y Y (dF h12) (.same _))) ?_
       refine t_op Y Y (PureD.opD (p_asg Y Y)) ?_
       refine t_gho (Gho_st (L := [(33, .b (decide (g0.To = r'7)))]) (H := []) (N := 47) Y ⟨TLes.same _, trivial⟩ trivial) ?_
       exact rfl
     ·refine AW2_cond Y (fun h15 => ?_) (fun h15 => ?_)
      ·replace H := ite_then h15 H
       refine sg [0] Y ?_
       refine rp Y Y (p_asg Y Y) ?_
       refine rz [(2, .i (3 : Int))] [] Y Y Y ?_
       refine AW2_ret ?_
       have hz := some_elim H
       subst hz
       exact ⟨⟨res_tmp (.same _), trivial⟩, trivial⟩
      ·replace H := ite_else (ne_true h15) H
       refine as2 [] [] Y Y Y ?_
       refine AW2_skip ?_
       refine sg [0] Y ?_
       refine rp Y Y (p_asg Y Y) ?_
       refine rz [(2, .i (0 : Int))] [] Y Y Y ?_
       refine AW2_ret ?_
       have hz := some_elim H
       subst hz
       exact ⟨⟨res_tmp (.same _), trivial⟩, trivial⟩

/-! chirographref.rank -/
noncomputable def g_ref_rank (g0 : GGrant) : Option (Int) :=
  letO (w64 ((w64 ((w64 ((w64 ((w64 ((w64 (g0.Object * (3 : Int))) + g0.Right)) * (3 : Int))) + g0.From)) * (3 : Int))) + g0.To)) fun t2'1 => some t2'1
set_option maxHeartbeats 4000000 in
set_option maxRecDepth 100000 in
theorem g_ref_rank_ac {g0 : GGrant} {r : Int} (H : g_ref_rank g0 = some r) : ACp Tryd.prog 26 [(.agg (GGrant.cs g0))] (AV.int r) := by
 refine ACp_of (AC2_of_body (vs := [.i r]) Tryd.func26 Y Y (Nat.le_of_ble_eq_true Y) Y ?_) (fun _ => .same _)
 unfold g_ref_rank at H
 refine as2 [(0, .g (GGrant.cs g0))] [] Y Y Y ?_
 refine sg [0, 1] Y ?_
 refine r_op Y Y (MakeD.opD (n_box 1 Y Y) Y Y Y Y) ?_
 refine rp Y Y (p_asg Y Y) ?_
 refine rz [(1, .q 1 (0))] [(1, .pure (GGrant.cs g0))] Y Y Y ?_
 refine sg [0, 1, 2, 3, 4, 5, 6, 7, 8, 9, 10, 11, 12, 13, 14] Y ?_
 refine rp Y Y (u_fa Y Y Tryd.underlying47 Y in_3 nz Y Y (nl (GGrant.len g0))) ?_
 refine rp Y Y (u_ld Y Y Tryd.underlying3 Y Y ((Sub.refl _).trans (GGrant.sub2 g0))) ?_
 refine rp Y Y (p_bin Y Y Y Y) ?_
 refine rp Y Y (u_fa Y Y Tryd.underlying47 Y in_3 nz Y Y (nl (GGrant.len g0))) ?_
 refine rp Y Y (u_ld Y Y Tryd.underlying3 Y Y ((Sub.refl _).trans (GGrant.sub3 g0))) ?_
 refine rp Y Y (p_bin Y Y Y Y) ?_
 refine rp Y Y (p_bin Y Y Y Y) ?_
 refine rp Y Y (u_fa Y Y Tryd.underlying47 Y in_3 nz Y Y (nl (GGrant.len g0))) ?_
 refine rp Y Y (u_ld Y Y Tryd.underlying3 Y Y ((Sub.refl _).trans (GGrant.sub0 g0))) ?_
 refine rp Y Y (p_bin Y Y Y Y) ?_
 refine rp Y Y (p_bin Y Y Y Y) ?_
 refine rp Y Y (u_fa Y Y Tryd.underlying47 Y in_3 nz Y Y (nl (GGrant.len g0))) ?_
 refine rp Y Y (u_ld Y Y Tryd.underlying3 Y Y ((Sub.refl _).trans (GGrant.sub1 g0))) ?_
 refine rp Y Y (p_bin Y Y Y Y) ?_
 refine rp Y Y (p_asg Y Y) ?_
 refine rz [(2, .i (w64 ((w64 ((w64 ((w64 ((w64 ((w64 (g0.Object * (3 : Int))) + g0.Right)) * (3 : Int))) + g0.From)) * (3 : Int))) + g0.To)))] [] Y Y Y ?_
 refine gen1 (fun t2'1 => (⟨[(2, .i t2'1)], [], 17⟩ : TS)) H ?_
 intro t2'1 H
 refine AW2_ret ?_
 have hz := some_elim H
 subst hz
 exact ⟨⟨res_tmp (.same _), trivial⟩, trivial⟩

/-! chirographref.Reached -/
noncomputable def g_ref_Reached_l1 (l0 : List GGrant) (object2 : Int) (right3 : Int) : Int × (Vector Bool 3) → Option ((Int × (Vector Bool 3)) ⊕ (((Vector Bool 3))))
  | (t23_1, in9_1) => (if t23_1 < (l0.length : Int) then (if 0 ≤ t23_1 ∧ t23_1 < (l0.length : Int) then ((if ((lrd l0 t23_1.toNat).Option_) = true then (if (lrd l0 t23_1.toNat).Object = object2 then (if (lrd l0 t23_1.toNat).Right = right3 then if 0 ≤ (lrd l0 t23_1.toNat).From ∧ (lrd l0 t23_1.toNat).From < (3 : Int) then some (vrd in9_1 (((lrd l0 t23_1.toNat).From).toNat)) else none else some false) else some false) else some false)).bind fun g'3 => (if g'3 = true then if 0 ≤ (lrd l0 t23_1.toNat).To ∧ (lrd l0 t23_1.toNat).To < (3 : Int) then some (vwr in9_1 (((lrd l0 t23_1.toNat).To).toNat) true) else none else some in9_1) else none).bind fun j'2 => some (.inl (w64 (t23_1 + (1 : Int)), j'2)) else some (.inr in9_1))
noncomputable def g_ref_Reached_l0 (l0 : List GGrant) (object2 : Int) (right3 : Int) : Int × (Vector Bool 3) → Option ((Int × (Vector Bool 3)) ⊕ (((Vector Bool 3))))
  | (i10_0, in9_0) => (if i10_0 < (3 : Int) then (loopO (g_ref_Reached_l1 l0 object2 right3) ((0 : Int), in9_0)).bind fun y'7 => some (.inl (w64 (i10_0 + (1 : Int)), y'7)) else some (.inr in9_0))
noncomputable def g_ref_Reached (l0 : List GGrant) (user1 : Int) (object2 : Int) (right3 : Int) : Option (Bool) :=
  (g_ref_Owner object2).bind fun r'1 => if 0 ≤ r'1 ∧ r'1 < (3 : Int) then (loopO (g_ref_Reached_l0 l0 object2 right3) ((0 : Int), (vwr (Vector.replicate 3 false) r'1.toNat true))).bind fun y'11 => if 0 ≤ user1 ∧ user1 < (3 : Int) then some (vrd y'11 user1.toNat) else none else none
set_option maxHeartbeats 4000000 in
set_option maxRecDepth 100000 in
theorem g_ref_Reached_ac {l0 : List GGrant} {user1 : Int} {object2 : Int} {right3 : Int} {r : Bool} (H : g_ref_Reached l0 user1 object2 right3 = some r) : ACp Tryd.prog 44 [((fun q : List GGrant => AV.lst (q.flatMap GGrant.cs) q.length) l0), (AV.int user1), (AV.int object2), (AV.int right3)] (AV.bool r) := by
 refine ACp_of (AC2_of_body (vs := [.b r]) Tryd.func44 Y Y (Nat.le_of_ble_eq_true Y) Y ?_) (fun _ => .same _)
 unfold g_ref_Reached at H
 refine as2 [(0, .p ((fun q : List GGrant => AV.lst (q.flatMap GGrant.cs) q.length) l0)), (1, .i user1), (2, .i object2), (3, .i right3)] [] Y Y Y ?_
 refine sg [0] Y ?_
 refine rp Y Y (p_asg Y Y) ?_
 refine rz [(0, .p ((fun q : List GGrant => AV.lst (q.flatMap GGrant.cs) q.length) l0)), (1, .i user1), (2, .i object2), (3, .i right3)] [] Y Y Y ?_
 refine sg [0, 1, 2] Y ?_
 refine rp Y Y (u_blda Y in_90 one_90 zc_90 Tryd.underlying90 in_4 Y Y) ?_
 refine r_op Y Y (MakeD.opD (u_alloc 9 Y in_90 one_90 zc_90) Y Y Y Y) ?_
 refine r_op Y Y (u_st Y Y Y Y Y in_90 (vmap_len (f := AV.bool) (Vector.replicate 3 false)) (nl (vmap_len (f := AV.bool) (Vector.replicate 3 false))) (Upd.refl ((vmap_len (f := AV.bool) (Vector.replicate 3 false)).trans (vmap_len (f := AV.bool) (Vector.replicate 3 false)).symm))) ?_
 refine rz [(0, .p ((fun q : List GGrant => AV.lst (q.flatMap GGrant.cs) q.length) l0)), (1, .i user1), (2, .i object2), (3, .i right3), (9, .q 9 (0))] [(9, .pure (((Vector.replicate 3 false).toList).map AV.bool))] Y Y Y ?_
 refine sg [0, 1, 2, 3] Y ?_
 refine rp Y Y (p_move Y Y) ?_
 refine bindK H fun r'1 h1 H => ?_
 refine rp Y Y (p_callp Y Y Y Tryd.func43 Y Y (g_ref_Owner_ac h1) ⟨Y, trivial⟩) ?_
 refine chkK H fun h2 H => ?_
 refine rp Y Y (u_ixp Y Y Tryd.underlying90 in_4 Y Y (nl (vmap_len (f := AV.bool) (Vector.replicate 3 false))) Y (ixe h2) (ixn h2)) ?_
 refine r_op Y Y (u_st Y Y Y Y Y in_4 Y (nl (vmap_len (f := AV.bool) (Vector.replicate 3 false))) (Upd.trans (Sub.refl _) (Upd.vmap (ixn h2)) (Upd.refl ((vmap_len (f := AV.bool) (vwr (Vector.replicate 3 false) r'1.toNat true)).trans (vmap_len (f := AV.bool) (Vector.replicate 3 false)).symm)))) ?_
 refine rz [(0, .p ((fun q : List GGrant => AV.lst (q.flatMap GGrant.cs) q.length) l0)), (1, .i user1), (2, .i object2), (3, .i right3), (9, .q 9 (0))] [(9, .pure (((vwr (Vector.replicate 3 false) r'1.toNat true).toList).map AV.bool))] Y Y Y ?_
 refine AW2_seq ?_
 refine sg [0] Y ?_
 refine rp Y Y (p_asg Y Y) ?_
 refine rz [(0, .p ((fun q : List GGrant => AV.lst (q.flatMap GGrant.cs) q.length) l0)), (1, .i user1), (2, .i object2), (3, .i right3), (9, .q 9 (0)), (10, .i (0 : Int))] [(9, .pure (((vwr (Vector.replicate 3 false) r'1.toNat true).toList).map AV.bool))] Y Y Y ?_
 refine AW2_block ?_
 refine as2 [(0, .p ((fun q : List GGrant => AV.lst (q.flatMap GGrant.cs) q.length) l0)), (1, .i user1), (2, .i object2), (3, .i right3), (9, .q 9 (0)), (10, .i (0 : Int))] [(9, .pure (((vwr (Vector.replicate 3 false) r'1.toNat true).toList).map AV.bool))] Y Y Y ?_
 refine bindK H fun y'11 h17 H => ?_
 refine AW2_loopO (fun a'8 : Int × (Vector Bool 3) => (⟨[(0, .p ((fun q : List GGrant => AV.lst (q.flatMap GGrant.cs) q.length) l0)), (1, .i user1), (2, .i object2), (3, .i right3), (9, .q 9 (0)), (10, .i a'8.1)], [(9, .pure (a'8.2.toList.map AV.bool))], 54⟩ : TS)) (fun (y'9 : ((Vector Bool 3))) e s' => e = Go.Exit.exit 0 ∧ s' = (⟨[(1, .i user1), (9, .q 9 (0))], [(9, .pure (y'9.toList.map AV.bool))], 54⟩ : TS)) h17 Y (fun a x hx => ?_) (fun e s' hs => ?_)
 ·clear H
  obtain ⟨i10_0, in9_0⟩ := a
  have H := hx
  clear hx
  unfold g_ref_Reached_l0 at H
  refine AW2_seq ?_
  refine sg [0, 1] Y ?_
  refine rp Y Y (p_move Y Y) ?_
  refine rp Y Y (p_bin Y Y Y Y) ?_
  refine rz [(0, .p ((fun q : List GGrant => AV.lst (q.flatMap GGrant.cs) q.length) l0)), (1, .i user1), (2, .i object2), (3, .i right3), (9, .q 9 (0)), (10, .i i10_0), (18, .b (decide (i10_0 < (3 : Int))))] [(9, .pure (in9_0.toList.map AV.bool))] Y Y Y ?_
  refine AW2_if (p := i10_0 < (3 : Int)) Y (fun h3 => ?_) (fun h3 => ?_)
  ·replace H := ite_then h3 H
   refine as2 [(0, .p ((fun q : List GGrant => AV.lst (q.flatMap GGrant.cs) q.length) l0)), (1, .i user1), (2, .i object2), (3, .i right3), (9, .q 9 (0)), (10, .i i10_0)] [(9, .pure (in9_0.toList.map AV.bool))] Y Y Y ?_
   refine AW2_skip ?_
   refine AW2_seq ?_
   refine AW2_block ?_
   refine sg [0, 1, 2] Y ?_
   refine rp Y Y (p_move Y Y) ?_
   refine rp Y Y (p_lenl Y Tryd.underlying32 Y Y) ?_
   refine rp Y Y (p_move Y Y) ?_
   refine rz [(0, .p ((fun q : List GGrant => AV.lst (q.flatMap GGrant.cs) q.length) l0)), (1, .i user1), (2, .i object2), (3, .i right3), (9, .q 9 (0)), (10, .i i10_0), (21, .p ((fun q : List GGrant => AV.lst (q.flatMap GGrant.cs) q.length) l0)), (22, .i (l0.length : Int)), (23, .i (0 : Int))] [(9, .pure (in9_0.toList.map AV.bool))] Y Y Y ?_
   refine AW2_block ?_
   refine as2 [(0, .p ((fun q : List GGrant => AV.lst (q.flatMap GGrant.cs) q.length) l0)), (1, .i user1), (2, .i object2), (3, .i right3), (9, .q 9 (0)), (10, .i i10_0), (21, .p ((fun q : List GGrant => AV.lst (q.flatMap GGrant.cs) q.length) l0)), (22, .i (l0.length : Int)), (23, .i (0 : Int))] [(9, .pure (in9_0.toList.map AV.bool))] Y Y Y ?_
   refine bindK H fun y'7 h16 H => ?_
   refine AW2_loopO (fun a'4 : Int × (Vector Bool 3) => (⟨[(0, .p ((fun q : List GGrant => AV.lst (q.flatMap GGrant.cs) q.length) l0)), (1, .i user1), (2, .i object2), (3, .i right3), (9, .q 9 (0)), (10, .i i10_0), (21, .p ((fun q : List GGrant => AV.lst (q.flatMap GGrant.cs) q.length) l0)), (22, .i (l0.length : Int)), (23, .i a'4.1)], [(9, .pure (a'4.2.toList.map AV.bool))], 54⟩ : TS)) (fun (y'5 : ((Vector Bool 3))) e s' => e = Go.Exit.exit 2 ∧ s' = (⟨[(0, .p ((fun q : List GGrant => AV.lst (q.flatMap GGrant.cs) q.length) l0)), (1, .i user1), (2, .i object2), (3, .i right3), (9, .q 9 (0)), (10, .i i10_0)], [(9, .pure (y'5.toList.map AV.bool))], 54⟩ : TS)) h16 Y (fun a x hx => ?_) (fun e s' hs => ?_)
   ·clear H
    obtain ⟨t23_1, in9_1⟩ := a
    have H := hx
    clear hx
    unfold g_ref_Reached_l1 at H
    refine sg [0] Y ?_
    refine rp Y Y (p_bin Y Y Y Y) ?_
    refine rz [(0, .p ((fun q : List GGrant => AV.lst (q.flatMap GGrant.cs) q.length) l0)), (1, .i user1), (2, .i object2), (3, .i right3), (9, .q 9 (0)), (10, .i i10_0), (21, .p ((fun q : List GGrant => AV.lst (q.flatMap GGrant.cs) q.length) l0)), (22, .i (l0.length : Int)), (23, .i t23_1), (24, .b (decide (t23_1 < (l0.length : Int))))] [(9, .pure (in9_1.toList.map AV.bool))] Y Y Y ?_
    refine AW2_seq ?_
    refine AW2_if (p := t23_1 < (l0.length : Int)) Y (fun h4 => ?_) (fun h4 => ?_)
    ·replace H := ite_then h4 H
     refine as2 [(0, .p ((fun q : List GGrant => AV.lst (q.flatMap GGrant.cs) q.length) l0)), (1, .i user1), (2, .i object2), (3, .i right3), (9, .q 9 (0)), (10, .i i10_0), (21, .p ((fun q : List GGrant => AV.lst (q.flatMap GGrant.cs) q.length) l0)), (22, .i (l0.length : Int)), (23, .i t23_1)] [(9, .pure (in9_1.toList.map AV.bool))] Y Y Y ?_
     refine AW2_skip ?_
     refine AW2_seq ?_
     refine bindK H fun j'2 h5 H => ?_
     refine AW2_mid (⟨[(0, .p ((fun q : List GGrant => AV.lst (q.flatMap GGrant.cs) q.length) l0)), (1, .i user1), (2, .i object2), (3, .i right3), (9, .q 9 (0)), (10, .i i10_0), (21, .p ((fun q : List GGrant => AV.lst (q.flatMap GGrant.cs) q.length) l0)), (22, .i (l0.length : Int)), (23, .i t23_1)], [(9, .pure (j'2.toList.map AV.bool))], 54⟩ : TS) ?_ ?_
     ·clear H
      have H := h5
      clear h5
      refine AW2_block ?_
      refine sg [0, 1, 2, 3] Y ?_
      refine chkK H fun h6 H => ?_
      refine rp Y Y (u_ixl Y Y Tryd.underlying32 in_47 Y Y (ixe h6) (ixn h6) (fne (fun x => (GGrant.len x)) (by decide) (ixn h6))) ?_
      refine rp Y Y (u_lda Y Y Tryd.underlying47 Y in_47 Y (Nat.succ_pos _) (Sub.fm default (fun x => (GGrant.len x)) (ixn h6)) (GGrant.len (lrd l0 t23_1.toNat))) ?_
      refine r_op Y Y (MakeD.opD (u_alloc 12 Y in_47 one_47 zc_47) Y Y Y Y) ?_
      refine r_op Y Y (u_st Y Y Y Y Y in_47 (GGrant.len (lrd l0 t23_1.toNat)) (nl (GGrant.len GGrant.zero)) (Upd.refl ((GGrant.len (lrd l0 t23_1.toNat)).trans (GGrant.len GGrant.zero).symm))) ?_
      refine rz [(0, .p ((fun q : List GGrant => AV.lst (q.flatMap GGrant.cs) q.length) l0)), (1, .i user1), (2, .i object2), (3, .i right3), (9, .q 9 (0)), (10, .i i10_0), (12, .q 12 (0)), (21, .p ((fun q : List GGrant => AV.lst (q.flatMap GGrant.cs) q.length) l0)), (22, .i (l0.length : Int)), (23, .i t23_1)] [(9, .pure (in9_1.toList.map AV.bool)), (12, .pure (GGrant.cs (lrd l0 t23_1.toNat)))] Y Y Y ?_
      refine AW2_seq ?_
      refine bindK H fun g'3 h12 H => ?_
      refine AW2_mid (⟨[(0, .p ((fun q : List GGrant => AV.lst (q.flatMap GGrant.cs) q.length) l0)), (1, .i user1), (2, .i object2), (3, .i right3), (9, .q 9 (0)), (10, .i i10_0), (12, .q 12 (0)), (21, .p ((fun q : List GGrant => AV.lst (q.flatMap GGrant.cs) q.length) l0)), (22, .i (l0.length : Int)), (23, .i t23_1), (46, .b g'3)], [(9, .pure (in9_1.toList.map AV.bool)), (12, .pure (GGrant.cs (lrd l0 t23_1.toNat)))], 54⟩ : TS) ?_ ?_
      ·clear H
       have H := h12
       clear h12
       refine AW2_reg [0, 1, 2, 3, 4, 5, 6, 7, 8, 9, 10, 11, 12, 13, 14, 15, 16, 17, 18, 19] Y ?_
       refine rp Y Y (u_fa Y Y Tryd.underlying47 Y in_4 nz Y Y (nl (GGrant.len (lrd l0 t23_1.toNat)))) ?_
       refine rp Y Y (u_ld Y Y Tryd.underlying4 Y Y ((Sub.refl _).trans (GGrant.sub4 (lrd l0 t23_1.toNat)))) ?_
       refine rp Y Y (p_move Y Y) ?_
       refine (Classical.em (((lrd l0 t23_1.toNat).Option_) = true)).elim (fun h8 => ?_) (fun h8 => ?_)
       ·replace H := ite_then h8 H
        refine rn Y Y Y Y h8 Y (u_fa Y Y Tryd.underlying47 Y in_3 nz Y Y (nl (GGrant.len (lrd l0 t23_1.toNat)))) ?_
        refine rn Y Y Y Y h8 Y (u_ld Y Y Tryd.underlying3 Y Y ((Sub.refl _).trans (GGrant.sub2 (lrd l0 t23_1.toNat)))) ?_
        refine rn Y Y Y Y h8 Y (p_move Y Y) ?_
        refine rn Y Y Y Y h8 Y (p_ieq Y Y Y) ?_
        refine rp Y Y (p_pkt Y Y h8 (.same _)) ?_
        refine rp Y Y (p_move Y Y) ?_
        refine (Classical.em ((lrd l0 t23_1.toNat).Object = object2)).elim (fun h9 => ?_) (fun h9 => ?_)
        ·replace H := ite_then h9 H
         refine r_on Y Y Y Y (dT h9) Y (PureD.opD (u_fa Y Y Tryd.underlying47 Y in_3 nz Y Y (nl (GGrant.len (lrd l0 t23_1.toNat))))) ?_
         refine r_on Y Y Y Y (dT h9) Y (PureD.opD (u_ld Y Y Tryd.underlying3 Y Y ((Sub.refl _).trans (GGrant.sub3 (lrd l0 t23_1.toNat))))) ?_
         refine r_on Y Y Y Y (dT h9) Y (PureD.opD (p_move Y Y)) ?_
         refine r_on Y Y Y Y (dT h9) Y (PureD.opD (p_ieq Y Y Y)) ?_
         refine rp Y Y (p_pkt Y Y (dT h9) (.same _)) ?_
         refine rp Y Y (p_move Y Y) ?_
         refine (Classical.em ((lrd l0 t23_1.toNat).Right = right3)).elim (fun h10 => ?_) (fun h10 => ?_)
         ·replace H := ite_then h10 H
          refine r_on Y Y Y Y (dT h10) Y (PureD.opD (u_fa Y Y Tryd.underlying47 Y in_3 nz Y Y (nl (GGrant.len (lrd l0 t23_1.toNat))))) ?_
          refine r_on Y Y Y Y (dT h10) Y (PureD.opD (u_ld Y Y Tryd.underlying3 Y Y ((Sub.refl _).trans (GGrant.sub0 (lrd l0 t23_1.toNat))))) ?_
          refine chkK H fun h11 H => ?_
          refine r_on Y Y Y Y (dT h10) Y (PureD.opD (u_ixp Y Y Tryd.underlying90 in_4 Y Y (nl (vmap_len (f := AV.bool) in9_1)) Y (ixe h11) (ixn h11))) ?_
          refine r_on Y Y Y Y (dT h10) Y (PureD.opD (u_ld Y Y Tryd.underlying4 Y Y ((Sub.refl _).trans (Sub.vmap (ixn h11))))) ?_
          refine rp Y Y (p_pkt Y Y (dT h10) (.same _)) ?_
          refine rs [(0, .p ((fun q : List GGrant => AV.lst (q.flatMap GGrant.cs) q.length) l0)), (1, .i user1), (2, .i object2), (3, .i right3), (9, .q 9 (0)), (10, .i i10_0), (12, .q 12 (0)), (21, .p ((fun q : List GGrant => AV.lst (q.flatMap GGrant.cs) q.length) l0)), (22, .i (l0.length : Int)), (23, .i t23_1), (46, .b (vrd in9_1 (((lrd l0 t23_1.toNat).From).toNat)))] [(9, .pure (in9_1.toList.map AV.bool)), (12, .pure (GGrant.cs (lrd l0 t23_1.toNat)))] Y Y Y ?_
          have hz := some_elim H
          subst hz
          exact RunW_nil rfl
         ·replace H := ite_else h10 H
          refine r_off Y Y Y Y (dF h10) Y Y ?_
          refine r_off Y Y Y Y (dF h10) Y Y ?_
          refine r_off Y Y Y Y (dF h10) Y Y ?_
          refine r_off Y Y Y Y (dF h10) Y Y ?_
          refine rp Y Y (p_pkf Y Y (dF h10) (.same _)) ?_
          refine rs [(0, .p ((fun q : List GGrant => AV.lst (q.flatMap GGrant.cs) q.length) l0)), (1, .i user1), (2, .i object2), (3, .i right3), (9, .q 9 (0)), (10, .i i10_0), (12, .q 12 (0)), (21, .p ((fun q : List GGrant => AV.lst (q.flatMap GGrant.cs) q.length) l0)), (22, .i (l0.length : Int)), (23, .i t23_1), (46, .b false)] [(9, .pure (in9_1.toList.map AV.bool)), (12, .pure (GGrant.cs (lrd l0 t23_1.toNat)))] Y Y Y ?_
          have hz := some_elim H
          subst hz
          exact RunW_nil rfl
        ·replace H := ite_else h9 H
         refine r_off Y Y Y Y (dF h9) Y Y ?_
         refine r_off Y Y Y Y (dF h9) Y Y ?_
         refine r_off Y Y Y Y (dF h9) Y Y ?_
         refine r_off Y Y Y Y (dF h9) Y Y ?_
         refine rp Y Y (p_pkf Y Y (dF h9) (.same _)) ?_
         refine rp Y Y (p_move Y Y) ?_
         refine r_off Y Y Y Y (bfalse (by decide)) Y Y ?_
         refine r_off Y Y Y Y (bfalse (by decide)) Y Y ?_
         refine r_off Y Y Y Y (bfalse (by decide)) Y Y ?_
         refine r_off Y Y Y Y (bfalse (by decide)) Y Y ?_
         refine rp Y Y (p_pkf Y Y (bfalse (by decide)) (.same _)) ?_
         refine rs [(0, .p ((fun q : List GGrant => AV.lst (q.flatMap GGrant.cs) q.length) l0)), (1, .i user1), (2, .i object2), (3, .i right3), (9, .q 9 (0)), (10, .i i10_0), (12, .q 12 (0)), (21, .p ((fun q : List GGrant => AV.lst (q.flatMap GGrant.cs) q.length) l0)), (22, .i (l0.length : Int)), (23, .i t23_1), (46, .b false)] [(9, .pure (in9_1.toList.map AV.bool)), (12, .pure (GGrant.cs (lrd l0 t23_1.toNat)))] Y Y Y ?_
         have hz := some_elim H
         subst hz
         exact RunW_nil rfl
       ·replace H := ite_else h8 H
        refine r_off Y Y Y Y (bfalse h8) Y Y ?_
        refine r_off Y Y Y Y (bfalse h8) Y Y ?_
        refine r_off Y Y Y Y (bfalse h8) Y Y ?_
        refine r_off Y Y Y Y (bfalse h8) Y Y ?_
        refine rp Y Y (p_pkf Y Y (bfalse h8) (.same _)) ?_
        refine rp Y Y (p_move Y Y) ?_
        refine r_off Y Y Y Y (bfalse (by decide)) Y Y ?_
        refine r_off Y Y Y Y (bfalse (by decide)) Y Y ?_
        refine r_off Y Y Y Y (bfalse (by decide)) Y Y ?_
        refine r_off Y Y Y Y (bfalse (by decide)) Y Y ?_
        refine rp Y Y (p_pkf Y Y (bfalse (by decide)) (.same _)) ?_
        refine rp Y Y (p_move Y Y) ?_
        refine r_off Y Y Y Y (bfalse (by decide)) Y Y ?_
        refine r_off Y Y Y Y (bfalse (by decide)) Y Y ?_
        refine r_off Y Y Y Y (bfalse (by decide)) Y Y ?_
        refine r_off Y Y Y Y (bfalse (by decide)) Y Y ?_
        refine rp Y Y (p_pkf Y Y (bfalse (by decide)) (.same _)) ?_
        refine rs [(0, .p ((fun q : List GGrant => AV.lst (q.flatMap GGrant.cs) q.length) l0)), (1, .i user1), (2, .i object2), (3, .i right3), (9, .q 9 (0)), (10, .i i10_0), (12, .q 12 (0)), (21, .p ((fun q : List GGrant => AV.lst (q.flatMap GGrant.cs) q.length) l0)), (22, .i (l0.length : Int)), (23, .i t23_1), (46, .b false)] [(9, .pure (in9_1.toList.map AV.bool)), (12, .pure (GGrant.cs (lrd l0 t23_1.toNat)))] Y Y Y ?_
        have hz := some_elim H
        subst hz
        exact RunW_nil rfl
      ·refine AW2_cond Y (fun h13 => ?_) (fun h13 => ?_)
       ·replace H := ite_then h13 H
        refine AW2_reg [0, 1, 2, 3] Y ?_
        refine rp Y Y (u_fa Y Y Tryd.underlying47 Y in_3 nz Y Y (nl (GGrant.len (lrd l0 t23_1.toNat)))) ?_
        refine rp Y Y (u_ld Y Y Tryd.underlying3 Y Y ((Sub.refl _).trans (GGrant.sub1 (lrd l0 t23_1.toNat)))) ?_
        refine chkK H fun h14 H => ?_
        refine rp Y Y (u_ixp Y Y Tryd.underlying90 in_4 Y Y (nl (vmap_len (f := AV.bool) in9_1)) Y (ixe h14) (ixn h14)) ?_
        refine r_op Y Y (u_st Y Y Y Y Y in_4 Y (nl (vmap_len (f := AV.bool) in9_1)) (Upd.trans (Sub.refl _) (Upd.vmap (ixn h14)) (Upd.refl ((vmap_len (f := AV.bool) (vwr in9_1 (((lrd l0 t23_1.toNat).To).toNat) true)).trans (vmap_len (f := AV.bool) in9_1).symm)))) ?_
        refine rz [(0, .p ((fun q : List GGrant => AV.lst (q.flatMap GGrant.cs) q.length) l0)), (1, .i user1), (2, .i object2), (3, .i right3), (9, .q 9 (0)), (10, .i i10_0), (21, .p ((fun q : List GGrant => AV.lst (q.flatMap GGrant.cs) q.length) l0)), (22, .i (l0.length : Int)), (23, .i t23_1)] [(9, .pure (((vwr in9_1 (((lrd l0 t23_1.toNat).To).toNat) true).toList).map AV.bool))] Y Y Y ?_
        have hz := some_elim H
        subst hz
        exact rfl
       ·replace H := ite_else (ne_true h13) H
        refine as2 [(0, .p ((fun q : List GGrant => AV.lst (q.flatMap GGrant.cs) q.length) l0)), (1, .i user1), (2, .i object2), (3, .i right3), (9, .q 9 (0)), (10, .i i10_0), (21, .p ((fun q : List GGrant => AV.lst (q.flatMap GGrant.cs) q.length) l0)), (22, .i (l0.length : Int)), (23, .i t23_1)] [(9, .pure (in9_1.toList.map AV.bool))] Y Y Y ?_
        refine AW2_skip ?_
        have hz := some_elim H
        subst hz
        exact rfl
     ·refine AW2_reg [0, 1] Y ?_
      refine rp Y Y (p_bin Y Y Y Y) ?_
      refine rp Y Y (p_move Y Y) ?_
      refine rz [(0, .p ((fun q : List GGrant => AV.lst (q.flatMap GGrant.cs) q.length) l0)), (1, .i user1), (2, .i object2), (3, .i right3), (9, .q 9 (0)), (10, .i i10_0), (21, .p ((fun q : List GGrant => AV.lst (q.flatMap GGrant.cs) q.length) l0)), (22, .i (l0.length : Int)), (23, .i (w64 (t23_1 + (1 : Int))))] [(9, .pure (j'2.toList.map AV.bool))] Y Y Y ?_
      have hz := some_elim H
      subst hz
      exact ⟨Y, Y⟩
    ·replace H := ite_else h4 H
     refine as2 [(0, .p ((fun q : List GGrant => AV.lst (q.flatMap GGrant.cs) q.length) l0)), (1, .i user1), (2, .i object2), (3, .i right3), (9, .q 9 (0)), (10, .i i10_0)] [(9, .pure (in9_1.toList.map AV.bool))] Y Y Y ?_
     refine AW2_exit ?_
     refine thenQ2_exit ?_
     have hz := some_elim H
     subst hz
     exact ⟨Y, Y⟩
   ·obtain ⟨rfl, rfl⟩ := hs
    refine ⟨by simp, ?_⟩
    refine blockQ2_exit ?_
    refine AW2_reg [0, 1, 2] Y ?_
    refine rp Y Y (p_move Y Y) ?_
    refine rp Y Y (p_bin Y Y Y Y) ?_
    refine rp Y Y (p_asg Y Y) ?_
    refine rz [(0, .p ((fun q : List GGrant => AV.lst (q.flatMap GGrant.cs) q.length) l0)), (1, .i user1), (2, .i object2), (3, .i right3), (9, .q 9 (0)), (10, .i (w64 (i10_0 + (1 : Int))))] [(9, .pure (y'7.toList.map AV.bool))] Y Y Y ?_
    have hz := some_elim H
    subst hz
    exact ⟨Y, Y⟩
  ·replace H := ite_else h3 H
   refine as2 [(1, .i user1), (9, .q 9 (0))] [(9, .pure (in9_0.toList.map AV.bool))] Y Y Y ?_
   refine AW2_exit ?_
   refine thenQ2_exit ?_
   have hz := some_elim H
   subst hz
   exact ⟨Y, Y⟩
 ·obtain ⟨rfl, rfl⟩ := hs
  refine ⟨by simp, ?_⟩
  refine blockQ2_exit ?_
  refine sg [0, 1, 2, 3] Y ?_
  refine rp Y Y (p_move Y Y) ?_
  refine chkK H fun h18 H => ?_
  refine rp Y Y (u_ixp Y Y Tryd.underlying90 in_4 Y Y (nl (vmap_len (f := AV.bool) y'11)) Y (ixe h18) (ixn h18)) ?_
  refine rp Y Y (u_ld Y Y Tryd.underlying4 Y Y ((Sub.refl _).trans (Sub.vmap (ixn h18)))) ?_
  refine rp Y Y (p_asg Y Y) ?_
  refine rz [(8, .b (vrd y'11 user1.toNat))] [] Y Y Y ?_
  refine AW2_ret ?_
  have hz := some_elim H
  subst hz
  exact ⟨⟨res_tmp (.same _), trivial⟩, trivial⟩

/-! chirographref.Stands -/
noncomputable def g_ref_Stands_l0 (l0 : List GGrant) : Int × (List GGrant) → Option ((Int × (List GGrant)) ⊕ (((List GGrant))))
  | (t8_0, out3_0) => (if t8_0 < (l0.length : Int) then (if 0 ≤ t8_0 ∧ t8_0 < (l0.length : Int) then (g_ref_Reached l0 ((lrd l0 t8_0.toNat).From) ((lrd l0 t8_0.toNat).Object) ((lrd l0 t8_0.toNat).Right)).bind fun r'2 => (if r'2 = true then if room (out3_0.length + ([(lrd l0 t8_0.toNat)] : List GGrant).length) 40 then some (out3_0 ++ ([(lrd l0 t8_0.toNat)] : List GGrant)) else none else some out3_0) else none).bind fun j'1 => some (.inl (w64 (t8_0 + (1 : Int)), j'1)) else some (.inr out3_0))
noncomputable def g_ref_Stands (l0 : List GGrant) : Option ((List GGrant)) :=
  (loopO (g_ref_Stands_l0 l0) ((0 : Int), ([] : List GGrant))).bind fun y'6 => some y'6
set_option maxHeartbeats 4000000 in
set_option maxRecDepth 100000 in
theorem g_ref_Stands_ac2 {l0 : List GGrant} {r : (List GGrant)} (H : g_ref_Stands l0 = some r) : AC2 Tryd.prog 27 (pureT [((fun q : List GGrant => AV.lst (q.flatMap GGrant.cs) q.length) l0)]) [] (.c (.own 2 r.length 5)) [(2, .pure (r.flatMap GGrant.cs))] := by
 refine AC2_of_body (vs := [.c (.own 2 r.length 5)]) Tryd.func27 Y Y (Nat.le_of_ble_eq_true Y) Y ?_
 unfold g_ref_Stands at H
 refine as2 [(0, .p ((fun q : List GGrant => AV.lst (q.flatMap GGrant.cs) q.length) l0))] [] Y Y Y ?_
 refine sg [0] Y ?_
 refine rp Y Y (p_asgn Y) ?_
 refine rz [(0, .p ((fun q : List GGrant => AV.lst (q.flatMap GGrant.cs) q.length) l0))] [] Y Y Y ?_
 refine sg [0] Y ?_
 refine rp Y Y (p_asgn Y) ?_
 refine rz [(0, .p ((fun q : List GGrant => AV.lst (q.flatMap GGrant.cs) q.length) l0)), (3, .p .nil)] [] Y Y Y ?_
 refine AW2_seq ?_
 refine sg [0, 1, 2] Y ?_
 refine rp Y Y (p_move Y Y) ?_
 refine rp Y Y (p_lenl Y Tryd.underlying32 Y Y) ?_
 refine rp Y Y (p_move Y Y) ?_
 refine rz [(0, .p ((fun q : List GGrant => AV.lst (q.flatMap GGrant.cs) q.length) l0)), (3, .p .nil), (6, .p ((fun q : List GGrant => AV.lst (q.flatMap GGrant.cs) q.length) l0)), (7, .i (l0.length : Int)), (8, .i (0 : Int))] [] Y Y Y ?_
 refine AW2_block ?_
 refine as2 [(0, .p ((fun q : List GGrant => AV.lst (q.flatMap GGrant.cs) q.length) l0)), (3, .p .nil), (6, .p ((fun q : List GGrant => AV.lst (q.flatMap GGrant.cs) q.length) l0)), (7, .i (l0.length : Int)), (8, .i (0 : Int))] [] Y Y Y ?_
 refine AW2_gho (Gho_own (d := 3) (b := 3) (z := 5) Y Y Y Y) ?_
 refine AW2_st [(0, .p ((fun q : List GGrant => AV.lst (q.flatMap GGrant.cs) q.length) l0)), (3, .c (.own 3 ([] : List GGrant).length 5)), (6, .p ((fun q : List GGrant => AV.lst (q.flatMap GGrant.cs) q.length) l0)), (7, .i (l0.length : Int)), (8, .i (0 : Int))] [(3, .pure (([] : List GGrant).flatMap GGrant.cs))] Y ⟨TLes.same _, TLes.own Y, TLes.same _, TLes.same _, TLes.same _, trivial⟩ ⟨Y, trivial⟩ ?_
 refine bindK H fun y'6 h7 H => ?_
 refine AW2_loopO (fun a'3 : Int × (List GGrant) => (⟨[(0, .p ((fun q : List GGrant => AV.lst (q.flatMap GGrant.cs) q.length) l0)), (3, .c (.own 3 a'3.2.length 5)), (6, .p ((fun q : List GGrant => AV.lst (q.flatMap GGrant.cs) q.length) l0)), (7, .i (l0.length : Int)), (8, .i a'3.1)], [(3, .pure (a'3.2.flatMap GGrant.cs))], 26⟩ : TS)) (fun (y'4 : ((List GGrant))) e s' => e = Go.Exit.exit 0 ∧ s' = (⟨[(3, .c (.own 3 y'4.length 5))], [(3, .pure (y'4.flatMap GGrant.cs))], 26⟩ : TS)) h7 Y (fun a x hx => ?_) (fun e s' hs => ?_)
 ·clear H
  obtain ⟨t8_0, out3_0⟩ := a
  have H := hx
  clear hx
  unfold g_ref_Stands_l0 at H
  refine sg [0] Y ?_
  refine rp Y Y (p_bin Y Y Y Y) ?_
  refine rz [(0, .p ((fun q : List GGrant => AV.lst (q.flatMap GGrant.cs) q.length) l0)), (3, .c (.own 3 out3_0.length 5)), (6, .p ((fun q : List GGrant => AV.lst (q.flatMap GGrant.cs) q.length) l0)), (7, .i (l0.length : Int)), (8, .i t8_0), (9, .b (decide (t8_0 < (l0.length : Int))))] [(3, .pure (out3_0.flatMap GGrant.cs))] Y Y Y ?_
  refine AW2_seq ?_
  refine AW2_if (p := t8_0 < (l0.length : Int)) Y (fun h1 => ?_) (fun h1 => ?_)
  ·replace H := ite_then h1 H
   refine as2 [(0, .p ((fun q : List GGrant => AV.lst (q.flatMap GGrant.cs) q.length) l0)), (3, .c (.own 3 out3_0.length 5)), (6, .p ((fun q : List GGrant => AV.lst (q.flatMap GGrant.cs) q.length) l0)), (7, .i (l0.length : Int)), (8, .i t8_0)] [(3, .pure (out3_0.flatMap GGrant.cs))] Y Y Y ?_
   refine AW2_skip ?_
   refine AW2_seq ?_
   refine bindK H fun j'1 h2 H => ?_
   refine AW2_mid (⟨[(0, .p ((fun q : List GGrant => AV.lst (q.flatMap GGrant.cs) q.length) l0)), (3, .c (.own 3 j'1.length 5)), (6, .p ((fun q : List GGrant => AV.lst (q.flatMap GGrant.cs) q.length) l0)), (7, .i (l0.length : Int)), (8, .i t8_0)], [(3, .pure (j'1.flatMap GGrant.cs))], 26⟩ : TS) ?_ ?_
   ·clear H
    have H := h2
    clear h2
    refine AW2_block ?_
    refine sg [0, 1, 2, 3] Y ?_
    refine chkK H fun h3 H => ?_
    refine rp Y Y (u_ixl Y Y Tryd.underlying32 in_47 Y Y (ixe h3) (ixn h3) (fne (fun x => (GGrant.len x)) (by decide) (ixn h3))) ?_
    refine rp Y Y (u_lda Y Y Tryd.underlying47 Y in_47 Y (Nat.succ_pos _) (Sub.fm default (fun x => (GGrant.len x)) (ixn h3)) (GGrant.len (lrd l0 t8_0.toNat))) ?_
    refine r_op Y Y (MakeD.opD (u_alloc 5 Y in_47 one_47 zc_47) Y Y Y Y) ?_
    refine r_op Y Y (u_st Y Y Y Y Y in_47 (GGrant.len (lrd l0 t8_0.toNat)) (nl (GGrant.len GGrant.zero)) (Upd.refl ((GGrant.len (lrd l0 t8_0.toNat)).trans (GGrant.len GGrant.zero).symm))) ?_
    refine rz [(0, .p ((fun q : List GGrant => AV.lst (q.flatMap GGrant.cs) q.length) l0)), (3, .c (.own 3 out3_0.length 5)), (5, .q 5 (0)), (6, .p ((fun q : List GGrant => AV.lst (q.flatMap GGrant.cs) q.length) l0)), (7, .i (l0.length : Int)), (8, .i t8_0)] [(3, .pure (out3_0.flatMap GGrant.cs)), (5, .pure (GGrant.cs (lrd l0 t8_0.toNat)))] Y Y Y ?_
    refine sg [0, 1, 2, 3, 4, 5, 6, 7] Y ?_
    refine rp Y Y (p_move Y Y) ?_
    refine rp Y Y (u_fa Y Y Tryd.underlying47 Y in_3 nz Y Y (nl (GGrant.len (lrd l0 t8_0.toNat)))) ?_
    refine rp Y Y (u_ld Y Y Tryd.underlying3 Y Y ((Sub.refl _).trans (GGrant.sub0 (lrd l0 t8_0.toNat)))) ?_
    refine rp Y Y (u_fa Y Y Tryd.underlying47 Y in_3 nz Y Y (nl (GGrant.len (lrd l0 t8_0.toNat)))) ?_
    refine rp Y Y (u_ld Y Y Tryd.underlying3 Y Y ((Sub.refl _).trans (GGrant.sub2 (lrd l0 t8_0.toNat)))) ?_
    refine rp Y Y (u_fa Y Y Tryd.underlying47 Y in_3 nz Y Y (nl (GGrant.len (lrd l0 t8_0.toNat)))) ?_
    refine rp Y Y (u_ld Y Y Tryd.underlying3 Y Y ((Sub.refl _).trans (GGrant.sub3 (lrd l0 t8_0.toNat)))) ?_
    refine bindK H fun r'2 h4 H => ?_
    refine rp Y Y (p_callp Y Y Y Tryd.func44 Y Y (g_ref_Reached_ac h4) ⟨Y, Y, Y, Y, trivial⟩) ?_
    refine rz [(0, .p ((fun q : List GGrant => AV.lst (q.flatMap GGrant.cs) q.length) l0)), (3, .c (.own 3 out3_0.length 5)), (5, .q 5 (0)), (6, .p ((fun q : List GGrant => AV.lst (q.flatMap GGrant.cs) q.length) l0)), (7, .i (l0.length : Int)), (8, .i t8_0), (19, .b r'2)] [(3, .pure (out3_0.flatMap GGrant.cs)), (5, .pure (GGrant.cs (lrd l0 t8_0.toNat)))] Y Y Y ?_
    refine AW2_cond Y (fun h5 => ?_) (fun h5 => ?_)
    ·replace H := ite_then h5 H
     refine AW2_reg [0, 1, 2, 3, 4] Y ?_
     refine rp Y Y (p_move Y Y) ?_
     refine rp Y Y (u_lda Y Y Tryd.underlying47 Y in_47 Y (Nat.succ_pos _) (Sub.refl _) (GGrant.len (lrd l0 t8_0.toNat))) ?_
     refine r_op Y Y (MakeD.opD (u_bs 22 Y Tryd.underlying32 in_47 Y one_47 (by decide) (by decide) zc_47 Y (af_lit (g := GGrant.cs) (fun x => (GGrant.len x)) (GGrant.len GGrant.zero) [(lrd l0 t8_0.toNat)])) Y Y Y Y) ?_
     refine chkK H fun h6 H => ?_
     refine r_op Y Y (u_app [3, 20] Y Y Y Y Tryd.underlying32 Tryd.underlying32 in_47 Y Y Y (fm_length (fun x => (GGrant.len x)) out3_0) (by decide) (srcT_o Y Y (fm_length (fun x => (GGrant.len x)) ([(lrd l0 t8_0.toNat)] : List GGrant)) (by decide)) (fm_length (fun x => (GGrant.len x)) ([(lrd l0 t8_0.toNat)] : List GGrant)) h6 (by decide) Y Y (fapp GGrant.cs out3_0 ([(lrd l0 t8_0.toNat)] : List GGrant)) (lapp out3_0 ([(lrd l0 t8_0.toNat)] : List GGrant))) ?_
     refine rp Y Y (p_asg Y Y) ?_
     refine rz [(0, .p ((fun q : List GGrant => AV.lst (q.flatMap GGrant.cs) q.length) l0)), (3, .c (.own 3 (out3_0 ++ ([(lrd l0 t8_0.toNat)] : List GGrant)).length 5)), (6, .p ((fun q : List GGrant => AV.lst (q.flatMap GGrant.cs) q.length) l0)), (7, .i (l0.length : Int)), (8, .i t8_0)] [(3, .pure ((out3_0 ++ ([(lrd l0 t8_0.toNat)] : List GGrant)).flatMap GGrant.cs))] Y Y Y ?_
     have hz := some_elim H
     subst hz
     exact rfl
    ·replace H := ite_else (ne_true h5) H
     refine as2 [(0, .p ((fun q : List GGrant => AV.lst (q.flatMap GGrant.cs) q.length) l0)), (3, .c (.own 3 out3_0.length 5)), (6, .p ((fun q : List GGrant => AV.lst (q.flatMap GGrant.cs) q.length) l0)), (7, .i (l0.length : Int)), (8, .i t8_0)] [(3, .pure (out3_0.flatMap GGrant.cs))] Y Y Y ?_
     refine AW2_skip ?_
     have hz := some_elim H
     subst hz
     exact rfl
   ·refine AW2_reg [0, 1] Y ?_
    refine rp Y Y (p_bin Y Y Y Y) ?_
    refine rp Y Y (p_move Y Y) ?_
    refine rz [(0, .p ((fun q : List GGrant => AV.lst (q.flatMap GGrant.cs) q.length) l0)), (3, .c (.own 3 j'1.length 5)), (6, .p ((fun q : List GGrant => AV.lst (q.flatMap GGrant.cs) q.length) l0)), (7, .i (l0.length : Int)), (8, .i (w64 (t8_0 + (1 : Int))))] [(3, .pure (j'1.flatMap GGrant.cs))] Y Y Y ?_
    have hz := some_elim H
    subst hz
    exact ⟨Y, Y⟩
  ·replace H := ite_else h1 H
   refine as2 [(3, .c (.own 3 out3_0.length 5))] [(3, .pure (out3_0.flatMap GGrant.cs))] Y Y Y ?_
   refine AW2_exit ?_
   refine thenQ2_exit ?_
   have hz := some_elim H
   subst hz
   exact ⟨Y, Y⟩
 ·obtain ⟨rfl, rfl⟩ := hs
  refine ⟨by simp, ?_⟩
  refine blockQ2_exit ?_
  refine sg [0, 1] Y ?_
  refine rp Y Y (p_move Y Y) ?_
  refine rp Y Y (p_asg Y Y) ?_
  refine rs [(2, .c (.own 3 y'6.length 5))] [(3, .pure (y'6.flatMap GGrant.cs))] Y Y Y ?_
  refine RunW_gho (Gho_ren 3 2 Y Y Y Y Y) ?_
  refine rz [(2, .c (.own 2 y'6.length 5))] [(2, .pure (y'6.flatMap GGrant.cs))] Y Y Y ?_
  refine as2 [(2, .c (.own 2 y'6.length 5))] [(2, .pure (y'6.flatMap GGrant.cs))] Y Y Y ?_
  refine AW2_ret ?_
  have hz := some_elim H
  subst hz
  exact ⟨⟨res_tmp (.same _), trivial⟩, ⟨Y, trivial⟩⟩
theorem g_ref_Stands_ac {l0 : List GGrant} {r : (List GGrant)} (H : g_ref_Stands l0 = some r) : ACp Tryd.prog 27 [((fun q : List GGrant => AV.lst (q.flatMap GGrant.cs) q.length) l0)] ((fun q : List GGrant => AV.lst (q.flatMap GGrant.cs) q.length) r) := ACp_pub (g_ref_Stands_ac2 H) (fun _ _ hm => lent_own hm rfl (fm_length (fun x => (GGrant.len x)) r) (by decide))

/-! chirographref.GrantsFault -/
noncomputable def g_ref_GrantsFault_l0 (l0 : List GGrant) : Int × Int → Option ((Int × Int) ⊕ (Int ⊕ Unit))
  | (last3_0, t12_0) => (if t12_0 < (l0.length : Int) then if 0 ≤ t12_0 ∧ t12_0 < (l0.length : Int) then (g_ref_grantBounds (lrd l0 t12_0.toNat)).bind fun r'1 => (if r'1 ≠ (0 : Int) then some (.inr (.inl r'1)) else (g_ref_rank (lrd l0 t12_0.toNat)).bind fun r'2 => (if r'2 ≤ last3_0 then some (.inr (.inl (3 : Int))) else (g_ref_rank (lrd l0 t12_0.toNat)).bind fun r'3 => some (.inl (r'3, w64 (t12_0 + (1 : Int)))))) else none else some (.inr (.inr ())))
noncomputable def g_ref_GrantsFault (l0 : List GGrant) : Option (Int) :=
  (if (l0.length : Int) > (96 : Int) then some (1 : Int) else (loopO (g_ref_GrantsFault_l0 l0) ((-1 : Int), (0 : Int))).bind fun o'7 => match o'7 with | .inl y'8 => some y'8 | .inr (y'9) => (g_ref_Stands l0).bind fun r'10 => (if (r'10.length : Int) < (l0.length : Int) then some (11 : Int) else some (0 : Int)))
set_option maxHeartbeats 4000000 in
set_option maxRecDepth 100000 in
theorem g_ref_GrantsFault_ac {l0 : List GGrant} {r : Int} (H : g_ref_GrantsFault l0 = some r) : ACp Tryd.prog 12 [((fun q : List GGrant => AV.lst (q.flatMap GGrant.cs) q.length) l0)] (AV.int r) := by
 refine ACp_of (AC2_of_body (vs := [.i r]) Tryd.func12 Y Y (Nat.le_of_ble_eq_true Y) Y ?_) (fun _ => .same _)
 unfold g_ref_GrantsFault at H
 refine as2 [(0, .p ((fun q : List GGrant => AV.lst (q.flatMap GGrant.cs) q.length) l0))] [] Y Y Y ?_
 refine sg [0] Y ?_
 refine rp Y Y (p_asg Y Y) ?_
 refine rz [(0, .p ((fun q : List GGrant => AV.lst (q.flatMap GGrant.cs) q.length) l0))] [] Y Y Y ?_
 refine AW2_seq ?_
 refine sg [0, 1, 2] Y ?_
 refine rp Y Y (p_move Y Y) ?_
 refine rp Y Y (p_lenl Y Tryd.underlying32 Y Y) ?_
 refine rp Y Y (p_bin Y Y Y Y) ?_
 refine rz [(0, .p ((fun q : List GGrant => AV.lst (q.flatMap GGrant.cs) q.length) l0)), (9, .b (decide ((l0.length : Int) > (96 : Int))))] [] Y Y Y ?_
 refine AW2_if (p := (l0.length : Int) > (96 : Int)) Y (fun h1 => ?_) (fun h1 => ?_)
 ·replace H := ite_then h1 H
  refine sg [0] Y ?_
  refine rp Y Y (p_asg Y Y) ?_
  refine rz [(2, .i (1 : Int))] [] Y Y Y ?_
  refine AW2_ret ?_
  have hz := some_elim H
  subst hz
  exact ⟨⟨res_tmp (.same _), trivial⟩, trivial⟩
 ·replace H := ite_else h1 H
  refine as2 [(0, .p ((fun q : List GGrant => AV.lst (q.flatMap GGrant.cs) q.length) l0))] [] Y Y Y ?_
  refine AW2_skip ?_
  refine sg [0] Y ?_
  refine rp Y Y (p_asg Y Y) ?_
  refine rz [(0, .p ((fun q : List GGrant => AV.lst (q.flatMap GGrant.cs) q.length) l0)), (3, .i (-1 : Int))] [] Y Y Y ?_
  refine AW2_seq ?_
  refine sg [0, 1, 2] Y ?_
  refine rp Y Y (p_move Y Y) ?_
  refine rp Y Y (p_lenl Y Tryd.underlying32 Y Y) ?_
  refine rp Y Y (p_move Y Y) ?_
  refine rz [(0, .p ((fun q : List GGrant => AV.lst (q.flatMap GGrant.cs) q.length) l0)), (3, .i (-1 : Int)), (10, .p ((fun q : List GGrant => AV.lst (q.flatMap GGrant.cs) q.length) l0)), (11, .i (l0.length : Int)), (12, .i (0 : Int))] [] Y Y Y ?_
  refine AW2_block ?_
  refine as2 [(0, .p ((fun q : List GGrant => AV.lst (q.flatMap GGrant.cs) q.length) l0)), (3, .i (-1 : Int)), (10, .p ((fun q : List GGrant => AV.lst (q.flatMap GGrant.cs) q.length) l0)), (11, .i (l0.length : Int)), (12, .i (0 : Int))] [] Y Y Y ?_
  refine bindK H fun o'7 h9 H => ?_
  refine AW2_loopO (fun a'4 : Int × Int => (⟨[(0, .p ((fun q : List GGrant => AV.lst (q.flatMap GGrant.cs) q.length) l0)), (3, .i a'4.1), (10, .p ((fun q : List GGrant => AV.lst (q.flatMap GGrant.cs) q.length) l0)), (11, .i (l0.length : Int)), (12, .i a'4.2)], [], 34⟩ : TS)) (fun (o : Int ⊕ Unit) e s' => match o with | .inl y'5 => e = Go.Exit.ret ∧ ResAll Tryd.prog s' [ResultVar.tmp 2] [.i y'5] ∧ HFits s' [] | .inr (y'6) => e = Go.Exit.exit 0 ∧ s' = (⟨[(0, .p ((fun q : List GGrant => AV.lst (q.flatMap GGrant.cs) q.length) l0))], [], 34⟩ : TS)) h9 Y (fun a x hx => ?_) (fun e s' hs => ?_)
  ·clear H
   obtain ⟨last3_0, t12_0⟩ := a
   have H := hx
   clear hx
   unfold g_ref_GrantsFault_l0 at H
   refine sg [0] Y ?_
   refine rp Y Y (p_bin Y Y Y Y) ?_
   refine rz [(0, .p ((fun q : List GGrant => AV.lst (q.flatMap GGrant.cs) q.length) l0)), (3, .i last3_0), (10, .p ((fun q : List GGrant => AV.lst (q.flatMap GGrant.cs) q.length) l0)), (11, .i (l0.length : Int)), (12, .i t12_0), (13, .b (decide (t12_0 < (l0.length : Int))))] [] Y Y Y ?_
   refine AW2_seq ?_
   refine AW2_if (p := t12_0 < (l0.length : Int)) Y (fun h2 => ?_) (fun h2 => ?_)
   ·replace H := ite_then h2 H
    refine as2 [(0, .p ((fun q : List GGrant => AV.lst (q.flatMap GGrant.cs) q.length) l0)), (3, .i last3_0), (10, .p ((fun q : List GGrant => AV.lst (q.flatMap GGrant.cs) q.length) l0)), (11, .i (l0.length : Int)), (12, .i t12_0)] [] Y Y Y ?_
    refine AW2_skip ?_
    refine AW2_seq ?_
    refine AW2_block ?_
    refine sg [0, 1, 2, 3] Y ?_
    refine chkK H fun h3 H => ?_
    refine rp Y Y (u_ixl Y Y Tryd.underlying32 in_47 Y Y (ixe h3) (ixn h3) (fne (fun x => (GGrant.len x)) (by decide) (ixn h3))) ?_
    refine rp Y Y (u_lda Y Y Tryd.underlying47 Y in_47 Y (Nat.succ_pos _) (Sub.fm default (fun x => (GGrant.len x)) (ixn h3)) (GGrant.len (lrd l0 t12_0.toNat))) ?_
    refine r_op Y Y (MakeD.opD (u_alloc 5 Y in_47 one_47 zc_47) Y Y Y Y) ?_
    refine r_op Y Y (u_st Y Y Y Y Y in_47 (GGrant.len (lrd l0 t12_0.toNat)) (nl (GGrant.len GGrant.zero)) (Upd.refl ((GGrant.len (lrd l0 t12_0.toNat)).trans (GGrant.len GGrant.zero).symm))) ?_
    refine rz [(0, .p ((fun q : List GGrant => AV.lst (q.flatMap GGrant.cs) q.length) l0)), (3, .i last3_0), (5, .q 5 (0)), (10, .p ((fun q : List GGrant => AV.lst (q.flatMap GGrant.cs) q.length) l0)), (11, .i (l0.length : Int)), (12, .i t12_0)] [(5, .pure (GGrant.cs (lrd l0 t12_0.toNat)))] Y Y Y ?_
    refine AW2_seq ?_
    refine sg [0, 1, 2] Y ?_
    refine rp Y Y (u_lda Y Y Tryd.underlying47 Y in_47 Y (Nat.succ_pos _) (Sub.refl _) (GGrant.len (lrd l0 t12_0.toNat))) ?_
    refine bindK H fun r'1 h4 H => ?_
    refine rp Y Y (p_callp Y Y Y Tryd.func25 Y Y (g_ref_grantBounds_ac h4) ⟨Y, trivial⟩) ?_
    refine rp Y Y (p_asg Y Y) ?_
    refine rz [(0, .p ((fun q : List GGrant => AV.lst (q.flatMap GGrant.cs) q.length) l0)), (3, .i last3_0), (5, .q 5 (0)), (6, .i r'1), (10, .p ((fun q : List GGrant => AV.lst (q.flatMap GGrant.cs) q.length) l0)), (11, .i (l0.length : Int)), (12, .i t12_0)] [(5, .pure (GGrant.cs (lrd l0 t12_0.toNat)))] Y Y Y ?_
    refine sg [0, 1] Y ?_
    refine rp Y Y (p_move Y Y) ?_
    refine rp Y Y (p_ine Y Y Y) ?_
    refine rz [(0, .p ((fun q : List GGrant => AV.lst (q.flatMap GGrant.cs) q.length) l0)), (3, .i last3_0), (5, .q 5 (0)), (6, .i r'1), (10, .p ((fun q : List GGrant => AV.lst (q.flatMap GGrant.cs) q.length) l0)), (11, .i (l0.length : Int)), (12, .i t12_0), (19, .b (decide (r'1 ≠ (0 : Int))))] [(5, .pure (GGrant.cs (lrd l0 t12_0.toNat)))] Y Y Y ?_
    refine AW2_if (p := r'1 ≠ (0 : Int)) Y (fun h5 => ?_) (fun h5 => ?_)
    ·replace H := ite_then h5 H
     refine sg [0, 1] Y ?_
     refine rp Y Y (p_move Y Y) ?_
     refine rp Y Y (p_asg Y Y) ?_
     refine rz [(2, .i r'1)] [] Y Y Y ?_
     refine AW2_ret ?_
     have hz := some_elim H
     subst hz
     exact ⟨Y, ⟨res_tmp (.same _), trivial⟩, trivial⟩
    ·replace H := ite_else h5 H
     refine as2 [(0, .p ((fun q : List GGrant => AV.lst (q.flatMap GGrant.cs) q.length) l0)), (3, .i last3_0), (5, .q 5 (0)), (10, .p ((fun q : List GGrant => AV.lst (q.flatMap GGrant.cs) q.length) l0)), (11, .i (l0.length : Int)), (12, .i t12_0)] [(5, .pure (GGrant.cs (lrd l0 t12_0.toNat)))] Y Y Y ?_
     refine AW2_skip ?_
     refine AW2_seq ?_
     refine sg [0, 1, 2, 3] Y ?_
     refine rp Y Y (u_lda Y Y Tryd.underlying47 Y in_47 Y (Nat.succ_pos _) (Sub.refl _) (GGrant.len (lrd l0 t12_0.toNat))) ?_
     refine bindK H fun r'2 h6 H => ?_
     refine rp Y Y (p_callp Y Y Y Tryd.func26 Y Y (g_ref_rank_ac h6) ⟨Y, trivial⟩) ?_
     refine rp Y Y (p_move Y Y) ?_
     refine rp Y Y (p_bin Y Y Y Y) ?_
     refine rz [(0, .p ((fun q : List GGrant => AV.lst (q.flatMap GGrant.cs) q.length) l0)), (5, .q 5 (0)), (10, .p ((fun q : List GGrant => AV.lst (q.flatMap GGrant.cs) q.length) l0)), (11, .i (l0.length : Int)), (12, .i t12_0), (24, .b (decide (r'2 ≤ last3_0)))] [(5, .pure (GGrant.cs (lrd l0 t12_0.toNat)))] Y Y Y ?_
     refine AW2_if (p := r'2 ≤ last3_0) Y (fun h7 => ?_) (fun h7 => ?_)
     ·replace H := ite_then h7 H
      refine sg [0] Y ?_
      refine rp Y Y (p_asg Y Y) ?_
      refine rz [(2, .i (3 : Int))] [] Y Y Y ?_
      refine AW2_ret ?_
      have hz := some_elim H
      subst hz
      exact ⟨Y, ⟨res_tmp (.same _), trivial⟩, trivial⟩
     ·replace H := ite_else h7 H
      refine as2 [(0, .p ((fun q : List GGrant => AV.lst (q.flatMap GGrant.cs) q.length) l0)), (5, .q 5 (0)), (10, .p ((fun q : List GGrant => AV.lst (q.flatMap GGrant.cs) q.length) l0)), (11, .i (l0.length : Int)), (12, .i t12_0)] [(5, .pure (GGrant.cs (lrd l0 t12_0.toNat)))] Y Y Y ?_
      refine AW2_skip ?_
      refine AW2_reg [0, 1, 2] Y ?_
      refine rp Y Y (u_lda Y Y Tryd.underlying47 Y in_47 Y (Nat.succ_pos _) (Sub.refl _) (GGrant.len (lrd l0 t12_0.toNat))) ?_
      refine bindK H fun r'3 h8 H => ?_
      refine rp Y Y (p_callp Y Y Y Tryd.func26 Y Y (g_ref_rank_ac h8) ⟨Y, trivial⟩) ?_
      refine rp Y Y (p_asg Y Y) ?_
      refine rz [(0, .p ((fun q : List GGrant => AV.lst (q.flatMap GGrant.cs) q.length) l0)), (3, .i r'3), (10, .p ((fun q : List GGrant => AV.lst (q.flatMap GGrant.cs) q.length) l0)), (11, .i (l0.length : Int)), (12, .i t12_0)] [] Y Y Y ?_
      refine AW2_reg [0, 1] Y ?_
      refine rp Y Y (p_bin Y Y Y Y) ?_
      refine rp Y Y (p_move Y Y) ?_
      refine rz [(0, .p ((fun q : List GGrant => AV.lst (q.flatMap GGrant.cs) q.length) l0)), (3, .i r'3), (10, .p ((fun q : List GGrant => AV.lst (q.flatMap GGrant.cs) q.length) l0)), (11, .i (l0.length : Int)), (12, .i (w64 (t12_0 + (1 : Int))))] [] Y Y Y ?_
      have hz := some_elim H
      subst hz
      exact ⟨Y, Y⟩
   ·replace H := ite_else h2 H
    refine as2 [(0, .p ((fun q : List GGrant => AV.lst (q.flatMap GGrant.cs) q.length) l0))] [] Y Y Y ?_
    refine AW2_exit ?_
    refine thenQ2_exit ?_
    have hz := some_elim H
    subst hz
    exact ⟨Y, Y⟩
  ·rcases o'7 with y'8 | y'9
   ·obtain ⟨rfl, hs⟩ := hs
    refine ⟨by simp, ?_⟩
    have hz := some_elim H
    subst hz
    exact ⟨hs.1, hs.2⟩
   ·obtain ⟨rfl, rfl⟩ := hs
    refine ⟨by simp, ?_⟩
    refine blockQ2_exit ?_
    refine AW2_seq ?_
    refine sg [0, 1, 2, 3, 4, 5] Y ?_
    refine rp Y Y (p_move Y Y) ?_
    refine bindK H fun r'10 h10 H => ?_
    refine rp Y Y (p_callp Y Y Y Tryd.func27 Y Y (g_ref_Stands_ac h10) ⟨Y, trivial⟩) ?_
    refine rp Y Y (p_lenl Y Tryd.underlying32 Y Y) ?_
    refine rp Y Y (p_move Y Y) ?_
    refine rp Y Y (p_lenl Y Tryd.underlying32 Y Y) ?_
    refine rp Y Y (p_bin Y Y Y Y) ?_
    refine rz [(33, .b (decide ((r'10.length : Int) < (l0.length : Int))))] [] Y Y Y ?_
    refine AW2_if (p := (r'10.length : Int) < (l0.length : Int)) Y (fun h11 => ?_) (fun h11 => ?_)
    ·replace H := ite_then h11 H
     refine sg [0] Y ?_
     refine rp Y Y (p_asg Y Y) ?_
     refine rz [(2, .i (11 : Int))] [] Y Y Y ?_
     refine AW2_ret ?_
     have hz := some_elim H
     subst hz
     exact ⟨⟨res_tmp (.same _), trivial⟩, trivial⟩
    ·replace H := ite_else h11 H
     refine as2 [] [] Y Y Y ?_
     refine AW2_skip ?_
     refine sg [0] Y ?_
     refine rp Y Y (p_asg Y Y) ?_
     refine rz [(2, .i (0 : Int))] [] Y Y Y ?_
     refine AW2_ret ?_
     have hz := some_elim H
     subst hz
     exact ⟨⟨res_tmp (.same _), trivial⟩, trivial⟩

/-! chirographref.emptyTable -/
noncomputable def g_ref_emptyTable_l1 (t0 : GTable) (t10_0 : Int) : Bool × Int → Option ((Bool × Int) ⊕ (Bool))
  | (full3_1, t14_1) => (if t14_1 < (4 : Int) then if 0 ≤ t14_1 ∧ t14_1 < (4 : Int) then letO (decide (((full3_1 = true) ∨ (((vrd (vrd t0.Drawers t10_0.toNat) t14_1.toNat).Full) = true)) ∨ ((((vrd (vrd t0.Drawers t10_0.toNat) t14_1.toNat).Row).length : Int) > (0 : Int)))) fun full3'1 => some (.inl (full3'1, w64 (t14_1 + (1 : Int)))) else none else some (.inr full3_1))
noncomputable def g_ref_emptyTable_l0 (t0 : GTable) : Bool × Int → Option ((Bool × Int) ⊕ (Bool))
  | (full3_0, t10_0) => (if t10_0 < (2 : Int) then if 0 ≤ t10_0 ∧ t10_0 < (2 : Int) then (loopO (g_ref_emptyTable_l1 t0 t10_0) (full3_0, (0 : Int))).bind fun y'5 => some (.inl (y'5, w64 (t10_0 + (1 : Int)))) else none else some (.inr full3_0))
noncomputable def g_ref_emptyTable (t0 : GTable) : Option (Bool) :=
  (loopO (g_ref_emptyTable_l0 t0) (false, (0 : Int))).bind fun y'9 => some (decide (((((!y'9) = true) ∧ ((!t0.There) = true)) ∧ (t0.Name = [])) ∧ ((t0.Cols.length : Int) = (0 : Int))))
set_option maxHeartbeats 4000000 in
set_option maxRecDepth 100000 in
theorem g_ref_emptyTable_ac {t0 : GTable} {r : Bool} (H : g_ref_emptyTable t0 = some r) : ACp Tryd.prog 13 [(.agg (GTable.cs t0))] (AV.bool r) := by
 refine ACp_of (AC2_of_body (vs := [.b r]) Tryd.func13 Y Y (Nat.le_of_ble_eq_true Y) Y ?_) (fun _ => .same _)
 unfold g_ref_emptyTable at H
 refine as2 [(0, .g (GTable.cs t0))] [] Y Y Y ?_
 refine sg [0, 1] Y ?_
 refine r_op Y Y (MakeD.opD (n_box 1 Y Y) Y Y Y Y) ?_
 refine rp Y Y (p_asg Y Y) ?_
 refine rz [(1, .q 1 (0))] [(1, .pure (GTable.cs t0))] Y Y Y ?_
 refine sg [0] Y ?_
 refine rp Y Y (p_asg Y Y) ?_
 refine rz [(1, .q 1 (0)), (3, .b false)] [(1, .pure (GTable.cs t0))] Y Y Y ?_
 refine AW2_seq ?_
 refine sg [0, 1, 2] Y ?_
 refine rp Y Y (u_fa Y Y Tryd.underlying29 Y in_27 nz Y Y (nl (GTable.len t0))) ?_
 refine rp Y Y (u_lda Y Y Tryd.underlying27 Y in_27 Y (Nat.succ_pos _) ((Sub.refl _).trans (GTable.sub3 t0)) (vfm_len (fun x => (vfm_len (fun x => (GCell.len x)) x)) t0.Drawers)) ?_
 refine rp Y Y (p_move Y Y) ?_
 refine rz [(1, .q 1 (0)), (3, .b false), (9, .g (t0.Drawers.toList.flatMap (fun v : Vector GCell 4 => v.toList.flatMap GCell.cs))), (10, .i (0 : Int))] [(1, .pure (GTable.cs t0))] Y Y Y ?_
 refine AW2_block ?_
 refine as2 [(1, .q 1 (0)), (3, .b false), (9, .g (t0.Drawers.toList.flatMap (fun v : Vector GCell 4 => v.toList.flatMap GCell.cs))), (10, .i (0 : Int))] [(1, .pure (GTable.cs t0))] Y Y Y ?_
 refine bindK H fun y'9 h8 H => ?_
 refine AW2_loopO (fun a'6 : Bool × Int => (⟨[(1, .q 1 (0)), (3, .b a'6.1), (9, .g (t0.Drawers.toList.flatMap (fun v : Vector GCell 4 => v.toList.flatMap GCell.cs))), (10, .i a'6.2)], [(1, .pure (GTable.cs t0))], 48⟩ : TS)) (fun (y'7 : Bool) e s' => e = Go.Exit.exit 0 ∧ s' = (⟨[(1, .q 1 (0)), (3, .b y'7)], [(1, .pure (GTable.cs t0))], 48⟩ : TS)) h8 Y (fun a x hx => ?_) (fun e s' hs => ?_)
 ·clear H
  obtain ⟨full3_0, t10_0⟩ := a
  have H := hx
  clear hx
  unfold g_ref_emptyTable_l0 at H
  refine sg [0] Y ?_
  refine rp Y Y (p_bin Y Y Y Y) ?_
  refine rz [(1, .q 1 (0)), (3, .b full3_0), (9, .g (t0.Drawers.toList.flatMap (fun v : Vector GCell 4 => v.toList.flatMap GCell.cs))), (10, .i t10_0), (11, .b (decide (t10_0 < (2 : Int))))] [(1, .pure (GTable.cs t0))] Y Y Y ?_
  refine AW2_seq ?_
  refine AW2_if (p := t10_0 < (2 : Int)) Y (fun h1 => ?_) (fun h1 => ?_)
  ·replace H := ite_then h1 H
   refine as2 [(1, .q 1 (0)), (3, .b full3_0), (9, .g (t0.Drawers.toList.flatMap (fun v : Vector GCell 4 => v.toList.flatMap GCell.cs))), (10, .i t10_0)] [(1, .pure (GTable.cs t0))] Y Y Y ?_
   refine AW2_skip ?_
   refine AW2_seq ?_
   refine AW2_block ?_
   refine sg [0, 1, 2] Y ?_
   refine chkK H fun h2 H => ?_
   refine rp Y Y (u_ixaa Y Y Tryd.underlying27 in_26 Tryd.underlying26 Y Y Y (ixe h2) (ixn h2) (Sub.vfm (fun x => (vfm_len (fun x => (GCell.len x)) x)) (ixn h2)) (vfm_len (fun x => (GCell.len x)) (vrd t0.Drawers t10_0.toNat))) ?_
   refine r_op Y Y (MakeD.opD (u_alloc 5 Y in_26 one_26 zc_26) Y Y Y Y) ?_
   refine r_op Y Y (u_st Y Y Y Y Y in_26 (vfm_len (fun x => (GCell.len x)) (vrd t0.Drawers t10_0.toNat)) (nl (vfm_len (fun x => (GCell.len x)) (Vector.replicate 4 GCell.zero))) (Upd.refl ((vfm_len (fun x => (GCell.len x)) (vrd t0.Drawers t10_0.toNat)).trans (vfm_len (fun x => (GCell.len x)) (Vector.replicate 4 GCell.zero)).symm))) ?_
   refine rz [(1, .q 1 (0)), (3, .b full3_0), (5, .q 5 (0)), (9, .g (t0.Drawers.toList.flatMap (fun v : Vector GCell 4 => v.toList.flatMap GCell.cs))), (10, .i t10_0)] [(1, .pure (GTable.cs t0)), (5, .pure (((vrd t0.Drawers t10_0.toNat).toList).flatMap GCell.cs))] Y Y Y ?_
   refine sg [0, 1] Y ?_
   refine rp Y Y (u_lda Y Y Tryd.underlying26 Y in_26 Y (Nat.succ_pos _) (Sub.refl _) (vfm_len (fun x => (GCell.len x)) (vrd t0.Drawers t10_0.toNat))) ?_
   refine rp Y Y (p_move Y Y) ?_
   refine rz [(1, .q 1 (0)), (3, .b full3_0), (9, .g (t0.Drawers.toList.flatMap (fun v : Vector GCell 4 => v.toList.flatMap GCell.cs))), (10, .i t10_0), (13, .g (((vrd t0.Drawers t10_0.toNat).toList).flatMap GCell.cs)), (14, .i (0 : Int))] [(1, .pure (GTable.cs t0))] Y Y Y ?_
   refine AW2_block ?_
   refine as2 [(1, .q 1 (0)), (3, .b full3_0), (9, .g (t0.Drawers.toList.flatMap (fun v : Vector GCell 4 => v.toList.flatMap GCell.cs))), (10, .i t10_0), (13, .g (((vrd t0.Drawers t10_0.toNat).toList).flatMap GCell.cs)), (14, .i (0 : Int))] [(1, .pure (GTable.cs t0))] Y Y Y ?_
   refine bindK H fun y'5 h7 H => ?_
   refine AW2_loopO (fun a'2 : Bool × Int => (⟨[(1, .q 1 (0)), (3, .b a'2.1), (9, .g (t0.Drawers.toList.flatMap (fun v : Vector GCell 4 => v.toList.flatMap GCell.cs))), (10, .i t10_0), (13, .g (((vrd t0.Drawers t10_0.toNat).toList).flatMap GCell.cs)), (14, .i a'2.2)], [(1, .pure (GTable.cs t0))], 48⟩ : TS)) (fun (y'3 : Bool) e s' => e = Go.Exit.exit 2 ∧ s' = (⟨[(1, .q 1 (0)), (3, .b y'3), (9, .g (t0.Drawers.toList.flatMap (fun v : Vector GCell 4 => v.toList.flatMap GCell.cs))), (10, .i t10_0)], [(1, .pure (GTable.cs t0))], 48⟩ : TS)) h7 Y (fun a x hx => ?_) (fun e s' hs => ?_)
   ·clear H
    obtain ⟨full3_1, t14_1⟩ := a
    have H := hx
    clear hx
    unfold g_ref_emptyTable_l1 at H
    refine sg [0] Y ?_
    refine rp Y Y (p_bin Y Y Y Y) ?_
    refine rz [(1, .q 1 (0)), (3, .b full3_1), (9, .g (t0.Drawers.toList.flatMap (fun v : Vector GCell 4 => v.toList.flatMap GCell.cs))), (10, .i t10_0), (13, .g (((vrd t0.Drawers t10_0.toNat).toList).flatMap GCell.cs)), (14, .i t14_1), (15, .b (decide (t14_1 < (4 : Int))))] [(1, .pure (GTable.cs t0))] Y Y Y ?_
    refine AW2_seq ?_
    refine AW2_if (p := t14_1 < (4 : Int)) Y (fun h3 => ?_) (fun h3 => ?_)
    ·replace H := ite_then h3 H
     refine as2 [(1, .q 1 (0)), (3, .b full3_1), (9, .g (t0.Drawers.toList.flatMap (fun v : Vector GCell 4 => v.toList.flatMap GCell.cs))), (10, .i t10_0), (13, .g (((vrd t0.Drawers t10_0.toNat).toList).flatMap GCell.cs)), (14, .i t14_1)] [(1, .pure (GTable.cs t0))] Y Y Y ?_
     refine AW2_skip ?_
     refine AW2_seq ?_
     refine AW2_block ?_
     refine sg [0, 1, 2] Y ?_
     refine chkK H fun h4 H => ?_
     refine rp Y Y (u_ixaa Y Y Tryd.underlying26 in_25 Tryd.underlying25 Y Y Y (ixe h4) (ixn h4) (Sub.vfm (fun x => (GCell.len x)) (ixn h4)) (GCell.len (vrd (vrd t0.Drawers t10_0.toNat) t14_1.toNat))) ?_
     refine r_op Y Y (MakeD.opD (u_alloc 7 Y in_25 one_25 zc_25) Y Y Y Y) ?_
     refine r_op Y Y (u_st Y Y Y Y Y in_25 (GCell.len (vrd (vrd t0.Drawers t10_0.toNat) t14_1.toNat)) (nl (GCell.len GCell.zero)) (Upd.refl ((GCell.len (vrd (vrd t0.Drawers t10_0.toNat) t14_1.toNat)).trans (GCell.len GCell.zero).symm))) ?_
     refine rz [(1, .q 1 (0)), (3, .b full3_1), (7, .q 7 (0)), (9, .g (t0.Drawers.toList.flatMap (fun v : Vector GCell 4 => v.toList.flatMap GCell.cs))), (10, .i t10_0), (13, .g (((vrd t0.Drawers t10_0.toNat).toList).flatMap GCell.cs)), (14, .i t14_1)] [(1, .pure (GTable.cs t0)), (7, .pure (GCell.cs (vrd (vrd t0.Drawers t10_0.toNat) t14_1.toNat)))] Y Y Y ?_
     refine AW2_mid (⟨[(1, .q 1 (0)), (3, .b (decide (((full3_1 = true) ∨ (((vrd (vrd t0.Drawers t10_0.toNat) t14_1.toNat).Full) = true)) ∨ ((((vrd (vrd t0.Drawers t10_0.toNat) t14_1.toNat).Row).length : Int) > (0 : Int))))), (9, .g (t0.Drawers.toList.flatMap (fun v : Vector GCell 4 => v.toList.flatMap GCell.cs))), (10, .i t10_0), (13, .g (((vrd t0.Drawers t10_0.toNat).toList).flatMap GCell.cs)), (14, .i t14_1)], [(1, .pure (GTable.cs t0))], 48⟩ : TS) ?_ ?_
     ·refine AW2_reg [0, 1, 2, 3, 4, 5, 6, 7, 8, 9, 10, 11] Y ?_
      refine rp Y Y (p_move Y Y) ?_
      refine rp Y Y (p_move Y Y) ?_
      refine (Classical.em (full3_1 = true)).elim (fun h5 => ?_) (fun h5 => ?_)
      ·refine r_off Y Y Y Y h5 Y Y ?_
       refine r_off Y Y Y Y h5 Y Y ?_
       refine rp Y Y (p_pkt Y Y h5 (tb (dT (p := (full3_1 = true) ∨ (((vrd (vrd t0.Drawers t10_0.toNat) t14_1.toNat).Full) = true)) (Or.inl h5)).symm)) ?_
       refine rp Y Y (p_move Y Y) ?_
       refine r_off Y Y Y Y (dT (p := (full3_1 = true) ∨ (((vrd (vrd t0.Drawers t10_0.toNat) t14_1.toNat).Full) = true)) (Or.inl h5)) Y Y ?_
       refine r_off Y Y Y Y (dT (p := (full3_1 = true) ∨ (((vrd (vrd t0.Drawers t10_0.toNat) t14_1.toNat).Full) = true)) (Or.inl h5)) Y Y ?_
       refine r_off Y Y Y Y (dT (p := (full3_1 = true) ∨ (((vrd (vrd t0.Drawers t10_0.toNat) t14_1.toNat).Full) = true)) (Or.inl h5)) Y Y ?_
       refine r_off Y Y Y Y (dT (p := (full3_1 = true) ∨ (((vrd (vrd t0.Drawers t10_0.toNat) t14_1.toNat).Full) = true)) (Or.inl h5)) Y Y ?_
       refine rp Y Y (p_pkt Y Y (dT (p := (full3_1 = true) ∨ (((vrd (vrd t0.Drawers t10_0.toNat) t14_1.toNat).Full) = true)) (Or.inl h5)) (tb (dT (p := ((full3_1 = true) ∨ (((vrd (vrd t0.Drawers t10_0.toNat) t14_1.toNat).Full) = true)) ∨ ((((vrd (vrd t0.Drawers t10_0.toNat) t14_1.toNat).Row).length : Int) > (0 : Int))) (Or.inl (Or.inl h5))).symm)) ?_
       refine rp Y Y (p_asg Y Y) ?_
       refine rs [(1, .q 1 (0)), (3, .b (decide (((full3_1 = true) ∨ (((vrd (vrd t0.Drawers t10_0.toNat) t14_1.toNat).Full) = true)) ∨ ((((vrd (vrd t0.Drawers t10_0.toNat) t14_1.toNat).Row).length : Int) > (0 : Int))))), (9, .g (t0.Drawers.toList.flatMap (fun v : Vector GCell 4 => v.toList.flatMap GCell.cs))), (10, .i t10_0), (13, .g (((vrd t0.Drawers t10_0.toNat).toList).flatMap GCell.cs)), (14, .i t14_1)] [(1, .pure (GTable.cs t0))] Y Y Y ?_
       exact RunW_nil rfl
      ·refine r_on Y Y Y Y (bfalse h5) Y (PureD.opD (u_fa Y Y Tryd.underlying25 Y in_4 nz Y Y (nl (GCell.len (vrd (vrd t0.Drawers t10_0.toNat) t14_1.toNat))))) ?_
       refine r_on Y Y Y Y (bfalse h5) Y (PureD.opD (u_ld Y Y Tryd.underlying4 Y Y ((Sub.refl _).trans (GCell.sub0 (vrd (vrd t0.Drawers t10_0.toNat) t14_1.toNat))))) ?_
       refine rp Y Y (p_pkf Y Y (bfalse h5) (tb ((bdec _).trans (or_l (p := full3_1 = true) (q := ((vrd (vrd t0.Drawers t10_0.toNat) t14_1.toNat).Full) = true) h5)))) ?_
       refine rp Y Y (p_move Y Y) ?_
       refine (Classical.em (((vrd (vrd t0.Drawers t10_0.toNat) t14_1.toNat).Full) = true)).elim (fun h6 => ?_) (fun h6 => ?_)
       ·refine r_off Y Y Y Y (dT (p := (full3_1 = true) ∨ (((vrd (vrd t0.Drawers t10_0.toNat) t14_1.toNat).Full) = true)) (Or.inr h6)) Y Y ?_
        refine r_off Y Y Y Y (dT (p := (full3_1 = true) ∨ (((vrd (vrd t0.Drawers t10_0.toNat) t14_1.toNat).Full) = true)) (Or.inr h6)) Y Y ?_
        refine r_off Y Y Y Y (dT (p := (full3_1 = true) ∨ (((vrd (vrd t0.Drawers t10_0.toNat) t14_1.toNat).Full) = true)) (Or.inr h6)) Y Y ?_
        refine r_off Y Y Y Y (dT (p := (full3_1 = true) ∨ (((vrd (vrd t0.Drawers t10_0.toNat) t14_1.toNat).Full) = true)) (Or.inr h6)) Y Y ?_
        refine rp Y Y (p_pkt Y Y (dT (p := (full3_1 = true) ∨ (((vrd (vrd t0.Drawers t10_0.toNat) t14_1.toNat).Full) = true)) (Or.inr h6)) (tb (dT (p := ((full3_1 = true) ∨ (((vrd (vrd t0.Drawers t10_0.toNat) t14_1.toNat).Full) = true)) ∨ ((((vrd (vrd t0.Drawers t10_0.toNat) t14_1.toNat).Row).length : Int) > (0 : Int))) (Or.inl (Or.inr h6))).symm)) ?_
        refine rp Y Y (p_asg Y Y) ?_
        refine rs [(1, .q 1 (0)), (3, .b (decide (((full3_1 = true) ∨ (((vrd (vrd t0.Drawers t10_0.toNat) t14_1.toNat).Full) = true)) ∨ ((((vrd (vrd t0.Drawers t10_0.toNat) t14_1.toNat).Row).length : Int) > (0 : Int))))), (9, .g (t0.Drawers.toList.flatMap (fun v : Vector GCell 4 => v.toList.flatMap GCell.cs))), (10, .i t10_0), (13, .g (((vrd t0.Drawers t10_0.toNat).toList).flatMap GCell.cs)), (14, .i t14_1)] [(1, .pure (GTable.cs t0))] Y Y Y ?_
        exact RunW_nil rfl
       ·refine r_on Y Y Y Y (dF (p := (full3_1 = true) ∨ (((vrd (vrd t0.Drawers t10_0.toNat) t14_1.toNat).Full) = true)) (not_or.2 ⟨h5, h6⟩)) Y (PureD.opD (u_fa Y Y Tryd.underlying25 Y in_23 nz Y Y (nl (GCell.len (vrd (vrd t0.Drawers t10_0.toNat) t14_1.toNat))))) ?_
        refine r_on Y Y Y Y (dF (p := (full3_1 = true) ∨ (((vrd (vrd t0.Drawers t10_0.toNat) t14_1.toNat).Full) = true)) (not_or.2 ⟨h5, h6⟩)) Y (PureD.opD (u_ld Y Y Tryd.underlying23 Y Y ((Sub.refl _).trans (GCell.sub1 (vrd (vrd t0.Drawers t10_0.toNat) t14_1.toNat))))) ?_
        refine r_on Y Y Y Y (dF (p := (full3_1 = true) ∨ (((vrd (vrd t0.Drawers t10_0.toNat) t14_1.toNat).Full) = true)) (not_or.2 ⟨h5, h6⟩)) Y (PureD.opD (p_lenl Y Tryd.underlying23 Y Y)) ?_
        refine r_on Y Y Y Y (dF (p := (full3_1 = true) ∨ (((vrd (vrd t0.Drawers t10_0.toNat) t14_1.toNat).Full) = true)) (not_or.2 ⟨h5, h6⟩)) Y (PureD.opD (p_bin Y Y Y Y)) ?_
        refine rp Y Y (p_pkf Y Y (dF (p := (full3_1 = true) ∨ (((vrd (vrd t0.Drawers t10_0.toNat) t14_1.toNat).Full) = true)) (not_or.2 ⟨h5, h6⟩)) (tb ((or_l (p := (full3_1 = true) ∨ (((vrd (vrd t0.Drawers t10_0.toNat) t14_1.toNat).Full) = true)) (q := (((vrd (vrd t0.Drawers t10_0.toNat) t14_1.toNat).Row).length : Int) > (0 : Int)) (not_or.2 ⟨h5, h6⟩))))) ?_
        refine rp Y Y (p_asg Y Y) ?_
        refine rs [(1, .q 1 (0)), (3, .b (decide (((full3_1 = true) ∨ (((vrd (vrd t0.Drawers t10_0.toNat) t14_1.toNat).Full) = true)) ∨ ((((vrd (vrd t0.Drawers t10_0.toNat) t14_1.toNat).Row).length : Int) > (0 : Int))))), (9, .g (t0.Drawers.toList.flatMap (fun v : Vector GCell 4 => v.toList.flatMap GCell.cs))), (10, .i t10_0), (13, .g (((vrd t0.Drawers t10_0.toNat).toList).flatMap GCell.cs)), (14, .i t14_1)] [(1, .pure (GTable.cs t0))] Y Y Y ?_
        exact RunW_nil rfl
     ·refine gen1 (fun full3'1 => (⟨[(1, .q 1 (0)), (3, .b full3'1), (9, .g (t0.Drawers.toList.flatMap (fun v : Vector GCell 4 => v.toList.flatMap GCell.cs))), (10, .i t10_0), (13, .g (((vrd t0.Drawers t10_0.toNat).toList).flatMap GCell.cs)), (14, .i t14_1)], [(1, .pure (GTable.cs t0))], 48⟩ : TS)) H ?_
      intro full3'1 H
      refine AW2_reg [0, 1] Y ?_
      refine rp Y Y (p_bin Y Y Y Y) ?_
      refine rp Y Y (p_move Y Y) ?_
      refine rz [(1, .q 1 (0)), (3, .b full3'1), (9, .g (t0.Drawers.toList.flatMap (fun v : Vector GCell 4 => v.toList.flatMap GCell.cs))), (10, .i t10_0), (13, .g (((vrd t0.Drawers t10_0.toNat).toList).flatMap GCell.cs)), (14, .i (w64 (t14_1 + (1 : Int))))] [(1, .pure (GTable.cs t0))] Y Y Y ?_
      have hz := some_elim H
      subst hz
      exact ⟨Y, Y⟩
    ·replace H := ite_else h3 H
     refine as2 [(1, .q 1 (0)), (3, .b full3_1), (9, .g (t0.Drawers.toList.flatMap (fun v : Vector GCell 4 => v.toList.flatMap GCell.cs))), (10, .i t10_0)] [(1, .pure (GTable.cs t0))] Y Y Y ?_
     refine AW2_exit ?_
     refine thenQ2_exit ?_
     have hz := some_elim H
     subst hz
     exact ⟨Y, Y⟩
   ·obtain ⟨rfl, rfl⟩ := hs
    refine ⟨by simp, ?_⟩
    refine blockQ2_exit ?_
    refine AW2_reg [0, 1] Y ?_
    refine rp Y Y (p_bin Y Y Y Y) ?_
    refine rp Y Y (p_move Y Y) ?_
    refine rz [(1, .q 1 (0)), (3, .b y'5), (9, .g (t0.Drawers.toList.flatMap (fun v : Vector GCell 4 => v.toList.flatMap GCell.cs))), (10, .i (w64 (t10_0 + (1 : Int))))] [(1, .pure (GTable.cs t0))] Y Y Y ?_
    have hz := some_elim H
    subst hz
    exact ⟨Y, Y⟩
  ·replace H := ite_else h1 H
   refine as2 [(1, .q 1 (0)), (3, .b full3_0)] [(1, .pure (GTable.cs t0))] Y Y Y ?_
   refine AW2_exit ?_
   refine thenQ2_exit ?_
   have hz := some_elim H
   subst hz
   exact ⟨Y, Y⟩
 ·obtain ⟨rfl, rfl⟩ := hs
  refine ⟨by simp, ?_⟩
  refine blockQ2_exit ?_
  refine AW2_seq ?_
  refine AW2_mid (⟨[(2, .b (decide (((((!y'9) = true) ∧ ((!t0.There) = true)) ∧ (t0.Name = [])) ∧ ((t0.Cols.length : Int) = (0 : Int)))))], [], 48⟩ : TS) ?_ ?_
  ·refine AW2_reg [0, 1, 2, 3, 4, 5, 6, 7, 8, 9, 10, 11, 12, 13, 14, 15, 16, 17, 18] Y ?_
   refine rp Y Y (p_move Y Y) ?_
   refine rp Y Y (p_not Y Y) ?_
   refine rp Y Y (p_move Y Y) ?_
   refine (Classical.em ((!y'9) = true)).elim (fun h9 => ?_) (fun h9 => ?_)
   ·refine rn Y Y Y Y h9 Y (u_fa Y Y Tryd.underlying29 Y in_4 nz Y Y (nl (GTable.len t0))) ?_
    refine rn Y Y Y Y h9 Y (u_ld Y Y Tryd.underlying4 Y Y ((Sub.refl _).trans (GTable.sub0 t0))) ?_
    refine rn Y Y Y Y h9 Y (p_not Y Y) ?_
    refine rp Y Y (p_pkt Y Y h9 (tb ((bdec _).trans (and_l (p := (!y'9) = true) (q := (!t0.There) = true) h9)))) ?_
    refine rp Y Y (p_move Y Y) ?_
    refine (Classical.em ((!t0.There) = true)).elim (fun h10 => ?_) (fun h10 => ?_)
    ·refine r_on Y Y Y Y (dT (p := ((!y'9) = true) ∧ ((!t0.There) = true)) ⟨h9, h10⟩) Y (PureD.opD (u_fa Y Y Tryd.underlying29 Y in_9 nz Y Y (nl (GTable.len t0)))) ?_
     refine r_on Y Y Y Y (dT (p := ((!y'9) = true) ∧ ((!t0.There) = true)) ⟨h9, h10⟩) Y (PureD.opD (u_ld Y Y Tryd.underlying9 Y Y ((Sub.refl _).trans (GTable.sub1 t0)))) ?_
     refine r_on Y Y Y Y (dT (p := ((!y'9) = true) ∧ ((!t0.There) = true)) ⟨h9, h10⟩) Y (PureD.opD (p_seq Y Y Y)) ?_
     refine rp Y Y (p_pkt Y Y (dT (p := ((!y'9) = true) ∧ ((!t0.There) = true)) ⟨h9, h10⟩) (tb ((and_l (p := ((!y'9) = true) ∧ ((!t0.There) = true)) (q := t0.Name = []) ⟨h9, h10⟩)))) ?_
     refine rp Y Y (p_move Y Y) ?_
     refine (Classical.em (t0.Name = [])).elim (fun h11 => ?_) (fun h11 => ?_)
     ·refine r_on Y Y Y Y (dT (p := (((!y'9) = true) ∧ ((!t0.There) = true)) ∧ (t0.Name = [])) ⟨⟨h9, h10⟩, h11⟩) Y (PureD.opD (u_fa Y Y Tryd.underlying29 Y in_22 nz Y Y (nl (GTable.len t0)))) ?_
      refine r_on Y Y Y Y (dT (p := (((!y'9) = true) ∧ ((!t0.There) = true)) ∧ (t0.Name = [])) ⟨⟨h9, h10⟩, h11⟩) Y (PureD.opD (u_ld Y Y Tryd.underlying22 Y Y ((Sub.refl _).trans (GTable.sub2 t0)))) ?_
      refine r_on Y Y Y Y (dT (p := (((!y'9) = true) ∧ ((!t0.There) = true)) ∧ (t0.Name = [])) ⟨⟨h9, h10⟩, h11⟩) Y (PureD.opD (p_lenl Y Tryd.underlying22 Y Y)) ?_
      refine r_on Y Y Y Y (dT (p := (((!y'9) = true) ∧ ((!t0.There) = true)) ∧ (t0.Name = [])) ⟨⟨h9, h10⟩, h11⟩) Y (PureD.opD (p_ieq Y Y Y)) ?_
      refine rp Y Y (p_pkt Y Y (dT (p := (((!y'9) = true) ∧ ((!t0.There) = true)) ∧ (t0.Name = [])) ⟨⟨h9, h10⟩, h11⟩) (tb ((and_l (p := (((!y'9) = true) ∧ ((!t0.There) = true)) ∧ (t0.Name = [])) (q := (t0.Cols.length : Int) = (0 : Int)) ⟨⟨h9, h10⟩, h11⟩)))) ?_
      refine rp Y Y (p_asg Y Y) ?_
      refine rs [(2, .b (decide (((((!y'9) = true) ∧ ((!t0.There) = true)) ∧ (t0.Name = [])) ∧ ((t0.Cols.length : Int) = (0 : Int)))))] [] Y Y Y ?_
      exact RunW_nil rfl
     ·refine r_off Y Y Y Y (dF (p := (((!y'9) = true) ∧ ((!t0.There) = true)) ∧ (t0.Name = [])) (fun h => h11 h.2)) Y Y ?_
      refine r_off Y Y Y Y (dF (p := (((!y'9) = true) ∧ ((!t0.There) = true)) ∧ (t0.Name = [])) (fun h => h11 h.2)) Y Y ?_
      refine r_off Y Y Y Y (dF (p := (((!y'9) = true) ∧ ((!t0.There) = true)) ∧ (t0.Name = [])) (fun h => h11 h.2)) Y Y ?_
      refine r_off Y Y Y Y (dF (p := (((!y'9) = true) ∧ ((!t0.There) = true)) ∧ (t0.Name = [])) (fun h => h11 h.2)) Y Y ?_
      refine rp Y Y (p_pkf Y Y (dF (p := (((!y'9) = true) ∧ ((!t0.There) = true)) ∧ (t0.Name = [])) (fun h => h11 h.2)) (tb (dF (p := ((((!y'9) = true) ∧ ((!t0.There) = true)) ∧ (t0.Name = [])) ∧ ((t0.Cols.length : Int) = (0 : Int))) (fun x => (fun h => h11 h.2) x.1)).symm)) ?_
      refine rp Y Y (p_asg Y Y) ?_
      refine rs [(2, .b (decide (((((!y'9) = true) ∧ ((!t0.There) = true)) ∧ (t0.Name = [])) ∧ ((t0.Cols.length : Int) = (0 : Int)))))] [] Y Y Y ?_
      exact RunW_nil rfl
    ·refine r_off Y Y Y Y (dF (p := ((!y'9) = true) ∧ ((!t0.There) = true)) (fun h => h10 h.2)) Y Y ?_
     refine r_off Y Y Y Y (dF (p := ((!y'9) = true) ∧ ((!t0.There) = true)) (fun h => h10 h.2)) Y Y ?_
     refine r_off Y Y Y Y (dF (p := ((!y'9) = true) ∧ ((!t0.There) = true)) (fun h => h10 h.2)) Y Y ?_
     refine rp Y Y (p_pkf Y Y (dF (p := ((!y'9) = true) ∧ ((!t0.There) = true)) (fun h => h10 h.2)) (tb (dF (p := (((!y'9) = true) ∧ ((!t0.There) = true)) ∧ (t0.Name = [])) (fun x => (fun h => h10 h.2) x.1)).symm)) ?_
     refine rp Y Y (p_move Y Y) ?_
     refine r_off Y Y Y Y (dF (p := (((!y'9) = true) ∧ ((!t0.There) = true)) ∧ (t0.Name = [])) (fun h => (fun h => h10 h.2) h.1)) Y Y ?_
     refine r_off Y Y Y Y (dF (p := (((!y'9) = true) ∧ ((!t0.There) = true)) ∧ (t0.Name = [])) (fun h => (fun h => h10 h.2) h.1)) Y Y ?_
     refine r_off Y Y Y Y (dF (p := (((!y'9) = true) ∧ ((!t0.There) = true)) ∧ (t0.Name = [])) (fun h => (fun h => h10 h.2) h.1)) Y Y ?_
     refine r_off Y Y Y Y (dF (p := (((!y'9) = true) ∧ ((!t0.There) = true)) ∧ (t0.Name = [])) (fun h => (fun h => h10 h.2) h.1)) Y Y ?_
     refine rp Y Y (p_pkf Y Y (dF (p := (((!y'9) = true) ∧ ((!t0.There) = true)) ∧ (t0.Name = [])) (fun h => (fun h => h10 h.2) h.1)) (tb (dF (p := ((((!y'9) = true) ∧ ((!t0.There) = true)) ∧ (t0.Name = [])) ∧ ((t0.Cols.length : Int) = (0 : Int))) (fun x => (fun h => (fun h => h10 h.2) h.1) x.1)).symm)) ?_
     refine rp Y Y (p_asg Y Y) ?_
     refine rs [(2, .b (decide (((((!y'9) = true) ∧ ((!t0.There) = true)) ∧ (t0.Name = [])) ∧ ((t0.Cols.length : Int) = (0 : Int)))))] [] Y Y Y ?_
     exact RunW_nil rfl
   ·refine r_off Y Y Y Y (bfalse h9) Y Y ?_
    refine r_off Y Y Y Y (bfalse h9) Y Y ?_
    refine r_off Y Y Y Y (bfalse h9) Y Y ?_
    refine rp Y Y (p_pkf Y Y (bfalse h9) (tb (dF (p := ((!y'9) = true) ∧ ((!t0.There) = true)) (fun x => h9 x.1)).symm)) ?_
    refine rp Y Y (p_move Y Y) ?_
    refine r_off Y Y Y Y (dF (p := ((!y'9) = true) ∧ ((!t0.There) = true)) (fun h => h9 h.1)) Y Y ?_
    refine r_off Y Y Y Y (dF (p := ((!y'9) = true) ∧ ((!t0.There) = true)) (fun h => h9 h.1)) Y Y ?_
    refine r_off Y Y Y Y (dF (p := ((!y'9) = true) ∧ ((!t0.There) = true)) (fun h => h9 h.1)) Y Y ?_
    refine rp Y Y (p_pkf Y Y (dF (p := ((!y'9) = true) ∧ ((!t0.There) = true)) (fun h => h9 h.1)) (tb (dF (p := (((!y'9) = true) ∧ ((!t0.There) = true)) ∧ (t0.Name = [])) (fun x => (fun h => h9 h.1) x.1)).symm)) ?_
    refine rp Y Y (p_move Y Y) ?_
    refine r_off Y Y Y Y (dF (p := (((!y'9) = true) ∧ ((!t0.There) = true)) ∧ (t0.Name = [])) (fun h => (fun h => h9 h.1) h.1)) Y Y ?_
    refine r_off Y Y Y Y (dF (p := (((!y'9) = true) ∧ ((!t0.There) = true)) ∧ (t0.Name = [])) (fun h => (fun h => h9 h.1) h.1)) Y Y ?_
    refine r_off Y Y Y Y (dF (p := (((!y'9) = true) ∧ ((!t0.There) = true)) ∧ (t0.Name = [])) (fun h => (fun h => h9 h.1) h.1)) Y Y ?_
    refine r_off Y Y Y Y (dF (p := (((!y'9) = true) ∧ ((!t0.There) = true)) ∧ (t0.Name = [])) (fun h => (fun h => h9 h.1) h.1)) Y Y ?_
    refine rp Y Y (p_pkf Y Y (dF (p := (((!y'9) = true) ∧ ((!t0.There) = true)) ∧ (t0.Name = [])) (fun h => (fun h => h9 h.1) h.1)) (tb (dF (p := ((((!y'9) = true) ∧ ((!t0.There) = true)) ∧ (t0.Name = [])) ∧ ((t0.Cols.length : Int) = (0 : Int))) (fun x => (fun h => (fun h => h9 h.1) h.1) x.1)).symm)) ?_
    refine rp Y Y (p_asg Y Y) ?_
    refine rs [(2, .b (decide (((((!y'9) = true) ∧ ((!t0.There) = true)) ∧ (t0.Name = [])) ∧ ((t0.Cols.length : Int) = (0 : Int)))))] [] Y Y Y ?_
    exact RunW_nil rfl
  ·refine AW2_ret ?_
   have hz := some_elim H
   subst hz
   exact ⟨⟨res_tmp (.same _), trivial⟩, trivial⟩

/-! chirographref.among -/
noncomputable def g_ref_among_l0 (c0 : UInt8) (l1 : List UInt8) : Int → Option (Int ⊕ (Bool ⊕ Unit))
  | i5_0 => (if i5_0 < (l1.length : Int) then if 0 ≤ i5_0 ∧ i5_0 < (l1.length : Int) then (if (lrd l1 i5_0.toNat) = c0 then some (.inr (.inl true)) else some (.inl (w64 (i5_0 + (1 : Int))))) else none else some (.inr (.inr ())))
noncomputable def g_ref_among (c0 : UInt8) (l1 : List UInt8) : Option (Bool) :=
  (loopO (g_ref_among_l0 c0 l1) (0 : Int)).bind fun o'4 => match o'4 with | .inl y'5 => some y'5 | .inr (y'6) => some false
set_option maxHeartbeats 4000000 in
set_option maxRecDepth 100000 in
theorem g_ref_among_ac {c0 : UInt8} {l1 : List UInt8} {r : Bool} (H : g_ref_among c0 l1 = some r) : ACp Tryd.prog 45 [(AV.b8 c0), (AV.txt l1)] (AV.bool r) := by
 refine ACp_of (AC2_of_body (vs := [.b r]) Tryd.func45 Y Y (Nat.le_of_ble_eq_true Y) Y ?_) (fun _ => .same _)
 unfold g_ref_among at H
 refine as2 [(0, .p (AV.b8 c0)), (1, .t l1)] [] Y Y Y ?_
 refine sg [0] Y ?_
 refine rp Y Y (p_asg Y Y) ?_
 refine rz [(0, .p (AV.b8 c0)), (1, .t l1)] [] Y Y Y ?_
 refine AW2_seq ?_
 refine sg [0] Y ?_
 refine rp Y Y (p_asg Y Y) ?_
 refine rz [(0, .p (AV.b8 c0)), (1, .t l1), (5, .i (0 : Int))] [] Y Y Y ?_
 refine AW2_block ?_
 refine as2 [(0, .p (AV.b8 c0)), (1, .t l1), (5, .i (0 : Int))] [] Y Y Y ?_
 refine bindK H fun o'4 h4 H => ?_
 refine AW2_loopO (fun a'1 : Int => (⟨[(0, .p (AV.b8 c0)), (1, .t l1), (5, .i a'1)], [], 17⟩ : TS)) (fun (o : Bool ⊕ Unit) e s' => match o with | .inl y'2 => e = Go.Exit.ret ∧ ResAll Tryd.prog s' [ResultVar.tmp 4] [.b y'2] ∧ HFits s' [] | .inr (y'3) => e = Go.Exit.exit 0 ∧ s' = (⟨[], [], 17⟩ : TS)) h4 Y (fun i5_0 x hx => ?_) (fun e s' hs => ?_)
 ·clear H
  have H := hx
  clear hx
  unfold g_ref_among_l0 at H
  refine AW2_seq ?_
  refine sg [0, 1, 2, 3] Y ?_
  refine rp Y Y (p_move Y Y) ?_
  refine rp Y Y (p_move Y Y) ?_
  refine rp Y Y (p_lent Y Tryd.underlying9 Y) ?_
  refine rp Y Y (p_bin Y Y Y Y) ?_
  refine rz [(0, .p (AV.b8 c0)), (1, .t l1), (5, .i i5_0), (9, .b (decide (i5_0 < (l1.length : Int))))] [] Y Y Y ?_
  refine AW2_if (p := i5_0 < (l1.length : Int)) Y (fun h1 => ?_) (fun h1 => ?_)
  ·replace H := ite_then h1 H
   refine as2 [(0, .p (AV.b8 c0)), (1, .t l1), (5, .i i5_0)] [] Y Y Y ?_
   refine AW2_skip ?_
   refine AW2_seq ?_
   refine AW2_block ?_
   refine sg [0, 1, 2, 3, 4] Y ?_
   refine rp Y Y (p_move Y Y) ?_
   refine rp Y Y (p_move Y Y) ?_
   refine chkK H fun h2 H => ?_
   refine rp Y Y (p_ixt Y Tryd.underlying9 Y Y (ixe h2) (lrd_get (ixn h2))) ?_
   refine rp Y Y (p_move Y Y) ?_
   refine rp Y Y (p_u8eq (a := (lrd l1 i5_0.toNat)) (b := c0) Y Y Y) ?_
   refine rz [(0, .p (AV.b8 c0)), (1, .t l1), (5, .i i5_0), (16, .b (decide ((lrd l1 i5_0.toNat) = c0)))] [] Y Y Y ?_
   refine AW2_if (p := (lrd l1 i5_0.toNat) = c0) Y (fun h3 => ?_) (fun h3 => ?_)
   ·replace H := ite_then h3 H
    refine sg [0] Y ?_
    refine rp Y Y (p_asg Y Y) ?_
    refine rz [(4, .b true)] [] Y Y Y ?_
    refine AW2_ret ?_
    have hz := some_elim H
    subst hz
    exact ⟨Y, ⟨res_tmp (.same _), trivial⟩, trivial⟩
   ·replace H := ite_else h3 H
    refine as2 [(0, .p (AV.b8 c0)), (1, .t l1), (5, .i i5_0)] [] Y Y Y ?_
    refine AW2_skip ?_
    refine AW2_reg [0, 1, 2] Y ?_
    refine rp Y Y (p_move Y Y) ?_
    refine rp Y Y (p_bin Y Y Y Y) ?_
    refine rp Y Y (p_asg Y Y) ?_
    refine rz [(0, .p (AV.b8 c0)), (1, .t l1), (5, .i (w64 (i5_0 + (1 : Int))))] [] Y Y Y ?_
    have hz := some_elim H
    subst hz
    exact ⟨Y, Y⟩
  ·replace H := ite_else h1 H
   refine as2 [] [] Y Y Y ?_
   refine AW2_exit ?_
   refine thenQ2_exit ?_
   have hz := some_elim H
   subst hz
   exact ⟨Y, Y⟩
 ·rcases o'4 with y'5 | y'6
  ·obtain ⟨rfl, hs⟩ := hs
   refine ⟨by simp, ?_⟩
   have hz := some_elim H
   subst hz
   exact ⟨hs.1, hs.2⟩
  ·obtain ⟨rfl, rfl⟩ := hs
   refine ⟨by simp, ?_⟩
   refine blockQ2_exit ?_
   refine sg [0] Y ?_
   refine rp Y Y (p_asg Y Y) ?_
   refine rz [(4, .b false)] [] Y Y Y ?_
   refine AW2_ret ?_
   have hz := some_elim H
   subst hz
   exact ⟨⟨res_tmp (.same _), trivial⟩, trivial⟩

/-! chirographref.reach -/
noncomputable def g_ref_reach_l0 (s0 : List UInt8) (l1 : List UInt8) : Int → Option (Int ⊕ (Int))
  | n5_0 => ((if n5_0 < (s0.length : Int) then if 0 ≤ n5_0 ∧ n5_0 < (s0.length : Int) then (g_ref_among (lrd s0 n5_0.toNat) l1).bind fun r'1 => some r'1 else none else some false)).bind fun g'2 => (if g'2 = true then some (.inl (w64 (n5_0 + (1 : Int)))) else some (.inr n5_0))
noncomputable def g_ref_reach (s0 : List UInt8) (l1 : List UInt8) : Option (Int) :=
  (loopO (g_ref_reach_l0 s0 l1) (0 : Int)).bind fun y'6 => some y'6
set_option maxHeartbeats 4000000 in
set_option maxRecDepth 100000 in
theorem g_ref_reach_ac {s0 : List UInt8} {l1 : List UInt8} {r : Int} (H : g_ref_reach s0 l1 = some r) : ACp Tryd.prog 46 [(AV.txt s0), (AV.txt l1)] (AV.int r) := by
 refine ACp_of (AC2_of_body (vs := [.i r]) Tryd.func46 Y Y (Nat.le_of_ble_eq_true Y) Y ?_) (fun _ => .same _)
 unfold g_ref_reach at H
 refine as2 [(0, .t s0), (1, .t l1)] [] Y Y Y ?_
 refine sg [0] Y ?_
 refine rp Y Y (p_asg Y Y) ?_
 refine rz [(0, .t s0), (1, .t l1)] [] Y Y Y ?_
 refine sg [0] Y ?_
 refine rp Y Y (p_asg Y Y) ?_
 refine rz [(0, .t s0), (1, .t l1), (5, .i (0 : Int))] [] Y Y Y ?_
 refine AW2_seq ?_
 refine AW2_block ?_
 refine as2 [(0, .t s0), (1, .t l1), (5, .i (0 : Int))] [] Y Y Y ?_
 refine bindK H fun y'6 h8 H => ?_
 refine AW2_loopO (fun a'3 : Int => (⟨[(0, .t s0), (1, .t l1), (5, .i a'3)], [], 20⟩ : TS)) (fun (y'4 : Int) e s' => e = Go.Exit.exit 0 ∧ s' = (⟨[(5, .i y'4)], [], 20⟩ : TS)) h8 Y (fun n5_0 x hx => ?_) (fun e s' hs => ?_)
 ·clear H
  have H := hx
  clear hx
  unfold g_ref_reach_l0 at H
  refine AW2_seq ?_
  refine AW2_seq ?_
  refine bindK H fun g'2 h5 H => ?_
  refine AW2_mid (⟨[(0, .t s0), (1, .t l1), (5, .i n5_0), (16, .b g'2)], [], 20⟩ : TS) ?_ ?_
  ·clear H
   have H := h5
   clear h5
   refine AW2_reg [0, 1, 2, 3, 4, 5, 6, 7, 8, 9, 10] Y ?_
   refine rp Y Y (p_move Y Y) ?_
   refine rp Y Y (p_move Y Y) ?_
   refine rp Y Y (p_lent Y Tryd.underlying9 Y) ?_
   refine rp Y Y (p_bin Y Y Y Y) ?_
   refine rp Y Y (p_move Y Y) ?_
   refine (Classical.em (n5_0 < (s0.length : Int))).elim (fun h2 => ?_) (fun h2 => ?_)
   ·replace H := ite_then h2 H
    refine r_on Y Y Y Y (dT h2) Y (PureD.opD (p_move Y Y)) ?_
    refine r_on Y Y Y Y (dT h2) Y (PureD.opD (p_move Y Y)) ?_
    refine chkK H fun h3 H => ?_
    refine r_on Y Y Y Y (dT h2) Y (PureD.opD (p_ixt Y Tryd.underlying9 Y Y (ixe h3) (lrd_get (ixn h3)))) ?_
    refine r_on Y Y Y Y (dT h2) Y (PureD.opD (p_move Y Y)) ?_
    refine bindK H fun r'1 h4 H => ?_
    refine r_on Y Y Y Y (dT h2) Y (PureD.opD (p_callp Y Y Y Tryd.func45 Y Y (g_ref_among_ac h4) ⟨Y, Y, trivial⟩)) ?_
    refine rp Y Y (p_pkt Y Y (dT h2) (.same _)) ?_
    refine rs [(0, .t s0), (1, .t l1), (5, .i n5_0), (16, .b r'1)] [] Y Y Y ?_
    have hz := some_elim H
    subst hz
    exact RunW_nil rfl
   ·replace H := ite_else h2 H
    refine r_off Y Y Y Y (dF h2) Y Y ?_
    refine r_off Y Y Y Y (dF h2) Y Y ?_
    refine r_off Y Y Y Y (dF h2) Y Y ?_
    refine r_off Y Y Y Y (dF h2) Y Y ?_
    refine r_off Y Y Y Y (dF h2) Y Y ?_
    refine rp Y Y (p_pkf Y Y (dF h2) (.same _)) ?_
    refine rs [(0, .t s0), (1, .t l1), (5, .i n5_0), (16, .b false)] [] Y Y Y ?_
    have hz := some_elim H
    subst hz
    exact RunW_nil rfl
  ·refine AW2_cond Y (fun h6 => ?_) (fun h6 => ?_)
   ·replace H := ite_then h6 H
    refine as2 [(0, .t s0), (1, .t l1), (5, .i n5_0)] [] Y Y Y ?_
    refine AW2_skip ?_
    refine AW2_block ?_
    refine AW2_reg [0, 1, 2] Y ?_
    refine rp Y Y (p_move Y Y) ?_
    refine rp Y Y (p_bin Y Y Y Y) ?_
    refine rp Y Y (p_asg Y Y) ?_
    refine rz [(0, .t s0), (1, .t l1), (5, .i (w64 (n5_0 + (1 : Int))))] [] Y Y Y ?_
    have hz := some_elim H
    subst hz
    exact ⟨Y, Y⟩
   ·replace H := ite_else (ne_true h6) H
    refine as2 [(5, .i n5_0)] [] Y Y Y ?_
    refine AW2_exit ?_
    refine thenQ2_exit ?_
    have hz := some_elim H
    subst hz
    exact ⟨Y, Y⟩
 ·obtain ⟨rfl, rfl⟩ := hs
  refine ⟨by simp, ?_⟩
  refine blockQ2_exit ?_
  refine sg [0, 1] Y ?_
  refine rp Y Y (p_move Y Y) ?_
  refine rp Y Y (p_asg Y Y) ?_
  refine rz [(4, .i y'6)] [] Y Y Y ?_
  refine AW2_ret ?_
  have hz := some_elim H
  subst hz
  exact ⟨⟨res_tmp (.same _), trivial⟩, trivial⟩

/-! chirographref.isName -/
def g_ref_isName_t0 : List UInt8 := [97, 98, 99, 100, 101, 102, 103, 104, 105, 106, 107, 108, 109, 110, 111, 112, 113, 114, 115, 116, 117, 118, 119, 120, 121, 122]
def g_ref_isName_t1 : List UInt8 := [97, 98, 99, 100, 101, 102, 103, 104, 105, 106, 107, 108, 109, 110, 111, 112, 113, 114, 115, 116, 117, 118, 119, 120, 121, 122, 48, 49, 50, 51, 52, 53, 54, 55, 56, 57, 95]
noncomputable def g_ref_isName (s0 : List UInt8) : Option (Bool) :=
  ((if s0 ≠ [] then if 0 < s0.length then (g_ref_among (lrd s0 0) g_ref_isName_t0).bind fun r'1 => (if r'1 = true then (g_ref_reach s0 g_ref_isName_t1).bind fun r'2 => some (decide (r'2 = (s0.length : Int))) else some false) else none else some false)).bind fun g'3 => some g'3
set_option maxHeartbeats 4000000 in
set_option maxRecDepth 100000 in
theorem g_ref_isName_ac {s0 : List UInt8} {r : Bool} (H : g_ref_isName s0 = some r) : ACp Tryd.prog 28 [(AV.txt s0)] (AV.bool r) := by
 refine ACp_of (AC2_of_body (vs := [.b r]) Tryd.func28 Y Y (Nat.le_of_ble_eq_true Y) Y ?_) (fun _ => .same _)
 unfold g_ref_isName at H
 refine as2 [(0, .t s0)] [] Y Y Y ?_
 refine sg [0] Y ?_
 refine rp Y Y (p_asg Y Y) ?_
 refine rz [(0, .t s0)] [] Y Y Y ?_
 refine AW2_seq ?_
 refine bindK H fun g'3 h7 H => ?_
 refine AW2_mid (⟨[(2, .b g'3)], [], 17⟩ : TS) ?_ ?_
 ·clear H
  have H := h7
  clear h7
  refine AW2_reg [0, 1, 2, 3, 4, 5, 6, 7, 8, 9, 10, 11, 12, 13, 14] Y ?_
  refine rp Y Y (p_move Y Y) ?_
  refine rp Y Y (p_sne Y Y Y) ?_
  refine rp Y Y (p_move Y Y) ?_
  refine (Classical.em (s0 ≠ [])).elim (fun h2 => ?_) (fun h2 => ?_)
  ·replace H := ite_then h2 H
   refine r_on Y Y Y Y (dT h2) Y (PureD.opD (p_move Y Y)) ?_
   refine chkK H fun h3 H => ?_
   refine r_on Y Y Y Y (dT h2) Y (PureD.opD (p_ixt Y Tryd.underlying9 Y Y Y (lrd_get h3))) ?_
   refine bindK H fun r'1 h4 H => ?_
   refine r_on Y Y Y Y (dT h2) Y (PureD.opD (p_callp Y Y Y Tryd.func45 Y Y (g_ref_among_ac h4) ⟨Y, by kernel_rfl, trivial⟩)) ?_
   refine rp Y Y (p_pkt Y Y (dT h2) (.same _)) ?_
   refine rp Y Y (p_move Y Y) ?_
   refine (Classical.em (r'1 = true)).elim (fun h5 => ?_) (fun h5 => ?_)
   ·replace H := ite_then h5 H
    refine rn Y Y Y Y h5 Y (p_move Y Y) ?_
    refine bindK H fun r'2 h6 H => ?_
    refine rn Y Y Y Y h5 Y (p_callp Y Y Y Tryd.func46 Y Y (g_ref_reach_ac h6) ⟨Y, by kernel_rfl, trivial⟩) ?_
    refine rn Y Y Y Y h5 Y (p_move Y Y) ?_
    refine rn Y Y Y Y h5 Y (p_lent Y Tryd.underlying9 Y) ?_
    refine rn Y Y Y Y h5 Y (p_ieq Y Y Y) ?_
    refine rp Y Y (p_pkt Y Y h5 (.same _)) ?_
    refine rp Y Y (p_asg Y Y) ?_
    refine rs [(2, .b (decide (r'2 = (s0.length : Int))))] [] Y Y Y ?_
    have hz := some_elim H
    subst hz
    exact RunW_nil rfl
   ·replace H := ite_else h5 H
    refine r_off Y Y Y Y (bfalse h5) Y Y ?_
    refine r_off Y Y Y Y (bfalse h5) Y Y ?_
    refine r_off Y Y Y Y (bfalse h5) Y Y ?_
    refine r_off Y Y Y Y (bfalse h5) Y Y ?_
    refine r_off Y Y Y Y (bfalse h5) Y Y ?_
    refine rp Y Y (p_pkf Y Y (bfalse h5) (.same _)) ?_
    refine rp Y Y (p_asg Y Y) ?_
    refine rs [(2, .b false)] [] Y Y Y ?_
    have hz := some_elim H
    subst hz
    exact RunW_nil rfl
  ·replace H := ite_else h2 H
   refine r_off Y Y Y Y (dF h2) Y Y ?_
   refine r_off Y Y Y Y (dF h2) Y Y ?_
   refine r_off Y Y Y Y (dF h2) Y Y ?_
   refine rp Y Y (p_pkf Y Y (dF h2) (.same _)) ?_
   refine rp Y Y (p_move Y Y) ?_
   refine r_off Y Y Y Y (bfalse (by decide)) Y Y ?_
   refine r_off Y Y Y Y (bfalse (by decide)) Y Y ?_
   refine r_off Y Y Y Y (bfalse (by decide)) Y Y ?_
   refine r_off Y Y Y Y (bfalse (by decide)) Y Y ?_
   refine r_off Y Y Y Y (bfalse (by decide)) Y Y ?_
   refine rp Y Y (p_pkf Y Y (bfalse (by decide)) (.same _)) ?_
   refine rp Y Y (p_asg Y Y) ?_
   refine rs [(2, .b false)] [] Y Y Y ?_
   have hz := some_elim H
   subst hz
   exact RunW_nil rfl
 ·refine AW2_ret ?_
  have hz := some_elim H
  subst hz
  exact ⟨⟨res_tmp (.same _), trivial⟩, trivial⟩

/-! chirographref.columnAt -/
noncomputable def g_ref_columnAt_l0 (cols0 : List GColumn) (name1 : List UInt8) : Int → Option (Int ⊕ (Int ⊕ Unit))
  | i5_0 => (if i5_0 ≥ (0 : Int) then if 0 ≤ i5_0 ∧ i5_0 < (cols0.length : Int) then (if (lrd cols0 i5_0.toNat).Name = name1 then some (.inr (.inl i5_0)) else some (.inl (w64 (i5_0 - (1 : Int))))) else none else some (.inr (.inr ())))
noncomputable def g_ref_columnAt (cols0 : List GColumn) (name1 : List UInt8) : Option (Int) :=
  (loopO (g_ref_columnAt_l0 cols0 name1) (w64 ((cols0.length : Int) - (1 : Int)))).bind fun o'4 => match o'4 with | .inl y'5 => some y'5 | .inr (y'6) => some (-1 : Int)
set_option maxHeartbeats 4000000 in
set_option maxRecDepth 100000 in
theorem g_ref_columnAt_ac {cols0 : List GColumn} {name1 : List UInt8} {r : Int} (H : g_ref_columnAt cols0 name1 = some r) : ACp Tryd.prog 47 [((fun q : List GColumn => AV.lst (q.flatMap GColumn.cs) q.length) cols0), (AV.txt name1)] (AV.int r) := by
 refine ACp_of (AC2_of_body (vs := [.i r]) Tryd.func47 Y Y (Nat.le_of_ble_eq_true Y) Y ?_) (fun _ => .same _)
 unfold g_ref_columnAt at H
 refine as2 [(0, .p ((fun q : List GColumn => AV.lst (q.flatMap GColumn.cs) q.length) cols0)), (1, .t name1)] [] Y Y Y ?_
 refine sg [0] Y ?_
 refine rp Y Y (p_asg Y Y) ?_
 refine rz [(0, .p ((fun q : List GColumn => AV.lst (q.flatMap GColumn.cs) q.length) cols0)), (1, .t name1)] [] Y Y Y ?_
 refine AW2_seq ?_
 refine sg [0, 1, 2, 3] Y ?_
 refine rp Y Y (p_move Y Y) ?_
 refine rp Y Y (p_lenl Y Tryd.underlying22 Y Y) ?_
 refine rp Y Y (p_bin Y Y Y Y) ?_
 refine rp Y Y (p_asg Y Y) ?_
 refine rz [(0, .p ((fun q : List GColumn => AV.lst (q.flatMap GColumn.cs) q.length) cols0)), (1, .t name1), (5, .i (w64 ((cols0.length : Int) - (1 : Int))))] [] Y Y Y ?_
 refine AW2_block ?_
 refine as2 [(0, .p ((fun q : List GColumn => AV.lst (q.flatMap GColumn.cs) q.length) cols0)), (1, .t name1), (5, .i (w64 ((cols0.length : Int) - (1 : Int))))] [] Y Y Y ?_
 refine bindK H fun o'4 h4 H => ?_
 refine AW2_loopO (fun a'1 : Int => (⟨[(0, .p ((fun q : List GColumn => AV.lst (q.flatMap GColumn.cs) q.length) cols0)), (1, .t name1), (5, .i a'1)], [], 21⟩ : TS)) (fun (o : Int ⊕ Unit) e s' => match o with | .inl y'2 => e = Go.Exit.ret ∧ ResAll Tryd.prog s' [ResultVar.tmp 4] [.i y'2] ∧ HFits s' [] | .inr (y'3) => e = Go.Exit.exit 0 ∧ s' = (⟨[], [], 21⟩ : TS)) h4 Y (fun i5_0 x hx => ?_) (fun e s' hs => ?_)
 ·clear H
  have H := hx
  clear hx
  unfold g_ref_columnAt_l0 at H
  refine AW2_seq ?_
  refine sg [0, 1] Y ?_
  refine rp Y Y (p_move Y Y) ?_
  refine rp Y Y (p_bin Y Y Y Y) ?_
  refine rz [(0, .p ((fun q : List GColumn => AV.lst (q.flatMap GColumn.cs) q.length) cols0)), (1, .t name1), (5, .i i5_0), (10, .b (decide (i5_0 ≥ (0 : Int))))] [] Y Y Y ?_
  refine AW2_if (p := i5_0 ≥ (0 : Int)) Y (fun h1 => ?_) (fun h1 => ?_)
  ·replace H := ite_then h1 H
   refine as2 [(0, .p ((fun q : List GColumn => AV.lst (q.flatMap GColumn.cs) q.length) cols0)), (1, .t name1), (5, .i i5_0)] [] Y Y Y ?_
   refine AW2_skip ?_
   refine AW2_seq ?_
   refine AW2_block ?_
   refine sg [0, 1, 2, 3, 4, 5, 6] Y ?_
   refine rp Y Y (p_move Y Y) ?_
   refine rp Y Y (p_move Y Y) ?_
   refine chkK H fun h2 H => ?_
   refine rp Y Y (u_ixl Y Y Tryd.underlying22 in_55 Y Y (ixe h2) (ixn h2) (fne (fun x => (GColumn.len x)) (by decide) (ixn h2))) ?_
   refine rp Y Y (u_far Y Y Tryd.underlying55 Y in_9 nz Y) ?_
   refine rp Y Y (u_ld Y Y Tryd.underlying9 Y Y ((Sub.fm default (fun x => (GColumn.len x)) (ixn h2)).trans (GColumn.sub0 (lrd cols0 i5_0.toNat)))) ?_
   refine rp Y Y (p_move Y Y) ?_
   refine rp Y Y (p_seq Y Y Y) ?_
   refine rz [(0, .p ((fun q : List GColumn => AV.lst (q.flatMap GColumn.cs) q.length) cols0)), (1, .t name1), (5, .i i5_0), (19, .b (decide ((lrd cols0 i5_0.toNat).Name = name1)))] [] Y Y Y ?_
   refine AW2_if (p := (lrd cols0 i5_0.toNat).Name = name1) Y (fun h3 => ?_) (fun h3 => ?_)
   ·replace H := ite_then h3 H
    refine sg [0, 1] Y ?_
    refine rp Y Y (p_move Y Y) ?_
    refine rp Y Y (p_asg Y Y) ?_
    refine rz [(4, .i i5_0)] [] Y Y Y ?_
    refine AW2_ret ?_
    have hz := some_elim H
    subst hz
    exact ⟨Y, ⟨res_tmp (.same _), trivial⟩, trivial⟩
   ·replace H := ite_else h3 H
    refine as2 [(0, .p ((fun q : List GColumn => AV.lst (q.flatMap GColumn.cs) q.length) cols0)), (1, .t name1), (5, .i i5_0)] [] Y Y Y ?_
    refine AW2_skip ?_
    refine AW2_reg [0, 1, 2] Y ?_
    refine rp Y Y (p_move Y Y) ?_
    refine rp Y Y (p_bin Y Y Y Y) ?_
    refine rp Y Y (p_asg Y Y) ?_
    refine rz [(0, .p ((fun q : List GColumn => AV.lst (q.flatMap GColumn.cs) q.length) cols0)), (1, .t name1), (5, .i (w64 (i5_0 - (1 : Int))))] [] Y Y Y ?_
    have hz := some_elim H
    subst hz
    exact ⟨Y, Y⟩
  ·replace H := ite_else h1 H
   refine as2 [] [] Y Y Y ?_
   refine AW2_exit ?_
   refine thenQ2_exit ?_
   have hz := some_elim H
   subst hz
   exact ⟨Y, Y⟩
 ·rcases o'4 with y'5 | y'6
  ·obtain ⟨rfl, hs⟩ := hs
   refine ⟨by simp, ?_⟩
   have hz := some_elim H
   subst hz
   exact ⟨hs.1, hs.2⟩
  ·obtain ⟨rfl, rfl⟩ := hs
   refine ⟨by simp, ?_⟩
   refine blockQ2_exit ?_
   refine sg [0] Y ?_
   refine rp Y Y (p_asg Y Y) ?_
   refine rz [(4, .i (-1 : Int))] [] Y Y Y ?_
   refine AW2_ret ?_
   have hz := some_elim H
   subst hz
   exact ⟨⟨res_tmp (.same _), trivial⟩, trivial⟩

/-! chirographref.ColumnsFault -/
def g_ref_ColumnsFault_r10 : List (List (Nat × Option Nat)) := [[(0, none)], [(3, none)], [(46, some 0), (47, some 1)], [(4, none)], [(49, some 3)]]
def g_ref_ColumnsFault_r10c : List (List Nat) := [[], [], [0, 1], [], [3], [0, 1, 2, 3, 4], [0, 1, 2, 3, 4, 5], [0, 1, 2, 3, 4, 5, 6]]
noncomputable def g_ref_ColumnsFault_l0 (cols0 : List GColumn) : Int → Option (Int ⊕ (Int ⊕ Unit))
  | t10_0 => (if t10_0 < (cols0.length : Int) then if 0 ≤ t10_0 ∧ t10_0 < (cols0.length : Int) then (g_ref_isName ((lrd cols0 t10_0.toNat).Name)).bind fun r'1 => (if ((!r'1) = true) ∨ ((((lrd cols0 t10_0.toNat).Name).length : Int) > (8 : Int)) then some (.inr (.inl (3 : Int))) else letO (decide (((((lrd cols0 t10_0.toNat).Kind ≠ (1 : Int)) ∧ ((lrd cols0 t10_0.toNat).Kind ≠ (2 : Int))) ∧ ((lrd cols0 t10_0.toNat).Kind ≠ (3 : Int))) ∧ ((lrd cols0 t10_0.toNat).Kind ≠ (4 : Int)))) fun t26'2 => (if t26'2 = true then some (.inr (.inl (2 : Int))) else if 0 ≤ t10_0 ∧ t10_0 ≤ (cols0.length : Int) then (g_ref_columnAt (cut cols0 (0 : Int) t10_0) ((lrd cols0 t10_0.toNat).Name)).bind fun r'3 => (if r'3 ≥ (0 : Int) then some (.inr (.inl (8 : Int))) else some (.inl (w64 (t10_0 + (1 : Int))))) else none)) else none else some (.inr (.inr ())))
noncomputable def g_ref_ColumnsFault (cols0 : List GColumn) : Option (Int) :=
  (if (cols0.length : Int) > (5 : Int) then some (1 : Int) else (loopO (g_ref_ColumnsFault_l0 cols0) (0 : Int)).bind fun o'7 => match o'7 with | .inl y'8 => some y'8 | .inr (y'9) => some (0 : Int))
set_option maxHeartbeats 4000000 in
set_option maxRecDepth 100000 in
theorem g_ref_ColumnsFault_ac {cols0 : List GColumn} {r : Int} (H : g_ref_ColumnsFault cols0 = some r) : ACp Tryd.prog 29 [((fun q : List GColumn => AV.lst (q.flatMap GColumn.cs) q.length) cols0)] (AV.int r) := by
 refine ACp_of (AC2_of_body (vs := [.i r]) Tryd.func29 Y Y (Nat.le_of_ble_eq_true Y) Y ?_) (fun _ => .same _)
 unfold g_ref_ColumnsFault at H
 refine as2 [(0, .p ((fun q : List GColumn => AV.lst (q.flatMap GColumn.cs) q.length) cols0))] [] Y Y Y ?_
 refine sg [0] Y ?_
 refine rp Y Y (p_asg Y Y) ?_
 refine rz [(0, .p ((fun q : List GColumn => AV.lst (q.flatMap GColumn.cs) q.length) cols0))] [] Y Y Y ?_
 refine AW2_seq ?_
 refine sg [0, 1, 2] Y ?_
 refine rp Y Y (p_move Y Y) ?_
 refine rp Y Y (p_lenl Y Tryd.underlying22 Y Y) ?_
 refine rp Y Y (p_bin Y Y Y Y) ?_
 refine rz [(0, .p ((fun q : List GColumn => AV.lst (q.flatMap GColumn.cs) q.length) cols0)), (7, .b (decide ((cols0.length : Int) > (5 : Int))))] [] Y Y Y ?_
 refine AW2_if (p := (cols0.length : Int) > (5 : Int)) Y (fun h1 => ?_) (fun h1 => ?_)
 ·replace H := ite_then h1 H
  refine sg [0] Y ?_
  refine rp Y Y (p_asg Y Y) ?_
  refine rz [(2, .i (1 : Int))] [] Y Y Y ?_
  refine AW2_ret ?_
  have hz := some_elim H
  subst hz
  exact ⟨⟨res_tmp (.same _), trivial⟩, trivial⟩
 ·replace H := ite_else h1 H
  refine as2 [(0, .p ((fun q : List GColumn => AV.lst (q.flatMap GColumn.cs) q.length) cols0))] [] Y Y Y ?_
  refine AW2_skip ?_
  refine AW2_seq ?_
  refine sg [0, 1, 2] Y ?_
  refine rp Y Y (p_move Y Y) ?_
  refine rp Y Y (p_lenl Y Tryd.underlying22 Y Y) ?_
  refine rp Y Y (p_move Y Y) ?_
  refine rz [(0, .p ((fun q : List GColumn => AV.lst (q.flatMap GColumn.cs) q.length) cols0)), (8, .p ((fun q : List GColumn => AV.lst (q.flatMap GColumn.cs) q.length) cols0)), (9, .i (cols0.length : Int)), (10, .i (0 : Int))] [] Y Y Y ?_
  refine AW2_block ?_
  refine as2 [(0, .p ((fun q : List GColumn => AV.lst (q.flatMap GColumn.cs) q.length) cols0)), (8, .p ((fun q : List GColumn => AV.lst (q.flatMap GColumn.cs) q.length) cols0)), (9, .i (cols0.length : Int)), (10, .i (0 : Int))] [] Y Y Y ?_
  refine bindK H fun o'7 h14 H => ?_
  refine AW2_loopO (fun a'4 : Int => (⟨[(0, .p ((fun q : List GColumn => AV.lst (q.flatMap GColumn.cs) q.length) cols0)), (8, .p ((fun q : List GColumn => AV.lst (q.flatMap GColumn.cs) q.length) cols0)), (9, .i (cols0.length : Int)), (10, .i a'4)], [], 54⟩ : TS)) (fun (o : Int ⊕ Unit) e s' => match o with | .inl y'5 => e = Go.Exit.ret ∧ ResAll Tryd.prog s' [ResultVar.tmp 2] [.i y'5] ∧ HFits s' [] | .inr (y'6) => e = Go.Exit.exit 0 ∧ s' = (⟨[], [], 54⟩ : TS)) h14 Y (fun t10_0 x hx => ?_) (fun e s' hs => ?_)
  ·clear H
   have H := hx
   clear hx
   unfold g_ref_ColumnsFault_l0 at H
   refine sg [0] Y ?_
   refine rp Y Y (p_bin Y Y Y Y) ?_
   refine rz [(0, .p ((fun q : List GColumn => AV.lst (q.flatMap GColumn.cs) q.length) cols0)), (8, .p ((fun q : List GColumn => AV.lst (q.flatMap GColumn.cs) q.length) cols0)), (9, .i (cols0.length : Int)), (10, .i t10_0), (11, .b (decide (t10_0 < (cols0.length : Int))))] [] Y Y Y ?_
   refine AW2_seq ?_
   refine AW2_if (p := t10_0 < (cols0.length : Int)) Y (fun h2 => ?_) (fun h2 => ?_)
   ·replace H := ite_then h2 H
    refine as2 [(0, .p ((fun q : List GColumn => AV.lst (q.flatMap GColumn.cs) q.length) cols0)), (8, .p ((fun q : List GColumn => AV.lst (q.flatMap GColumn.cs) q.length) cols0)), (9, .i (cols0.length : Int)), (10, .i t10_0)] [] Y Y Y ?_
    refine AW2_skip ?_
    refine AW2_seq ?_
    refine AW2_block ?_
    refine sg [0, 1, 2, 3, 4, 5] Y ?_
    refine rp Y Y (p_move Y Y) ?_
    refine chkK H fun h3 H => ?_
    refine rp Y Y (u_ixl Y Y Tryd.underlying22 in_55 Y Y (ixe h3) (ixn h3) (fne (fun x => (GColumn.len x)) (by decide) (ixn h3))) ?_
    refine rp Y Y (u_lda Y Y Tryd.underlying55 Y in_55 Y (Nat.succ_pos _) (Sub.fm default (fun x => (GColumn.len x)) (ixn h3)) (GColumn.len (lrd cols0 t10_0.toNat))) ?_
    refine r_op Y Y (MakeD.opD (u_alloc 4 Y in_55 one_55 zc_55) Y Y Y Y) ?_
    refine rp Y Y (p_asg Y Y) ?_
    refine r_op Y Y (u_st Y Y Y Y Y in_55 (GColumn.len (lrd cols0 t10_0.toNat)) (nl (GColumn.len GColumn.zero)) (Upd.refl ((GColumn.len (lrd cols0 t10_0.toNat)).trans (GColumn.len GColumn.zero).symm))) ?_
    refine rz [(0, .p ((fun q : List GColumn => AV.lst (q.flatMap GColumn.cs) q.length) cols0)), (3, .i t10_0), (4, .q 4 (0)), (8, .p ((fun q : List GColumn => AV.lst (q.flatMap GColumn.cs) q.length) cols0)), (9, .i (cols0.length : Int)), (10, .i t10_0)] [(4, .pure (GColumn.cs (lrd cols0 t10_0.toNat)))] Y Y Y ?_
    refine AW2_block ?_
    refine AW2_seq ?_
    refine bindK H fun r'1 h4 H => ?_
    refine AW2_mid (⟨[(0, .p ((fun q : List GColumn => AV.lst (q.flatMap GColumn.cs) q.length) cols0)), (3, .i t10_0), (4, .q 4 (0)), (8, .p ((fun q : List GColumn => AV.lst (q.flatMap GColumn.cs) q.length) cols0)), (9, .i (cols0.length : Int)), (10, .i t10_0), (15, .b (decide (((!r'1) = true) ∨ ((((lrd cols0 t10_0.toNat).Name).length : Int) > (8 : Int)))))], [(4, .pure (GColumn.cs (lrd cols0 t10_0.toNat)))], 54⟩ : TS) ?_ ?_
    ·refine AW2_reg [0, 1, 2, 3, 4, 5, 6, 7, 8, 9, 10] Y ?_
     refine rp Y Y (u_fa Y Y Tryd.underlying55 Y in_9 nz Y Y (nl (GColumn.len (lrd cols0 t10_0.toNat)))) ?_
     refine rp Y Y (u_ld Y Y Tryd.underlying9 Y Y ((Sub.refl _).trans (GColumn.sub0 (lrd cols0 t10_0.toNat)))) ?_
     refine rp Y Y (p_callp Y Y Y Tryd.func28 Y Y (g_ref_isName_ac h4) ⟨Y, trivial⟩) ?_
     refine rp Y Y (p_not Y Y) ?_
     refine rp Y Y (p_move Y Y) ?_
     refine (Classical.em ((!r'1) = true)).elim (fun h5 => ?_) (fun h5 => ?_)
     ·refine r_off Y Y Y Y h5 Y Y ?_
      refine r_off Y Y Y Y h5 Y Y ?_
      refine r_off Y Y Y Y h5 Y Y ?_
      refine r_off Y Y Y Y h5 Y Y ?_
      refine rp Y Y (p_pkt Y Y h5 (tb (dT (p := ((!r'1) = true) ∨ ((((lrd cols0 t10_0.toNat).Name).length : Int) > (8 : Int))) (Or.inl h5)).symm)) ?_
      refine rp Y Y (p_asg Y Y) ?_
      refine rs [(0, .p ((fun q : List GColumn => AV.lst (q.flatMap GColumn.cs) q.length) cols0)), (3, .i t10_0), (4, .q 4 (0)), (8, .p ((fun q : List GColumn => AV.lst (q.flatMap GColumn.cs) q.length) cols0)), (9, .i (cols0.length : Int)), (10, .i t10_0), (15, .b (decide (((!r'1) = true) ∨ ((((lrd cols0 t10_0.toNat).Name).length : Int) > (8 : Int)))))] [(4, .pure (GColumn.cs (lrd cols0 t10_0.toNat)))] Y Y Y ?_
      exact RunW_nil rfl
     ·refine r_on Y Y Y Y (bfalse h5) Y (PureD.opD (u_fa Y Y Tryd.underlying55 Y in_9 nz Y Y (nl (GColumn.len (lrd cols0 t10_0.toNat))))) ?_
      refine r_on Y Y Y Y (bfalse h5) Y (PureD.opD (u_ld Y Y Tryd.underlying9 Y Y ((Sub.refl _).trans (GColumn.sub0 (lrd cols0 t10_0.toNat))))) ?_
      refine r_on Y Y Y Y (bfalse h5) Y (PureD.opD (p_lent Y Tryd.underlying9 Y)) ?_
      refine r_on Y Y Y Y (bfalse h5) Y (PureD.opD (p_bin Y Y Y Y)) ?_
      refine rp Y Y (p_pkf Y Y (bfalse h5) (tb ((or_l (p := (!r'1) = true) (q := (((lrd cols0 t10_0.toNat).Name).length : Int) > (8 : Int)) h5)))) ?_
      refine rp Y Y (p_asg Y Y) ?_
      refine rs [(0, .p ((fun q : List GColumn => AV.lst (q.flatMap GColumn.cs) q.length) cols0)), (3, .i t10_0), (4, .q 4 (0)), (8, .p ((fun q : List GColumn => AV.lst (q.flatMap GColumn.cs) q.length) cols0)), (9, .i (cols0.length : Int)), (10, .i t10_0), (15, .b (decide (((!r'1) = true) ∨ ((((lrd cols0 t10_0.toNat).Name).length : Int) > (8 : Int)))))] [(4, .pure (GColumn.cs (lrd cols0 t10_0.toNat)))] Y Y Y ?_
      exact RunW_nil rfl
    ·refine AW2_if (p := ((!r'1) = true) ∨ ((((lrd cols0 t10_0.toNat).Name).length : Int) > (8 : Int))) Y (fun h6 => ?_) (fun h6 => ?_)
     ·replace H := ite_then h6 H
      refine sg [0] Y ?_
      refine rp Y Y (p_asg Y Y) ?_
      refine rz [(2, .i (3 : Int))] [] Y Y Y ?_
      refine AW2_ret ?_
      have hz := some_elim H
      subst hz
      exact ⟨Y, ⟨res_tmp (.same _), trivial⟩, trivial⟩
     ·replace H := ite_else h6 H
      refine AW2_seq ?_
      refine AW2_mid (⟨[(0, .p ((fun q : List GColumn => AV.lst (q.flatMap GColumn.cs) q.length) cols0)), (3, .i t10_0), (4, .q 4 (0)), (8, .p ((fun q : List GColumn => AV.lst (q.flatMap GColumn.cs) q.length) cols0)), (9, .i (cols0.length : Int)), (10, .i t10_0), (26, .b (decide (((((lrd cols0 t10_0.toNat).Kind ≠ (1 : Int)) ∧ ((lrd cols0 t10_0.toNat).Kind ≠ (2 : Int))) ∧ ((lrd cols0 t10_0.toNat).Kind ≠ (3 : Int))) ∧ ((lrd cols0 t10_0.toNat).Kind ≠ (4 : Int)))))], [(4, .pure (GColumn.cs (lrd cols0 t10_0.toNat)))], 54⟩ : TS) ?_ ?_
      ·refine AW2_reg [0, 1, 2, 3, 4, 5, 6, 7, 8, 9, 10, 11, 12, 13, 14, 15, 16, 17, 18] Y ?_
       refine rp Y Y (u_fa Y Y Tryd.underlying55 Y in_3 nz Y Y (nl (GColumn.len (lrd cols0 t10_0.toNat)))) ?_
       refine rp Y Y (u_ld Y Y Tryd.underlying3 Y Y ((Sub.refl _).trans (GColumn.sub1 (lrd cols0 t10_0.toNat)))) ?_
       refine rp Y Y (p_ine Y Y Y) ?_
       refine rp Y Y (p_move Y Y) ?_
       refine (Classical.em ((lrd cols0 t10_0.toNat).Kind ≠ (1 : Int))).elim (fun h7 => ?_) (fun h7 => ?_)
       ·refine r_on Y Y Y Y (dT h7) Y (PureD.opD (u_fa Y Y Tryd.underlying55 Y in_3 nz Y Y (nl (GColumn.len (lrd cols0 t10_0.toNat))))) ?_
        refine r_on Y Y Y Y (dT h7) Y (PureD.opD (u_ld Y Y Tryd.underlying3 Y Y ((Sub.refl _).trans (GColumn.sub1 (lrd cols0 t10_0.toNat))))) ?_
        refine r_on Y Y Y Y (dT h7) Y (PureD.opD (p_ine Y Y Y)) ?_
        refine rp Y Y (p_pkt Y Y (dT h7) (tb ((and_l (p := (lrd cols0 t10_0.toNat).Kind ≠ (1 : Int)) (q := (lrd cols0 t10_0.toNat).Kind ≠ (2 : Int)) h7)))) ?_
        refine rp Y Y (p_move Y Y) ?_
        refine (Classical.em ((lrd cols0 t10_0.toNat).Kind ≠ (2 : Int))).elim (fun h8 => ?_) (fun h8 => ?_)
        ·refine r_on Y Y Y Y (dT (p := ((lrd cols0 t10_0.toNat).Kind ≠ (1 : Int)) ∧ ((lrd cols0 t10_0.toNat).Kind ≠ (2 : Int))) ⟨h7, h8⟩) Y (PureD.opD (u_fa Y Y Tryd.underlying55 Y in_3 nz Y Y (nl (GColumn.len (lrd cols0 t10_0.toNat))))) ?_
         refine r_on Y Y Y Y (dT (p := ((lrd cols0 t10_0.toNat).Kind ≠ (1 : Int)) ∧ ((lrd cols0 t10_0.toNat).Kind ≠ (2 : Int))) ⟨h7, h8⟩) Y (PureD.opD (u_ld Y Y Tryd.underlying3 Y Y ((Sub.refl _).trans (GColumn.sub1 (lrd cols0 t10_0.toNat))))) ?_
         refine r_on Y Y Y Y (dT (p := ((lrd cols0 t10_0.toNat).Kind ≠ (1 : Int)) ∧ ((lrd cols0 t10_0.toNat).Kind ≠ (2 : Int))) ⟨h7, h8⟩) Y (PureD.opD (p_ine Y Y Y)) ?_
         refine rp Y Y (p_pkt Y Y (dT (p := ((lrd cols0 t10_0.toNat).Kind ≠ (1 : Int)) ∧ ((lrd cols0 t10_0.toNat).Kind ≠ (2 : Int))) ⟨h7, h8⟩) (tb ((and_l (p := ((lrd cols0 t10_0.toNat).Kind ≠ (1 : Int)) ∧ ((lrd cols0 t10_0.toNat).Kind ≠ (2 : Int))) (q := (lrd cols0 t10_0.toNat).Kind ≠ (3 : Int)) ⟨h7, h8⟩)))) ?_
         refine rp Y Y (p_move Y Y) ?_
         refine (Classical.em ((lrd cols0 t10_0.toNat).Kind ≠ (3 : Int))).elim (fun h9 => ?_) (fun h9 => ?_)
         ·refine r_on Y Y Y Y (dT (p := (((lrd cols0 t10_0.toNat).Kind ≠ (1 : Int)) ∧ ((lrd cols0 t10_0.toNat).Kind ≠ (2 : Int))) ∧ ((lrd cols0 t10_0.toNat).Kind ≠ (3 : Int))) ⟨⟨h7, h8⟩, h9⟩) Y (PureD.opD (u_fa Y Y Tryd.underlying55 Y in_3 nz Y Y (nl (GColumn.len (lrd cols0 t10_0.toNat))))) ?_
          refine r_on Y Y Y Y (dT (p := (((lrd cols0 t10_0.toNat).Kind ≠ (1 : Int)) ∧ ((lrd cols0 t10_0.toNat).Kind ≠ (2 : Int))) ∧ ((lrd cols0 t10_0.toNat).Kind ≠ (3 : Int))) ⟨⟨h7, h8⟩, h9⟩) Y (PureD.opD (u_ld Y Y Tryd.underlying3 Y Y ((Sub.refl _).trans (GColumn.sub1 (lrd cols0 t10_0.toNat))))) ?_
          refine r_on Y Y Y Y (dT (p := (((lrd cols0 t10_0.toNat).Kind ≠ (1 : Int)) ∧ ((lrd cols0 t10_0.toNat).Kind ≠ (2 : Int))) ∧ ((lrd cols0 t10_0.toNat).Kind ≠ (3 : Int))) ⟨⟨h7, h8⟩, h9⟩) Y (PureD.opD (p_ine Y Y Y)) ?_
          refine rp Y Y (p_pkt Y Y (dT (p := (((lrd cols0 t10_0.toNat).Kind ≠ (1 : Int)) ∧ ((lrd cols0 t10_0.toNat).Kind ≠ (2 : Int))) ∧ ((lrd cols0 t10_0.toNat).Kind ≠ (3 : Int))) ⟨⟨h7, h8⟩, h9⟩) (tb ((and_l (p := (((lrd cols0 t10_0.toNat).Kind ≠ (1 : Int)) ∧ ((lrd cols0 t10_0.toNat).Kind ≠ (2 : Int))) ∧ ((lrd cols0 t10_0.toNat).Kind ≠ (3 : Int))) (q := (lrd cols0 t10_0.toNat).Kind ≠ (4 : Int)) ⟨⟨h7, h8⟩, h9⟩)))) ?_
          refine rp Y Y (p_asg Y Y) ?_
          refine rs [(0, .p ((fun q : List GColumn => AV.lst (q.flatMap GColumn.cs) q.length) cols0)), (3, .i t10_0), (4, .q 4 (0)), (8, .p ((fun q : List GColumn => AV.lst (q.flatMap GColumn.cs) q.length) cols0)), (9, .i (cols0.length : Int)), (10, .i t10_0), (26, .b (decide (((((lrd cols0 t10_0.toNat).Kind ≠ (1 : Int)) ∧ ((lrd cols0 t10_0.toNat).Kind ≠ (2 : Int))) ∧ ((lrd cols0 t10_0.toNat).Kind ≠ (3 : Int))) ∧ ((lrd cols0 t10_0.toNat).Kind ≠ (4 : Int)))))] [(4, .pure (GColumn.cs (lrd cols0 t10_0.toNat)))] Y Y Y ?_
          exact RunW_nil rfl
         ·refine r_off Y Y Y Y (dF (p := (((lrd cols0 t10_0.toNat).Kind ≠ (1 : Int)) ∧ ((lrd cols0 t10_0.toNat).Kind ≠ (2 : Int))) ∧ ((lrd cols0 t10_0.toNat).Kind ≠ (3 : Int))) (fun h => h9 h.2)) Y Y ?_
          refine r_off Y Y Y Y (dF (p := (((lrd cols0 t10_0.toNat).Kind ≠ (1 : Int)) ∧ ((lrd cols0 t10_0.toNat).Kind ≠ (2 : Int))) ∧ ((lrd cols0 t10_0.toNat).Kind ≠ (3 : Int))) (fun h => h9 h.2)) Y Y ?_
          refine r_off Y Y Y Y (dF (p := (((lrd cols0 t10_0.toNat).Kind ≠ (1 : Int)) ∧ ((lrd cols0 t10_0.toNat).Kind ≠ (2 : Int))) ∧ ((lrd cols0 t10_0.toNat).Kind ≠ (3 : Int))) (fun h => h9 h.2)) Y Y ?_
          refine rp Y Y (p_pkf Y Y (dF (p := (((lrd cols0 t10_0.toNat).Kind ≠ (1 : Int)) ∧ ((lrd cols0 t10_0.toNat).Kind ≠ (2 : Int))) ∧ ((lrd cols0 t10_0.toNat).Kind ≠ (3 : Int))) (fun h => h9 h.2)) (tb (dF (p := ((((lrd cols0 t10_0.toNat).Kind ≠ (1 : Int)) ∧ ((lrd cols0 t10_0.toNat).Kind ≠ (2 : Int))) ∧ ((lrd cols0 t10_0.toNat).Kind ≠ (3 : Int))) ∧ ((lrd cols0 t10_0.toNat).Kind ≠ (4 : Int))) (fun x => (fun h => h9 h.2) x.1)).symm)) ?_
          refine rp Y Y (p_asg Y Y) ?_
          refine rs [(0, .p ((fun q : List GColumn => AV.lst (q.flatMap GColumn.cs) q.length) cols0)), (3, .i t10_0), (4, .q 4 (0)), (8, .p ((fun q : List GColumn => AV.lst (q.flatMap GColumn.cs) q.length) cols0)), (9, .i (cols0.length : Int)), (10, .i t10_0), (26, .b (decide (((((lrd cols0 t10_0.toNat).Kind ≠ (1 : Int)) ∧ ((lrd cols0 t10_0.toNat).Kind ≠ (2 : Int))) ∧ ((lrd cols0 t10_0.toNat).Kind ≠ (3 : Int))) ∧ ((lrd cols0 t10_0.toNat).Kind ≠ (4 : Int)))))] [(4, .pure (GColumn.cs (lrd cols0 t10_0.toNat)))] Y Y Y ?_
          exact RunW_nil rfl
        ·refine r_off Y Y Y Y (dF (p := ((lrd cols0 t10_0.toNat).Kind ≠ (1 : Int)) ∧ ((lrd cols0 t10_0.toNat).Kind ≠ (2 : Int))) (fun h => h8 h.2)) Y Y ?_
         refine r_off Y Y Y Y (dF (p := ((lrd cols0 t10_0.toNat).Kind ≠ (1 : Int)) ∧ ((lrd cols0 t10_0.toNat).Kind ≠ (2 : Int))) (fun h => h8 h.2)) Y Y ?_
         refine r_off Y Y Y Y (dF (p := ((lrd cols0 t10_0.toNat).Kind ≠ (1 : Int)) ∧ ((lrd cols0 t10_0.toNat).Kind ≠ (2 : Int))) (fun h => h8 h.2)) Y Y ?_
         refine rp Y Y (p_pkf Y Y (dF (p := ((lrd cols0 t10_0.toNat).Kind ≠ (1 : Int)) ∧ ((lrd cols0 t10_0.toNat).Kind ≠ (2 : Int))) (fun h => h8 h.2)) (tb (dF (p := (((lrd cols0 t10_0.toNat).Kind ≠ (1 : Int)) ∧ ((lrd cols0 t10_0.toNat).Kind ≠ (2 : Int))) ∧ ((lrd cols0 t10_0.toNat).Kind ≠ (3 : Int))) (fun x => (fun h => h8 h.2) x.1)).symm)) ?_
         refine rp Y Y (p_move Y Y) ?_
         refine r_off Y Y Y Y (dF (p := (((lrd cols0 t10_0.toNat).Kind ≠ (1 : Int)) ∧ ((lrd cols0 t10_0.toNat).Kind ≠ (2 : Int))) ∧ ((lrd cols0 t10_0.toNat).Kind ≠ (3 : Int))) (fun h => (fun h => h8 h.2) h.1)) Y Y ?_
         refine r_off Y Y Y Y (dF (p := (((lrd cols0 t10_0.toNat).Kind ≠ (1 : Int)) ∧ ((lrd cols0 t10_0.toNat).Kind ≠ (2 : Int))) ∧ ((lrd cols0 t10_0.toNat).Kind ≠ (3 : Int))) (fun h => (fun h => h8 h.2) h.1)) Y Y ?_
         refine r_off Y Y Y Y (dF (p := (((lrd cols0 t10_0.toNat).Kind ≠ (1 : Int)) ∧ ((lrd cols0 t10_0.toNat).Kind ≠ (2 : Int))) ∧ ((lrd cols0 t10_0.toNat).Kind ≠ (3 : Int))) (fun h => (fun h => h8 h.2) h.1)) Y Y ?_
         refine rp Y Y (p_pkf Y Y (dF (p := (((lrd cols0 t10_0.toNat).Kind ≠ (1 : Int)) ∧ ((lrd cols0 t10_0.toNat).Kind ≠ (2 : Int))) ∧ ((lrd cols0 t10_0.toNat).Kind ≠ (3 : Int))) (fun h => (fun h => h8 h.2) h.1)) (tb (dF (p := ((((lrd cols0 t10_0.toNat).Kind ≠ (1 : Int)) ∧ ((lrd cols0 t10_0.toNat).Kind ≠ (2 : Int))) ∧ ((lrd cols0 t10_0.toNat).Kind ≠ (3 : Int))) ∧ ((lrd cols0 t10_0.toNat).Kind ≠ (4 : Int))) (fun x => (fun h => (fun h => h8 h.2) h.1) x.1)).symm)) ?_
         refine rp Y Y (p_asg Y Y) ?_
         refine rs [(0, .p ((fun q : List GColumn => AV.lst (q.flatMap GColumn.cs) q.length) cols0)), (3, .i t10_0), (4, .q 4 (0)), (8, .p ((fun q : List GColumn => AV.lst (q.flatMap GColumn.cs) q.length) cols0)), (9, .i (cols0.length : Int)), (10, .i t10_0), (26, .b (decide (((((lrd cols0 t10_0.toNat).Kind ≠ (1 : Int)) ∧ ((lrd cols0 t10_0.toNat).Kind ≠ (2 : Int))) ∧ ((lrd cols0 t10_0.toNat).Kind ≠ (3 : Int))) ∧ ((lrd cols0 t10_0.toNat).Kind ≠ (4 : Int)))))] [(4, .pure (GColumn.cs (lrd cols0 t10_0.toNat)))] Y Y Y ?_
         exact RunW_nil rfl
       ·refine r_off Y Y Y Y (dF h7) Y Y ?_
        refine r_off Y Y Y Y (dF h7) Y Y ?_
        refine r_off Y Y Y Y (dF h7) Y Y ?_
        refine rp Y Y (p_pkf Y Y (dF h7) (tb (dF (p := ((lrd cols0 t10_0.toNat).Kind ≠ (1 : Int)) ∧ ((lrd cols0 t10_0.toNat).Kind ≠ (2 : Int))) (fun x => h7 x.1)).symm)) ?_
        refine rp Y Y (p_move Y Y) ?_
        refine r_off Y Y Y Y (dF (p := ((lrd cols0 t10_0.toNat).Kind ≠ (1 : Int)) ∧ ((lrd cols0 t10_0.toNat).Kind ≠ (2 : Int))) (fun h => h7 h.1)) Y Y ?_
        refine r_off Y Y Y Y (dF (p := ((lrd cols0 t10_0.toNat).Kind ≠ (1 : Int)) ∧ ((lrd cols0 t10_0.toNat).Kind ≠ (2 : Int))) (fun h => h7 h.1)) Y Y ?_
        refine r_off Y Y Y Y (dF (p := ((lrd cols0 t10_0.toNat).Kind ≠ (1 : Int)) ∧ ((lrd cols0 t10_0.toNat).Kind ≠ (2 : Int))) (fun h => h7 h.1)) Y Y ?_
        refine rp Y Y (p_pkf Y Y (dF (p := ((lrd cols0 t10_0.toNat).Kind ≠ (1 : Int)) ∧ ((lrd cols0 t10_0.toNat).Kind ≠ (2 : Int))) (fun h => h7 h.1)) (tb (dF (p := (((lrd cols0 t10_0.toNat).Kind ≠ (1 : Int)) ∧ ((lrd cols0 t10_0.toNat).Kind ≠ (2 : Int))) ∧ ((lrd cols0 t10_0.toNat).Kind ≠ (3 : Int))) (fun x => (fun h => h7 h.1) x.1)).symm)) ?_
        refine rp Y Y (p_move Y Y) ?_
        refine r_off Y Y Y Y (dF (p := (((lrd cols0 t10_0.toNat).Kind ≠ (1 : Int)) ∧ ((lrd cols0 t10_0.toNat).Kind ≠ (2 : Int))) ∧ ((lrd cols0 t10_0.toNat).Kind ≠ (3 : Int))) (fun h => (fun h => h7 h.1) h.1)) Y Y ?_
        refine r_off Y Y Y Y (dF (p := (((lrd cols0 t10_0.toNat).Kind ≠ (1 : Int)) ∧ ((lrd cols0 t10_0.toNat).Kind ≠ (2 : Int))) ∧ ((lrd cols0 t10_0.toNat).Kind ≠ (3 : Int))) (fun h => (fun h => h7 h.1) h.1)) Y Y ?_
        refine r_off Y Y Y Y (dF (p := (((lrd cols0 t10_0.toNat).Kind ≠ (1 : Int)) ∧ ((lrd cols0 t10_0.toNat).Kind ≠ (2 : Int))) ∧ ((lrd cols0 t10_0.toNat).Kind ≠ (3 : Int))) (fun h => (fun h => h7 h.1) h.1)) Y Y ?_
        refine rp Y Y (p_pkf Y Y (dF (p := (((lrd cols0 t10_0.toNat).Kind ≠ (1 : Int)) ∧ ((lrd cols0 t10_0.toNat).Kind ≠ (2 : Int))) ∧ ((lrd cols0 t10_0.toNat).Kind ≠ (3 : Int))) (fun h => (fun h => h7 h.1) h.1)) (tb (dF (p := ((((lrd cols0 t10_0.toNat).Kind ≠ (1 : Int)) ∧ ((lrd cols0 t10_0.toNat).Kind ≠ (2 : Int))) ∧ ((lrd cols0 t10_0.toNat).Kind ≠ (3 : Int))) ∧ ((lrd cols0 t10_0.toNat).Kind ≠ (4 : Int))) (fun x => (fun h => (fun h => h7 h.1) h.1) x.1)).symm)) ?_
        refine rp Y Y (p_asg Y Y) ?_
        refine rs [(0, .p ((fun q : List GColumn => AV.lst (q.flatMap GColumn.cs) q.length) cols0)), (3, .i t10_0), (4, .q 4 (0)), (8, .p ((fun q : List GColumn => AV.lst (q.flatMap GColumn.cs) q.length) cols0)), (9, .i (cols0.length : Int)), (10, .i t10_0), (26, .b (decide (((((lrd cols0 t10_0.toNat).Kind ≠ (1 : Int)) ∧ ((lrd cols0 t10_0.toNat).Kind ≠ (2 : Int))) ∧ ((lrd cols0 t10_0.toNat).Kind ≠ (3 : Int))) ∧ ((lrd cols0 t10_0.toNat).Kind ≠ (4 : Int)))))] [(4, .pure (GColumn.cs (lrd cols0 t10_0.toNat)))] Y Y Y ?_
        exact RunW_nil rfl
      ·refine gen1 (fun t26'2 => (⟨[(0, .p ((fun q : List GColumn => AV.lst (q.flatMap GColumn.cs) q.length) cols0)), (3, .i t10_0), (4, .q 4 (0)), (8, .p ((fun q : List GColumn => AV.lst (q.flatMap GColumn.cs) q.length) cols0)), (9, .i (cols0.length : Int)), (10, .i t10_0), (26, .b t26'2)], [(4, .pure (GColumn.cs (lrd cols0 t10_0.toNat)))], 54⟩ : TS)) H ?_
       intro t26'2 H
       refine AW2_cond Y (fun h10 => ?_) (fun h10 => ?_)
       ·replace H := ite_then h10 H
        refine sg [0] Y ?_
        refine rp Y Y (p_asg Y Y) ?_
        refine rz [(2, .i (2 : Int))] [] Y Y Y ?_
        refine AW2_ret ?_
        have hz := some_elim H
        subst hz
        exact ⟨Y, ⟨res_tmp (.same _), trivial⟩, trivial⟩
       ·replace H := ite_else (ne_true h10) H
        refine AW2_seq ?_
        refine chkK H fun h11 H => ?_
        refine bindK H fun r'3 h12 H => ?_
        refine AW2_ghoQ ?_
        refine AW2_draw 5 [5, 6, 7] (fun k => ([.p ((fun q : List GColumn => AV.lst (q.flatMap GColumn.cs) q.length) cols0), .i t10_0, .p ((fun q : List GColumn => AV.lst (q.flatMap GColumn.cs) q.length) (cut cols0 (0 : Int) t10_0)), .q 4 (0 + 0), .t ((lrd cols0 t10_0.toNat).Name)] : List TV).getD k TV.any) (fun k => g_ref_ColumnsFault_r10.getD k []) [(0, none), (8, none), (9, none), (10, none), (48, some 2), (50, some 4)] [] (fun k => g_ref_ColumnsFault_r10c.getD k []) mixed (by kernel_rfl) Y Y (a_op (g_x Y (x_p Y (p_move Y Y) Y)) (a_op (g_x Y (x_p Y (p_move Y Y) Y)) (a_op (g_x Y (x_p Y (u_cutl (g := (fun l => l.flatMap GColumn.cs)) (a := (0 : Int)) (b := t10_0) Y Y Tryd.underlying22 in_55 Y bT_zero (bT_i (Int.le_trans (show 0 ≤ (0 : Int) ∧ (0 : Int) ≤ t10_0 ∧ t10_0 ≤ (cols0.length : Int) from ⟨Int.le_refl _, h11.1, h11.2⟩).1 (show 0 ≤ (0 : Int) ∧ (0 : Int) ≤ t10_0 ∧ t10_0 ≤ (cols0.length : Int) from ⟨Int.le_refl _, h11.1, h11.2⟩).2.1) Y) (.inl Y) (show 0 ≤ (0 : Int) ∧ (0 : Int) ≤ t10_0 ∧ t10_0 ≤ (cols0.length : Int) from ⟨Int.le_refl _, h11.1, h11.2⟩) (g_fm (fun x => (GColumn.len x)))) Y)) (a_op (g_x Y (x_p Y (u_fa Y Y Tryd.underlying55 Y in_9 nz Y Y (nl (GColumn.len (lrd cols0 t10_0.toNat)))) Y)) (a_op (g_x Y (x_p Y (u_ld Y Y Tryd.underlying9 Y Y ((Sub.refl _).trans (GColumn.sub0 (lrd cols0 t10_0.toNat)))) Y)) (a_nil)))))) ?_
        refine t_op Y Y (PureD.opD (p_callp Y Y Y Tryd.func47 Y Y (g_ref_columnAt_ac h12) ⟨Y, Y, trivial⟩)) ?_
        refine t_op Y Y (PureD.opD (p_bin Y Y Y Y)) ?_
        refine t_op Y Y (PureD.opD (p_asg Y Y)) ?_
        refine t_gho (Gho_st (L := [(0, .p ((fun q : List GColumn => AV.lst (q.flatMap GColumn.cs) q.length) cols0)), (8, .p ((fun q : List GColumn => AV.lst (q.flatMap GColumn.cs) q.length) cols0)), (9, .i (cols0.length : Int)), (10, .i t10_0), (45, .b (decide (r'3 ≥ (0 : Int))))]) (H := []) (N := 54) Y ⟨TLes.same _, TLes.same _, TLes.same _, TLes.same _, TLes.same _, trivial⟩ trivial) ?_
        refine AW2_if (p := r'3 ≥ (0 : Int)) Y (fun h13 => ?_) (fun h13 => ?_)
        ·replace H := ite_then h13 H
         refine sg [0] Y ?_
         refine rp Y Y (p_asg Y Y) ?_
         refine rz [(2, .i (8 : Int))] [] Y Y Y ?_
         refine AW2_ret ?_
         have hz := some_elim H
         subst hz
         exact ⟨Y, ⟨res_tmp (.same _), trivial⟩, trivial⟩
        ·replace H := ite_else h13 H
         refine as2 [(0, .p ((fun q : List GColumn => AV.lst (q.flatMap GColumn.cs) q.length) cols0)), (8, .p ((fun q : List GColumn => AV.lst (q.flatMap GColumn.cs) q.length) cols0)), (9, .i (cols0.length : Int)), (10, .i t10_0)] [] Y Y Y ?_
         refine AW2_skip ?_
         refine AW2_reg [0, 1] Y ?_
         refine rp Y Y (p_bin Y Y Y Y) ?_
         refine rp Y Y (p_move Y Y) ?_
         refine rz [(0, .p ((fun q : List GColumn => AV.lst (q.flatMap GColumn.cs) q.length) cols0)), (8, .p ((fun q : List GColumn => AV.lst (q.flatMap GColumn.cs) q.length) cols0)), (9, .i (cols0.length : Int)), (10, .i (w64 (t10_0 + (1 : Int))))] [] Y Y Y ?_
         have hz := some_elim H
         subst hz
         exact ⟨Y, Y⟩
   ·replace H := ite_else h2 H
    refine as2 [] [] Y Y Y ?_
    refine AW2_exit ?_
    refine thenQ2_exit ?_
    have hz := some_elim H
    subst hz
    exact ⟨Y, Y⟩
  ·rcases o'7 with y'8 | y'9
   ·obtain ⟨rfl, hs⟩ := hs
    refine ⟨by simp, ?_⟩
    have hz := some_elim H
    subst hz
    exact ⟨hs.1, hs.2⟩
   ·obtain ⟨rfl, rfl⟩ := hs
    refine ⟨by simp, ?_⟩
    refine blockQ2_exit ?_
    refine sg [0] Y ?_
    refine rp Y Y (p_asg Y Y) ?_
    refine rz [(2, .i (0 : Int))] [] Y Y Y ?_
    refine AW2_ret ?_
    have hz := some_elim H
    subst hz
    exact ⟨⟨res_tmp (.same _), trivial⟩, trivial⟩

/-! chirographref.badReal -/
noncomputable def g_ref_badReal (b0 : UInt64) : Option (Bool) :=
  some (decide ((b0 = (9223372036854775808 : UInt64)) ∨ ((18437736874454810624 : UInt64) < shl_u64 b0 1)))
set_option maxHeartbeats 4000000 in
set_option maxRecDepth 100000 in
theorem g_ref_badReal_ac {b0 : UInt64} {r : Bool} (H : g_ref_badReal b0 = some r) : ACp Tryd.prog 55 [(AV.u64 b0)] (AV.bool r) := by
 refine ACp_of (AC2_of_body (vs := [.b r]) Tryd.func55 Y Y (Nat.le_of_ble_eq_true Y) Y ?_) (fun _ => .same _)
 unfold g_ref_badReal at H
 refine as2 [(0, .p (AV.u64 b0))] [] Y Y Y ?_
 refine sg [0] Y ?_
 refine rp Y Y (p_asg Y Y) ?_
 refine rz [(0, .p (AV.u64 b0))] [] Y Y Y ?_
 refine AW2_seq ?_
 refine AW2_mid (⟨[(2, .b (decide ((b0 = (9223372036854775808 : UInt64)) ∨ ((18437736874454810624 : UInt64) < shl_u64 b0 1))))], [], 10⟩ : TS) ?_ ?_
 ·refine AW2_reg [0, 1, 2, 3, 4, 5, 6, 7] Y ?_
  refine rp Y Y (p_move Y Y) ?_
  refine rp Y Y (p_u64eq (a := b0) (b := (9223372036854775808 : UInt64)) Y Y Y) ?_
  refine rp Y Y (p_move Y Y) ?_
  refine (Classical.em (b0 = (9223372036854775808 : UInt64))).elim (fun h1 => ?_) (fun h1 => ?_)
  ·refine r_off Y Y Y Y (dT h1) Y Y ?_
   refine r_off Y Y Y Y (dT h1) Y Y ?_
   refine r_off Y Y Y Y (dT h1) Y Y ?_
   refine rp Y Y (p_pkt Y Y (dT h1) (tb (dT (p := (b0 = (9223372036854775808 : UInt64)) ∨ ((18437736874454810624 : UInt64) < shl_u64 b0 1)) (Or.inl h1)).symm)) ?_
   refine rp Y Y (p_asg Y Y) ?_
   refine rs [(2, .b (decide ((b0 = (9223372036854775808 : UInt64)) ∨ ((18437736874454810624 : UInt64) < shl_u64 b0 1))))] [] Y Y Y ?_
   exact RunW_nil rfl
  ·refine r_on Y Y Y Y (dF h1) Y (PureD.opD (p_move Y Y)) ?_
   refine r_on Y Y Y Y (dF h1) Y (PureD.opD (p_u64shl (n := 1) Y Y Y Y)) ?_
   refine r_on Y Y Y Y (dF h1) Y (PureD.opD (p_u64gt (a := shl_u64 b0 1) (b := (18437736874454810624 : UInt64)) Y Y Y)) ?_
   refine rp Y Y (p_pkf Y Y (dF h1) (tb ((or_l (p := b0 = (9223372036854775808 : UInt64)) (q := (18437736874454810624 : UInt64) < shl_u64 b0 1) h1)))) ?_
   refine rp Y Y (p_asg Y Y) ?_
   refine rs [(2, .b (decide ((b0 = (9223372036854775808 : UInt64)) ∨ ((18437736874454810624 : UInt64) < shl_u64 b0 1))))] [] Y Y Y ?_
   exact RunW_nil rfl
 ·refine AW2_ret ?_
  have hz := some_elim H
  subst hz
  exact ⟨⟨res_tmp (.same _), trivial⟩, trivial⟩

/-! chirographref.ValueFault -/
noncomputable def g_ref_ValueFault (v0 : GValue) : Option (Int) :=
  (show Option (Int ⊕ GValue) from (if v0.Kind = (0 : Int) then some (.inr ({ GValue.zero with Kind := v0.Kind })) else ((if v0.Kind = (1 : Int) then some (decide (v0.Kind = (1 : Int))) else some (decide (v0.Kind = (2 : Int))))).bind fun j'2 => (if j'2 = true then some (.inr ({ { GValue.zero with Kind := v0.Kind } with Int_ := v0.Int_ })) else (if v0.Kind = (3 : Int) then some (.inr ({ { GValue.zero with Kind := v0.Kind } with Bits := v0.Bits })) else (if v0.Kind = (4 : Int) then some (.inr ({ { GValue.zero with Kind := v0.Kind } with Text := v0.Text })) else some (.inl (2 : Int))))))).bind fun o'12 => match o'12 with | .inl y'3 => some y'3 | .inr j'1 => (if (v0.Text.length : Int) > (40 : Int) then some (1 : Int) else ((if v0 ≠ j'1 then some true else (if v0.Kind = (1 : Int) then (if (1 : UInt64) < UInt64.ofInt v0.Int_ then some true else (if v0.Kind = (3 : Int) then (g_ref_badReal v0.Bits).bind fun r'5 => (if r'5 = true then some true else (g_utf8_ValidString v0.Text).bind fun r'6 => some (!r'6)) else (g_utf8_ValidString v0.Text).bind fun r'7 => some (!r'7))) else (if v0.Kind = (3 : Int) then (g_ref_badReal v0.Bits).bind fun r'8 => (if r'8 = true then some true else (g_utf8_ValidString v0.Text).bind fun r'9 => some (!r'9)) else (g_utf8_ValidString v0.Text).bind fun r'10 => some (!r'10))))).bind fun g'11 => (if g'11 = true then some (3 : Int) else some (0 : Int)))
set_option maxHeartbeats 4000000 in
set_option maxRecDepth 100000 in
theorem g_ref_ValueFault_ac {v0 : GValue} {r : Int} (H : g_ref_ValueFault v0 = some r) : ACp Tryd.prog 48 [(.agg (GValue.cs v0))] (AV.int r) := by
 refine ACp_of (AC2_of_body (vs := [.i r]) Tryd.func48 Y Y (Nat.le_of_ble_eq_true Y) Y ?_) (fun _ => .same _)
 unfold g_ref_ValueFault at H
 refine as2 [(0, .g (GValue.cs v0))] [] Y Y Y ?_
 refine sg [0, 1] Y ?_
 refine r_op Y Y (MakeD.opD (n_box 1 Y Y) Y Y Y Y) ?_
 refine rp Y Y (p_asg Y Y) ?_
 refine rz [(1, .q 1 (0))] [(1, .pure (GValue.cs v0))] Y Y Y ?_
 refine sg [0, 1, 2, 3, 4] Y ?_
 refine rp Y Y (u_fa Y Y Tryd.underlying71 Y in_3 nz Y Y (nl (GValue.len v0))) ?_
 refine rp Y Y (u_ld Y Y Tryd.underlying3 Y Y ((Sub.refl _).trans (GValue.sub0 v0))) ?_
 refine rp Y Y (u_bld Y in_71 one_71 zc_71 pl_71 Y (af_cons Y Y (GValue.upd0 GValue.zero v0.Kind) Y)) ?_
 refine r_op Y Y (MakeD.opD (u_alloc 3 Y in_71 one_71 zc_71) Y Y Y Y) ?_
 refine r_op Y Y (u_st Y Y Y Y Y in_71 (GValue.len ((GValue.w0 GValue.zero v0.Kind))) (nl (GValue.len GValue.zero)) (Upd.refl ((GValue.len ((GValue.w0 GValue.zero v0.Kind))).trans (GValue.len GValue.zero).symm))) ?_
 refine rz [(1, .q 1 (0)), (3, .q 3 (0))] [(1, .pure (GValue.cs v0)), (3, .pure (GValue.cs ((GValue.w0 GValue.zero v0.Kind))))] Y Y Y ?_
 refine AW2_seq ?_
 refine bindK H fun o'12 h1 H => ?_
 refine AW2_join (fun j'1 : GValue => (⟨[(1, .q 1 (0)), (3, .q 3 (0))], [(1, .pure (GValue.cs v0)), (3, .pure (GValue.cs j'1))], 61⟩ : TS)) (fun r e s' => e = Go.Exit.ret ∧ ResAll Tryd.prog s' [ResultVar.tmp 2] [.i r] ∧ HFits s' []) (x := o'12) ?_ (fun j'1 hy => ?_) (fun y'3 e s' hy hs => ?_)
 ·clear H
  have H := h1
  clear h1
  refine sg [0, 1] Y ?_
  refine rp Y Y (u_fa Y Y Tryd.underlying71 Y in_3 nz Y Y (nl (GValue.len v0))) ?_
  refine rp Y Y (u_ld Y Y Tryd.underlying3 Y Y ((Sub.refl _).trans (GValue.sub0 v0))) ?_
  refine rz [(1, .q 1 (0)), (3, .q 3 (0)), (8, .i v0.Kind)] [(1, .pure (GValue.cs v0)), (3, .pure (GValue.cs ((GValue.w0 GValue.zero v0.Kind))))] Y Y Y ?_
  refine AW2_block ?_
  refine sg [0, 1] Y ?_
  refine rp Y Y (p_ieq Y Y Y) ?_
  refine rp Y Y (p_asg Y Y) ?_
  refine rz [(1, .q 1 (0)), (3, .q 3 (0)), (8, .i v0.Kind), (9, .b (decide (v0.Kind = (0 : Int))))] [(1, .pure (GValue.cs v0)), (3, .pure (GValue.cs ((GValue.w0 GValue.zero v0.Kind))))] Y Y Y ?_
  refine AW2_if (p := v0.Kind = (0 : Int)) Y (fun h2 => ?_) (fun h2 => ?_)
  ·replace H := ite_then h2 H
   refine as2 [(1, .q 1 (0)), (3, .q 3 (0))] [(1, .pure (GValue.cs v0)), (3, .pure (GValue.cs ((GValue.w0 GValue.zero v0.Kind))))] Y Y Y ?_
   refine AW2_skip ?_
   have hz := some_elim H
   subst hz
   exact ⟨Y, Y⟩
  ·replace H := ite_else h2 H
   refine AW2_seq ?_
   refine bindK H fun j'2 h3 H => ?_
   refine AW2_mid (⟨[(1, .q 1 (0)), (3, .q 3 (0)), (8, .i v0.Kind), (11, .b j'2)], [(1, .pure (GValue.cs v0)), (3, .pure (GValue.cs ((GValue.w0 GValue.zero v0.Kind))))], 61⟩ : TS) ?_ ?_
   ·clear H
    have H := h3
    clear h3
    refine sg [0, 1] Y ?_
    refine rp Y Y (p_ieq Y Y Y) ?_
    refine rp Y Y (p_asg Y Y) ?_
    refine rz [(1, .q 1 (0)), (3, .q 3 (0)), (8, .i v0.Kind), (11, .b (decide (v0.Kind = (1 : Int))))] [(1, .pure (GValue.cs v0)), (3, .pure (GValue.cs ((GValue.w0 GValue.zero v0.Kind))))] Y Y Y ?_
    refine AW2_if (p := v0.Kind = (1 : Int)) Y (fun h4 => ?_) (fun h4 => ?_)
    ·replace H := ite_then h4 H
     refine AW2_skip ?_
     have hz := some_elim H
     subst hz
     exact rfl
    ·replace H := ite_else h4 H
     refine AW2_reg [0, 1] Y ?_
     refine rp Y Y (p_ieq Y Y Y) ?_
     refine rp Y Y (p_asg Y Y) ?_
     refine rz [(1, .q 1 (0)), (3, .q 3 (0)), (8, .i v0.Kind), (11, .b (decide (v0.Kind = (2 : Int))))] [(1, .pure (GValue.cs v0)), (3, .pure (GValue.cs ((GValue.w0 GValue.zero v0.Kind))))] Y Y Y ?_
     have hz := some_elim H
     subst hz
     exact rfl
   ·refine AW2_cond Y (fun h5 => ?_) (fun h5 => ?_)
    ·replace H := ite_then h5 H
     refine AW2_reg [0, 1, 2, 3] Y ?_
     refine rp Y Y (u_fa Y Y Tryd.underlying71 Y in_3 nz Y Y (nl (GValue.len v0))) ?_
     refine rp Y Y (u_ld Y Y Tryd.underlying3 Y Y ((Sub.refl _).trans (GValue.sub1 v0))) ?_
     refine rp Y Y (u_fa Y Y Tryd.underlying71 Y in_3 nz Y Y (nl (GValue.len ((GValue.w0 GValue.zero v0.Kind))))) ?_
     refine r_op Y Y (u_st Y Y Y Y Y in_3 Y (nl (GValue.len ((GValue.w0 GValue.zero v0.Kind)))) (Upd.trans (Sub.refl _) (GValue.upd1 ((GValue.w0 GValue.zero v0.Kind)) v0.Int_) (Upd.refl ((GValue.len ((GValue.w1 (GValue.w0 GValue.zero v0.Kind) v0.Int_))).trans (GValue.len ((GValue.w0 GValue.zero v0.Kind))).symm)))) ?_
     refine rz [(1, .q 1 (0)), (3, .q 3 (0))] [(1, .pure (GValue.cs v0)), (3, .pure (GValue.cs ((GValue.w1 (GValue.w0 GValue.zero v0.Kind) v0.Int_))))] Y Y Y ?_
     have hz := some_elim H
     subst hz
     exact ⟨Y, Y⟩
    ·replace H := ite_else (ne_true h5) H
     refine sg [0, 1] Y ?_
     refine rp Y Y (p_ieq Y Y Y) ?_
     refine rp Y Y (p_asg Y Y) ?_
     refine rz [(1, .q 1 (0)), (3, .q 3 (0)), (8, .i v0.Kind), (17, .b (decide (v0.Kind = (3 : Int))))] [(1, .pure (GValue.cs v0)), (3, .pure (GValue.cs ((GValue.w0 GValue.zero v0.Kind))))] Y Y Y ?_
     refine AW2_if (p := v0.Kind = (3 : Int)) Y (fun h6 => ?_) (fun h6 => ?_)
     ·replace H := ite_then h6 H
      refine AW2_reg [0, 1, 2, 3] Y ?_
      refine rp Y Y (u_fa Y Y Tryd.underlying71 Y in_50 nz Y Y (nl (GValue.len v0))) ?_
      refine rp Y Y (u_ld Y Y Tryd.underlying50 Y Y ((Sub.refl _).trans (GValue.sub2 v0))) ?_
      refine rp Y Y (u_fa Y Y Tryd.underlying71 Y in_50 nz Y Y (nl (GValue.len ((GValue.w0 GValue.zero v0.Kind))))) ?_
      refine r_op Y Y (u_st Y Y Y Y Y in_50 Y (nl (GValue.len ((GValue.w0 GValue.zero v0.Kind)))) (Upd.trans (Sub.refl _) (GValue.upd2 ((GValue.w0 GValue.zero v0.Kind)) v0.Bits) (Upd.refl ((GValue.len ((GValue.w2 (GValue.w0 GValue.zero v0.Kind) v0.Bits))).trans (GValue.len ((GValue.w0 GValue.zero v0.Kind))).symm)))) ?_
      refine rz [(1, .q 1 (0)), (3, .q 3 (0))] [(1, .pure (GValue.cs v0)), (3, .pure (GValue.cs ((GValue.w2 (GValue.w0 GValue.zero v0.Kind) v0.Bits))))] Y Y Y ?_
      have hz := some_elim H
      subst hz
      exact ⟨Y, Y⟩
     ·replace H := ite_else h6 H
      refine sg [0, 1] Y ?_
      refine rp Y Y (p_ieq Y Y Y) ?_
      refine rp Y Y (p_asg Y Y) ?_
      refine rz [(1, .q 1 (0)), (3, .q 3 (0)), (22, .b (decide (v0.Kind = (4 : Int))))] [(1, .pure (GValue.cs v0)), (3, .pure (GValue.cs ((GValue.w0 GValue.zero v0.Kind))))] Y Y Y ?_
      refine AW2_if (p := v0.Kind = (4 : Int)) Y (fun h7 => ?_) (fun h7 => ?_)
      ·replace H := ite_then h7 H
       refine AW2_reg [0, 1, 2, 3] Y ?_
       refine rp Y Y (u_fa Y Y Tryd.underlying71 Y in_9 nz Y Y (nl (GValue.len v0))) ?_
       refine rp Y Y (u_ld Y Y Tryd.underlying9 Y Y ((Sub.refl _).trans (GValue.sub3 v0))) ?_
       refine rp Y Y (u_fa Y Y Tryd.underlying71 Y in_9 nz Y Y (nl (GValue.len ((GValue.w0 GValue.zero v0.Kind))))) ?_
       refine r_op Y Y (u_st Y Y Y Y Y in_9 Y (nl (GValue.len ((GValue.w0 GValue.zero v0.Kind)))) (Upd.trans (Sub.refl _) (GValue.upd3 ((GValue.w0 GValue.zero v0.Kind)) v0.Text) (Upd.refl ((GValue.len ((GValue.w3 (GValue.w0 GValue.zero v0.Kind) v0.Text))).trans (GValue.len ((GValue.w0 GValue.zero v0.Kind))).symm)))) ?_
       refine rz [(1, .q 1 (0)), (3, .q 3 (0))] [(1, .pure (GValue.cs v0)), (3, .pure (GValue.cs ((GValue.w3 (GValue.w0 GValue.zero v0.Kind) v0.Text))))] Y Y Y ?_
       have hz := some_elim H
       subst hz
       exact ⟨Y, Y⟩
      ·replace H := ite_else h7 H
       refine sg [0] Y ?_
       refine rp Y Y (p_asg Y Y) ?_
       refine rz [(2, .i (2 : Int))] [] Y Y Y ?_
       refine AW2_ret ?_
       have hz := some_elim H
       subst hz
       exact ⟨Y, ⟨res_tmp (.same _), trivial⟩, trivial⟩
 ·subst hy
  refine AW2_seq ?_
  refine sg [0, 1, 2, 3] Y ?_
  refine rp Y Y (u_fa Y Y Tryd.underlying71 Y in_9 nz Y Y (nl (GValue.len v0))) ?_
  refine rp Y Y (u_ld Y Y Tryd.underlying9 Y Y ((Sub.refl _).trans (GValue.sub3 v0))) ?_
  refine rp Y Y (p_lent Y Tryd.underlying9 Y) ?_
  refine rp Y Y (p_bin Y Y Y Y) ?_
  refine rz [(1, .q 1 (0)), (3, .q 3 (0)), (30, .b (decide ((v0.Text.length : Int) > (40 : Int))))] [(1, .pure (GValue.cs v0)), (3, .pure (GValue.cs j'1))] Y Y Y ?_
  refine AW2_if (p := (v0.Text.length : Int) > (40 : Int)) Y (fun h8 => ?_) (fun h8 => ?_)
  ·replace H := ite_then h8 H
   refine sg [0] Y ?_
   refine rp Y Y (p_asg Y Y) ?_
   refine rz [(2, .i (1 : Int))] [] Y Y Y ?_
   refine AW2_ret ?_
   have hz := some_elim H
   subst hz
   exact ⟨⟨res_tmp (.same _), trivial⟩, trivial⟩
  ·replace H := ite_else h8 H
   refine as2 [(1, .q 1 (0)), (3, .q 3 (0))] [(1, .pure (GValue.cs v0)), (3, .pure (GValue.cs j'1))] Y Y Y ?_
   refine AW2_skip ?_
   refine AW2_seq ?_
   refine AW2_seq ?_
   refine bindK H fun g'11 h23 H => ?_
   refine AW2_mid (⟨[(60, .b g'11)], [], 61⟩ : TS) ?_ ?_
   ·clear H
    have H := h23
    clear h23
    refine AW2_reg [0, 1, 2, 3, 4, 5, 6, 7, 8, 9, 10, 11, 12, 13, 14, 15, 16, 17, 18, 19, 20, 21, 22, 23, 24, 25, 26, 27, 28, 29] Y ?_
    refine rp Y Y (u_lda Y Y Tryd.underlying71 Y in_71 Y (Nat.succ_pos _) (Sub.refl _) (GValue.len v0)) ?_
    refine rp Y Y (u_lda Y Y Tryd.underlying71 Y in_71 Y (Nat.succ_pos _) (Sub.refl _) (GValue.len j'1)) ?_
    refine rp Y Y (p_nea (a := v0) (b := j'1) Y eq_71 Y (by kernel_rfl) Y Y) ?_
    refine rp Y Y (p_move Y Y) ?_
    refine (Classical.em (v0 ≠ j'1)).elim (fun h10 => ?_) (fun h10 => ?_)
    ·replace H := ite_then h10 H
     refine r_off Y Y Y Y (dT h10) Y Y ?_
     refine r_off Y Y Y Y (dT h10) Y Y ?_
     refine r_off Y Y Y Y (dT h10) Y Y ?_
     refine r_off Y Y Y Y (dT h10) Y Y ?_
     refine r_off2 Y Y Y Y Y Y ?_
     refine r_off2 Y Y Y Y Y Y ?_
     refine r_off2 Y Y Y Y Y Y ?_
     refine r_off2 Y Y Y Y Y Y ?_
     refine r_off Y Y Y Y (dT h10) Y Y ?_
     refine rp Y Y (p_pkt Y Y (dT h10) (.same _)) ?_
     refine rp Y Y (p_move Y Y) ?_
     refine r_off Y Y Y Y Y Y Y ?_
     refine r_off Y Y Y Y Y Y Y ?_
     refine r_off Y Y Y Y Y Y Y ?_
     refine r_off Y Y Y Y Y Y Y ?_
     refine r_off2 Y Y Y Y Y Y ?_
     refine r_off2 Y Y Y Y Y Y ?_
     refine r_off2 Y Y Y Y Y Y ?_
     refine r_off Y Y Y Y Y Y Y ?_
     refine rp Y Y (p_pkt Y Y Y (.same _)) ?_
     refine rp Y Y (p_move Y Y) ?_
     refine r_off Y Y Y Y Y Y Y ?_
     refine r_off Y Y Y Y Y Y Y ?_
     refine r_off Y Y Y Y Y Y Y ?_
     refine r_off Y Y Y Y Y Y Y ?_
     refine rp Y Y (p_pkt Y Y Y (.same _)) ?_
     refine rs [(60, .b true)] [] Y Y Y ?_
     have hz := some_elim H
     subst hz
     exact RunW_nil rfl
    ·replace H := ite_else h10 H
     refine r_on Y Y Y Y (dF h10) Y (PureD.opD (u_fa Y Y Tryd.underlying71 Y in_3 nz Y Y (nl (GValue.len v0)))) ?_
     refine r_on Y Y Y Y (dF h10) Y (PureD.opD (u_ld Y Y Tryd.underlying3 Y Y ((Sub.refl _).trans (GValue.sub0 v0)))) ?_
     refine r_on Y Y Y Y (dF h10) Y (PureD.opD (p_ieq Y Y Y)) ?_
     refine r_on Y Y Y Y (dF h10) Y (PureD.opD (p_move Y Y)) ?_
     refine (Classical.em (v0.Kind = (1 : Int))).elim (fun h11 => ?_) (fun h11 => ?_)
     ·replace H := ite_then h11 H
      refine r_on Y Y Y Y (dT h11) Y (PureD.opD (u_fa Y Y Tryd.underlying71 Y in_3 nz Y Y (nl (GValue.len v0)))) ?_
      refine r_on Y Y Y Y (dT h11) Y (PureD.opD (u_ld Y Y Tryd.underlying3 Y Y ((Sub.refl _).trans (GValue.sub1 v0)))) ?_
      refine r_on Y Y Y Y (dT h11) Y (PureD.opD (p_i_u64 Y Tryd.underlying3 Tryd.underlying86 Y)) ?_
      refine r_on Y Y Y Y (dT h11) Y (PureD.opD (p_u64gt (a := UInt64.ofInt v0.Int_) (b := (1 : UInt64)) Y Y Y)) ?_
      refine r_on Y Y Y Y (dF h10) Y (PureD.opD (p_pkt Y Y (dT h11) (.same _))) ?_
      refine rp Y Y (p_pkf Y Y (dF h10) (.same _)) ?_
      refine rp Y Y (p_move Y Y) ?_
      refine (Classical.em ((1 : UInt64) < UInt64.ofInt v0.Int_)).elim (fun h12 => ?_) (fun h12 => ?_)
      ·replace H := ite_then h12 H
       refine r_off Y Y Y Y (dT h12) Y Y ?_
       refine r_off Y Y Y Y (dT h12) Y Y ?_
       refine r_off Y Y Y Y (dT h12) Y Y ?_
       refine r_off Y Y Y Y (dT h12) Y Y ?_
       refine r_off2 Y Y Y Y Y Y ?_
       refine r_off2 Y Y Y Y Y Y ?_
       refine r_off2 Y Y Y Y Y Y ?_
       refine r_off Y Y Y Y (dT h12) Y Y ?_
       refine rp Y Y (p_pkt Y Y (dT h12) (.same _)) ?_
       refine rp Y Y (p_move Y Y) ?_
       refine r_off Y Y Y Y Y Y Y ?_
       refine r_off Y Y Y Y Y Y Y ?_
       refine r_off Y Y Y Y Y Y Y ?_
       refine r_off Y Y Y Y Y Y Y ?_
       refine rp Y Y (p_pkt Y Y Y (.same _)) ?_
       refine rs [(60, .b true)] [] Y Y Y ?_
       have hz := some_elim H
       subst hz
       exact RunW_nil rfl
      ·replace H := ite_else h12 H
       refine r_on Y Y Y Y (dF h12) Y (PureD.opD (u_fa Y Y Tryd.underlying71 Y in_3 nz Y Y (nl (GValue.len v0)))) ?_
       refine r_on Y Y Y Y (dF h12) Y (PureD.opD (u_ld Y Y Tryd.underlying3 Y Y ((Sub.refl _).trans (GValue.sub0 v0)))) ?_
       refine r_on Y Y Y Y (dF h12) Y (PureD.opD (p_ieq Y Y Y)) ?_
       refine r_on Y Y Y Y (dF h12) Y (PureD.opD (p_move Y Y)) ?_
       refine (Classical.em (v0.Kind = (3 : Int))).elim (fun h13 => ?_) (fun h13 => ?_)
       ·replace H := ite_then h13 H
        refine r_on Y Y Y Y (dT h13) Y (PureD.opD (u_fa Y Y Tryd.underlying71 Y in_50 nz Y Y (nl (GValue.len v0)))) ?_
        refine r_on Y Y Y Y (dT h13) Y (PureD.opD (u_ld Y Y Tryd.underlying50 Y Y ((Sub.refl _).trans (GValue.sub2 v0)))) ?_
        refine bindK H fun r'5 h14 H => ?_
        refine r_on Y Y Y Y (dT h13) Y (PureD.opD (p_callp Y Y Y Tryd.func55 Y Y (g_ref_badReal_ac h14) ⟨Y, trivial⟩)) ?_
        refine r_on Y Y Y Y (dF h12) Y (PureD.opD (p_pkt Y Y (dT h13) (.same _))) ?_
        refine rp Y Y (p_pkf Y Y (dF h12) (.same _)) ?_
        refine rp Y Y (p_move Y Y) ?_
        refine (Classical.em (r'5 = true)).elim (fun h15 => ?_) (fun h15 => ?_)
        ·replace H := ite_then h15 H
         refine r_off Y Y Y Y h15 Y Y ?_
         refine r_off Y Y Y Y h15 Y Y ?_
         refine r_off Y Y Y Y h15 Y Y ?_
         refine r_off Y Y Y Y h15 Y Y ?_
         refine rp Y Y (p_pkt Y Y h15 (.same _)) ?_
         refine rs [(60, .b true)] [] Y Y Y ?_
         have hz := some_elim H
         subst hz
         exact RunW_nil rfl
        ·replace H := ite_else h15 H
         refine r_on Y Y Y Y (bfalse h15) Y (PureD.opD (u_fa Y Y Tryd.underlying71 Y in_9 nz Y Y (nl (GValue.len v0)))) ?_
         refine r_on Y Y Y Y (bfalse h15) Y (PureD.opD (u_ld Y Y Tryd.underlying9 Y Y ((Sub.refl _).trans (GValue.sub3 v0)))) ?_
         refine bindK H fun r'6 h16 H => ?_
         refine r_on Y Y Y Y (bfalse h15) Y (PureD.opD (p_callp Y Y Y Tryd.func37 Y Y (g_utf8_ValidString_ac h16) ⟨Y, trivial⟩)) ?_
         refine r_on Y Y Y Y (bfalse h15) Y (PureD.opD (p_not Y Y)) ?_
         refine rp Y Y (p_pkf Y Y (bfalse h15) (.same _)) ?_
         refine rs [(60, .b (!r'6))] [] Y Y Y ?_
         have hz := some_elim H
         subst hz
         exact RunW_nil rfl
       ·replace H := ite_else h13 H
        refine r_off Y Y Y Y (dF h13) Y Y ?_
        refine r_off Y Y Y Y (dF h13) Y Y ?_
        refine r_off Y Y Y Y (dF h13) Y Y ?_
        refine r_on Y Y Y Y (dF h12) Y (PureD.opD (p_pkf Y Y (dF h13) (.same _))) ?_
        refine rp Y Y (p_pkf Y Y (dF h12) (.same _)) ?_
        refine rp Y Y (p_move Y Y) ?_
        refine r_on Y Y Y Y (bfalse (by decide)) Y (PureD.opD (u_fa Y Y Tryd.underlying71 Y in_9 nz Y Y (nl (GValue.len v0)))) ?_
        refine r_on Y Y Y Y (bfalse (by decide)) Y (PureD.opD (u_ld Y Y Tryd.underlying9 Y Y ((Sub.refl _).trans (GValue.sub3 v0)))) ?_
        refine bindK H fun r'7 h17 H => ?_
        refine r_on Y Y Y Y (bfalse (by decide)) Y (PureD.opD (p_callp Y Y Y Tryd.func37 Y Y (g_utf8_ValidString_ac h17) ⟨Y, trivial⟩)) ?_
        refine r_on Y Y Y Y (bfalse (by decide)) Y (PureD.opD (p_not Y Y)) ?_
        refine rp Y Y (p_pkf Y Y (bfalse (by decide)) (.same _)) ?_
        refine rs [(60, .b (!r'7))] [] Y Y Y ?_
        have hz := some_elim H
        subst hz
        exact RunW_nil rfl
     ·replace H := ite_else h11 H
      refine r_off Y Y Y Y (dF h11) Y Y ?_
      refine r_off Y Y Y Y (dF h11) Y Y ?_
      refine r_off Y Y Y Y (dF h11) Y Y ?_
      refine r_off Y Y Y Y (dF h11) Y Y ?_
      refine r_on Y Y Y Y (dF h10) Y (PureD.opD (p_pkf Y Y (dF h11) (.same _))) ?_
      refine rp Y Y (p_pkf Y Y (dF h10) (.same _)) ?_
      refine rp Y Y (p_move Y Y) ?_
      refine r_on Y Y Y Y (bfalse (by decide)) Y (PureD.opD (u_fa Y Y Tryd.underlying71 Y in_3 nz Y Y (nl (GValue.len v0)))) ?_
      refine r_on Y Y Y Y (bfalse (by decide)) Y (PureD.opD (u_ld Y Y Tryd.underlying3 Y Y ((Sub.refl _).trans (GValue.sub0 v0)))) ?_
      refine r_on Y Y Y Y (bfalse (by decide)) Y (PureD.opD (p_ieq Y Y Y)) ?_
      refine r_on Y Y Y Y (bfalse (by decide)) Y (PureD.opD (p_move Y Y)) ?_
      refine (Classical.em (v0.Kind = (3 : Int))).elim (fun h18 => ?_) (fun h18 => ?_)
      ·replace H := ite_then h18 H
       refine r_on Y Y Y Y (dT h18) Y (PureD.opD (u_fa Y Y Tryd.underlying71 Y in_50 nz Y Y (nl (GValue.len v0)))) ?_
       refine r_on Y Y Y Y (dT h18) Y (PureD.opD (u_ld Y Y Tryd.underlying50 Y Y ((Sub.refl _).trans (GValue.sub2 v0)))) ?_
       refine bindK H fun r'8 h19 H => ?_
       refine r_on Y Y Y Y (dT h18) Y (PureD.opD (p_callp Y Y Y Tryd.func55 Y Y (g_ref_badReal_ac h19) ⟨Y, trivial⟩)) ?_
       refine r_on Y Y Y Y (bfalse (by decide)) Y (PureD.opD (p_pkt Y Y (dT h18) (.same _))) ?_
       refine rp Y Y (p_pkf Y Y (bfalse (by decide)) (.same _)) ?_
       refine rp Y Y (p_move Y Y) ?_
       refine (Classical.em (r'8 = true)).elim (fun h20 => ?_) (fun h20 => ?_)
       ·replace H := ite_then h20 H
        refine r_off Y Y Y Y h20 Y Y ?_
        refine r_off Y Y Y Y h20 Y Y ?_
        refine r_off Y Y Y Y h20 Y Y ?_
        refine r_off Y Y Y Y h20 Y Y ?_
        refine rp Y Y (p_pkt Y Y h20 (.same _)) ?_
        refine rs [(60, .b true)] [] Y Y Y ?_
        have hz := some_elim H
        subst hz
        exact RunW_nil rfl
       ·replace H := ite_else h20 H
        refine r_on Y Y Y Y (bfalse h20) Y (PureD.opD (u_fa Y Y Tryd.underlying71 Y in_9 nz Y Y (nl (GValue.len v0)))) ?_
        refine r_on Y Y Y Y (bfalse h20) Y (PureD.opD (u_ld Y Y Tryd.underlying9 Y Y ((Sub.refl _).trans (GValue.sub3 v0)))) ?_
        refine bindK H fun r'9 h21 H => ?_
        refine r_on Y Y Y Y (bfalse h20) Y (PureD.opD (p_callp Y Y Y Tryd.func37 Y Y (g_utf8_ValidString_ac h21) ⟨Y, trivial⟩)) ?_
        refine r_on Y Y Y Y (bfalse h20) Y (PureD.opD (p_not Y Y)) ?_
        refine rp Y Y (p_pkf Y Y (bfalse h20) (.same _)) ?_
        refine rs [(60, .b (!r'9))] [] Y Y Y ?_
        have hz := some_elim H
        subst hz
        exact RunW_nil rfl
      ·replace H := ite_else h18 H
       refine r_off Y Y Y Y (dF h18) Y Y ?_
       refine r_off Y Y Y Y (dF h18) Y Y ?_
       refine r_off Y Y Y Y (dF h18) Y Y ?_
       refine r_on Y Y Y Y (bfalse (by decide)) Y (PureD.opD (p_pkf Y Y (dF h18) (.same _))) ?_
       refine rp Y Y (p_pkf Y Y (bfalse (by decide)) (.same _)) ?_
       refine rp Y Y (p_move Y Y) ?_
       refine r_on Y Y Y Y (bfalse (by decide)) Y (PureD.opD (u_fa Y Y Tryd.underlying71 Y in_9 nz Y Y (nl (GValue.len v0)))) ?_
       refine r_on Y Y Y Y (bfalse (by decide)) Y (PureD.opD (u_ld Y Y Tryd.underlying9 Y Y ((Sub.refl _).trans (GValue.sub3 v0)))) ?_
       refine bindK H fun r'10 h22 H => ?_
       refine r_on Y Y Y Y (bfalse (by decide)) Y (PureD.opD (p_callp Y Y Y Tryd.func37 Y Y (g_utf8_ValidString_ac h22) ⟨Y, trivial⟩)) ?_
       refine r_on Y Y Y Y (bfalse (by decide)) Y (PureD.opD (p_not Y Y)) ?_
       refine rp Y Y (p_pkf Y Y (bfalse (by decide)) (.same _)) ?_
       refine rs [(60, .b (!r'10))] [] Y Y Y ?_
       have hz := some_elim H
       subst hz
       exact RunW_nil rfl
   ·refine AW2_cond Y (fun h24 => ?_) (fun h24 => ?_)
    ·replace H := ite_then h24 H
     refine sg [0] Y ?_
     refine rp Y Y (p_asg Y Y) ?_
     refine rz [(2, .i (3 : Int))] [] Y Y Y ?_
     refine AW2_ret ?_
     have hz := some_elim H
     subst hz
     exact ⟨⟨res_tmp (.same _), trivial⟩, trivial⟩
    ·replace H := ite_else (ne_true h24) H
     refine as2 [] [] Y Y Y ?_
     refine AW2_skip ?_
     refine sg [0] Y ?_
     refine rp Y Y (p_asg Y Y) ?_
     refine rz [(2, .i (0 : Int))] [] Y Y Y ?_
     refine AW2_ret ?_
     have hz := some_elim H
     subst hz
     exact ⟨⟨res_tmp (.same _), trivial⟩, trivial⟩
 ·subst hy
  obtain ⟨rfl, hs⟩ := hs
  have hz := some_elim H
  subst hz
  exact ⟨hs.1, hs.2⟩
end Go.Proofs.YtpgimlllchibnaaDoor.VM
