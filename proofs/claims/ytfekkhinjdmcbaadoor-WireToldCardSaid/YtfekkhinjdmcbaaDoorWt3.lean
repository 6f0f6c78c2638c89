/- Functions of the program, as they answer, and that their code comes to these answers. -/
import Derived.Test.YtfekkhinjdmcbaaDoorWt2
namespace Go.Proofs.YtfekkhinjdmcbaaDoor.VM
open Go Go.RowKit

set_option maxRecDepth 100000 in
theorem ty_5 {d : Nat} {cs : List AV} (h : Typed Tryd.prog d 5 cs) : ∃ x : UInt8, cs = [(AV.b8 x)] ∧ okA x := match d, h with
  | 0, h => False.elim h
  | d + 1, h => ty_u8 Tryd.underlying5 h
set_option maxRecDepth 100000 in
theorem ty_33 {d : Nat} {cs : List AV} (h : Typed Tryd.prog d 33 cs) : ∃ x : List UInt8, cs = [(AV.bytes x)] ∧ (okL 1 okA) x := match d, h with
  | 0, h => False.elim h
  | d + 1, h => ty_slice (f := AV.b8) Tryd.underlying33 (bytes_of in_5) (fun _ hx => ty_5 hx) h

/-! chirographlaw.sameRows -/
def g_law_sameRows_r6 : List (List (Nat × Option Nat)) := [[(0, none)], [(5, none)], [(16, some 0), (17, some 1)], [(18, some 2)], [(1, none)], [(5, none)], [(20, some 4), (21, some 5)], [(22, some 6)]]
def g_law_sameRows_r6c : List (List Nat) := [[], [], [0, 1], [0, 1, 2], [], [], [4, 5], [4, 5, 6], [0, 1, 2, 3, 4, 5, 6, 7], [0, 1, 2, 3, 4, 5, 6, 7, 8]]
noncomputable def g_law_sameRows_l0 (a0 : List (List GValue)) (b1 : List (List GValue)) : Int → Option (Int ⊕ (Bool ⊕ Unit))
  | t13_0 => (if t13_0 < (a0.length : Int) then if 0 ≤ t13_0 ∧ t13_0 < (a0.length : Int) then if 0 ≤ t13_0 ∧ t13_0 < (b1.length : Int) then (g_law_sameRow (lrd a0 t13_0.toNat) (lrd b1 t13_0.toNat)).bind fun r'1 => (if (!r'1) = true then some (.inr (.inl false)) else some (.inl (w64 (t13_0 + (1 : Int))))) else none else none else some (.inr (.inr ())))
noncomputable def g_law_sameRows (a0 : List (List GValue)) (b1 : List (List GValue)) : Option (Bool) :=
  (if (a0.length : Int) ≠ (b1.length : Int) then some false else (loopO (g_law_sameRows_l0 a0 b1) (0 : Int)).bind fun o'5 => match o'5 with | .inl y'6 => some y'6 | .inr (y'7) => some true)
set_option maxHeartbeats 4000000 in
set_option maxRecDepth 100000 in
theorem g_law_sameRows_ac {a0 : List (List GValue)} {b1 : List (List GValue)} {r : Bool} (H : g_law_sameRows a0 b1 = some r) : ACp Tryd.prog 58 [((fun q : List (List GValue) => AV.lst (q.map (fun q : List GValue => AV.lst (q.flatMap GValue.cs) q.length)) q.length) a0), ((fun q : List (List GValue) => AV.lst (q.map (fun q : List GValue => AV.lst (q.flatMap GValue.cs) q.length)) q.length) b1)] (AV.bool r) := by
 refine ACp_of (AC2_of_body (vs := [.b r]) Tryd.func58 rfl rfl (Nat.le_of_ble_eq_true rfl) rfl ?_) (fun _ => .same _)
 unfold g_law_sameRows at H
 refine as2 [(0, .p ((fun q : List (List GValue) => AV.lst (q.map (fun q : List GValue => AV.lst (q.flatMap GValue.cs) q.length)) q.length) a0)), (1, .p ((fun q : List (List GValue) => AV.lst (q.map (fun q : List GValue => AV.lst (q.flatMap GValue.cs) q.length)) q.length) b1))] [] rfl rfl rfl ?_
 refine sg [0] rfl ?_
 refine rp rfl rfl (p_asg rfl rfl) ?_
 refine rz [(0, .p ((fun q : List (List GValue) => AV.lst (q.map (fun q : List GValue => AV.lst (q.flatMap GValue.cs) q.length)) q.length) a0)), (1, .p ((fun q : List (List GValue) => AV.lst (q.map (fun q : List GValue => AV.lst (q.flatMap GValue.cs) q.length)) q.length) b1))] [] rfl rfl rfl ?_
 refine AW2_seq ?_
 refine sg [0, 1, 2, 3, 4] rfl ?_
 refine rp rfl rfl (p_move rfl rfl) ?_
 refine rp rfl rfl (p_lenl rfl Tryd.underlying42 rfl rfl) ?_
 refine rp rfl rfl (p_move rfl rfl) ?_
 refine rp rfl rfl (p_lenl rfl Tryd.underlying42 rfl rfl) ?_
 refine rp rfl rfl (p_ine rfl rfl rfl) ?_
 refine rz [(0, .p ((fun q : List (List GValue) => AV.lst (q.map (fun q : List GValue => AV.lst (q.flatMap GValue.cs) q.length)) q.length) a0)), (1, .p ((fun q : List (List GValue) => AV.lst (q.map (fun q : List GValue => AV.lst (q.flatMap GValue.cs) q.length)) q.length) b1)), (10, .b (decide ((a0.length : Int) ≠ (b1.length : Int))))] [] rfl rfl rfl ?_
 refine AW2_if (p := (a0.length : Int) ≠ (b1.length : Int)) rfl (fun h1 => ?_) (fun h1 => ?_)
 ·replace H := ite_then h1 H
  refine sg [0] rfl ?_
  refine rp rfl rfl (p_asg rfl rfl) ?_
  refine rz [(4, .b false)] [] rfl rfl rfl ?_
  refine AW2_ret ?_
  have hz := some_elim H
  subst hz
  exact ⟨⟨res_tmp (.same _), trivial⟩, trivial⟩
 ·replace H := ite_else h1 H
  refine as2 [(0, .p ((fun q : List (List GValue) => AV.lst (q.map (fun q : List GValue => AV.lst (q.flatMap GValue.cs) q.length)) q.length) a0)), (1, .p ((fun q : List (List GValue) => AV.lst (q.map (fun q : List GValue => AV.lst (q.flatMap GValue.cs) q.length)) q.length) b1))] [] rfl rfl rfl ?_
  refine AW2_skip ?_
  refine AW2_seq ?_
  refine sg [0, 1, 2] rfl ?_
  refine rp rfl rfl (p_move rfl rfl) ?_
  refine rp rfl rfl (p_lenl rfl Tryd.underlying42 rfl rfl) ?_
  refine rp rfl rfl (p_move rfl rfl) ?_
  refine rz [(0, .p ((fun q : List (List GValue) => AV.lst (q.map (fun q : List GValue => AV.lst (q.flatMap GValue.cs) q.length)) q.length) a0)), (1, .p ((fun q : List (List GValue) => AV.lst (q.map (fun q : List GValue => AV.lst (q.flatMap GValue.cs) q.length)) q.length) b1)), (12, .i (a0.length : Int)), (13, .i (0 : Int))] [] rfl rfl rfl ?_
  refine AW2_block ?_
  refine as2 [(0, .p ((fun q : List (List GValue) => AV.lst (q.map (fun q : List GValue => AV.lst (q.flatMap GValue.cs) q.length)) q.length) a0)), (1, .p ((fun q : List (List GValue) => AV.lst (q.map (fun q : List GValue => AV.lst (q.flatMap GValue.cs) q.length)) q.length) b1)), (12, .i (a0.length : Int)), (13, .i (0 : Int))] [] rfl rfl rfl ?_
  refine bindK H fun o'5 h7 H => ?_
  refine AW2_loopO (fun a'2 : Int => (⟨[(0, .p ((fun q : List (List GValue) => AV.lst (q.map (fun q : List GValue => AV.lst (q.flatMap GValue.cs) q.length)) q.length) a0)), (1, .p ((fun q : List (List GValue) => AV.lst (q.map (fun q : List GValue => AV.lst (q.flatMap GValue.cs) q.length)) q.length) b1)), (12, .i (a0.length : Int)), (13, .i a'2)], [], 27⟩ : TS)) (fun (o : Bool ⊕ Unit) e s' => match o with | .inl y'3 => e = Go.Exit.ret ∧ ResAll Tryd.prog s' [ResultVar.tmp 4] [.b y'3] ∧ HFits s' [] | .inr (y'4) => e = Go.Exit.exit 0 ∧ s' = (⟨[], [], 27⟩ : TS)) h7 rfl (fun t13_0 x hx => ?_) (fun e s' hs => ?_)
  ·clear H
   have H := hx
   clear hx
   unfold g_law_sameRows_l0 at H
   refine sg [0] rfl ?_
   refine rp rfl rfl (p_bin rfl rfl rfl rfl) ?_
   refine rz [(0, .p ((fun q : List (List GValue) => AV.lst (q.map (fun q : List GValue => AV.lst (q.flatMap GValue.cs) q.length)) q.length) a0)), (1, .p ((fun q : List (List GValue) => AV.lst (q.map (fun q : List GValue => AV.lst (q.flatMap GValue.cs) q.length)) q.length) b1)), (12, .i (a0.length : Int)), (13, .i t13_0), (14, .b (decide (t13_0 < (a0.length : Int))))] [] rfl rfl rfl ?_
   refine AW2_seq ?_
   refine AW2_if (p := t13_0 < (a0.length : Int)) rfl (fun h2 => ?_) (fun h2 => ?_)
   ·replace H := ite_then h2 H
    refine as2 [(0, .p ((fun q : List (List GValue) => AV.lst (q.map (fun q : List GValue => AV.lst (q.flatMap GValue.cs) q.length)) q.length) a0)), (1, .p ((fun q : List (List GValue) => AV.lst (q.map (fun q : List GValue => AV.lst (q.flatMap GValue.cs) q.length)) q.length) b1)), (12, .i (a0.length : Int)), (13, .i t13_0)] [] rfl rfl rfl ?_
    refine AW2_skip ?_
    refine AW2_seq ?_
    refine AW2_block ?_
    refine sg [0, 1] rfl ?_
    refine rp rfl rfl (p_move rfl rfl) ?_
    refine rp rfl rfl (p_asg rfl rfl) ?_
    refine rz [(0, .p ((fun q : List (List GValue) => AV.lst (q.map (fun q : List GValue => AV.lst (q.flatMap GValue.cs) q.length)) q.length) a0)), (1, .p ((fun q : List (List GValue) => AV.lst (q.map (fun q : List GValue => AV.lst (q.flatMap GValue.cs) q.length)) q.length) b1)), (5, .i t13_0), (12, .i (a0.length : Int)), (13, .i t13_0)] [] rfl rfl rfl ?_
    refine AW2_seq ?_
    refine chkK H fun h3 H => ?_
    refine chkK H fun h4 H => ?_
    refine bindK H fun r'1 h5 H => ?_
    refine AW2_ghoQ ?_
    refine AW2_draw 8 [8, 9] (fun k => ([.p ((fun q : List (List GValue) => AV.lst (q.map (fun q : List GValue => AV.lst (q.flatMap GValue.cs) q.length)) q.length) a0), .i t13_0, .p (.rptr (a0.map (fun q : List GValue => AV.lst (q.flatMap GValue.cs) q.length)) (t13_0.toNat * 1)), .p ((fun q : List GValue => AV.lst (q.flatMap GValue.cs) q.length) (lrd a0 t13_0.toNat)), .p ((fun q : List (List GValue) => AV.lst (q.map (fun q : List GValue => AV.lst (q.flatMap GValue.cs) q.length)) q.length) b1), .i t13_0, .p (.rptr (b1.map (fun q : List GValue => AV.lst (q.flatMap GValue.cs) q.length)) (t13_0.toNat * 1)), .p ((fun q : List GValue => AV.lst (q.flatMap GValue.cs) q.length) (lrd b1 t13_0.toNat))] : List TV).getD k TV.any) (fun k => g_law_sameRows_r6.getD k []) [(0, none), (1, none), (12, none), (13, none), (19, some 3), (23, some 7)] [] (fun k => g_law_sameRows_r6c.getD k []) mixed (by kernel_rfl) rfl rfl (a_op (g_x rfl (x_p rfl (p_move rfl rfl) rfl)) (a_op (g_x rfl (x_p rfl (p_move rfl rfl) rfl)) (a_op (g_x rfl (x_p rfl (u_ixl rfl rfl Tryd.underlying42 in_32 rfl rfl (ixe h3) (ixn h3) (lne (ixn h3))) rfl)) (a_op (g_x rfl (x_p rfl (u_ld rfl rfl Tryd.underlying32 rfl rfl (Sub.map default (ixn h3))) rfl)) (a_op (g_x rfl (x_p rfl (p_move rfl rfl) rfl)) (a_op (g_x rfl (x_p rfl (p_move rfl rfl) rfl)) (a_op (g_x rfl (x_p rfl (u_ixl rfl rfl Tryd.underlying42 in_32 rfl rfl (ixe h4) (ixn h4) (lne (ixn h4))) rfl)) (a_op (g_x rfl (x_p rfl (u_ld rfl rfl Tryd.underlying32 rfl rfl (Sub.map default (ixn h4))) rfl)) (a_nil))))))))) ?_
    refine t_op rfl rfl (PureD.opD (p_callp rfl rfl rfl Tryd.func26 rfl rfl (g_law_sameRow_ac h5) ⟨rfl, rfl, trivial⟩)) ?_
    refine t_op rfl rfl (PureD.opD (p_not rfl rfl)) ?_
    refine t_gho (Gho_st (L := [(0, .p ((fun q : List (List GValue) => AV.lst (q.map (fun q : List GValue => AV.lst (q.flatMap GValue.cs) q.length)) q.length) a0)), (1, .p ((fun q : List (List GValue) => AV.lst (q.map (fun q : List GValue => AV.lst (q.flatMap GValue.cs) q.length)) q.length) b1)), (12, .i (a0.length : Int)), (13, .i t13_0), (25, .b (!r'1))]) (H := []) (N := 27) rfl ⟨TLes.same _, TLes.same _, TLes.same _, TLes.same _, TLes.same _, trivial⟩ trivial) ?_
    refine AW2_cond rfl (fun h6 => ?_) (fun h6 => ?_)
    ·replace H := ite_then h6 H
     refine sg [0] rfl ?_
     refine rp rfl rfl (p_asg rfl rfl) ?_
     refine rz [(4, .b false)] [] rfl rfl rfl ?_
     refine AW2_ret ?_
     have hz := some_elim H
     subst hz
     exact ⟨rfl, ⟨res_tmp (.same _), trivial⟩, trivial⟩
    ·replace H := ite_else (ne_true h6) H
     refine as2 [(0, .p ((fun q : List (List GValue) => AV.lst (q.map (fun q : List GValue => AV.lst (q.flatMap GValue.cs) q.length)) q.length) a0)), (1, .p ((fun q : List (List GValue) => AV.lst (q.map (fun q : List GValue => AV.lst (q.flatMap GValue.cs) q.length)) q.length) b1)), (12, .i (a0.length : Int)), (13, .i t13_0)] [] rfl rfl rfl ?_
     refine AW2_skip ?_
     refine AW2_reg [0, 1] rfl ?_
     refine rp rfl rfl (p_bin rfl rfl rfl rfl) ?_
     refine rp rfl rfl (p_move rfl rfl) ?_
     refine rz [(0, .p ((fun q : List (List GValue) => AV.lst (q.map (fun q : List GValue => AV.lst (q.flatMap GValue.cs) q.length)) q.length) a0)), (1, .p ((fun q : List (List GValue) => AV.lst (q.map (fun q : List GValue => AV.lst (q.flatMap GValue.cs) q.length)) q.length) b1)), (12, .i (a0.length : Int)), (13, .i (w64 (t13_0 + (1 : Int))))] [] rfl rfl rfl ?_
     have hz := some_elim H
     subst hz
     exact ⟨rfl, rfl⟩
   ·replace H := ite_else h2 H
    refine as2 [] [] rfl rfl rfl ?_
    refine AW2_exit ?_
    refine thenQ2_exit ?_
    have hz := some_elim H
    subst hz
    exact ⟨rfl, rfl⟩
  ·rcases o'5 with y'6 | y'7
   ·obtain ⟨rfl, hs⟩ := hs
    refine ⟨by simp, ?_⟩
    have hz := some_elim H
    subst hz
    exact ⟨hs.1, hs.2⟩
   ·obtain ⟨rfl, rfl⟩ := hs
    refine ⟨by simp, ?_⟩
    refine blockQ2_exit ?_
    refine sg [0] rfl ?_
    refine rp rfl rfl (p_asg rfl rfl) ?_
    refine rz [(4, .b true)] [] rfl rfl rfl ?_
    refine AW2_ret ?_
    have hz := some_elim H
    subst hz
    exact ⟨⟨res_tmp (.same _), trivial⟩, trivial⟩

/-! chirographlaw.sameReply -/
noncomputable def g_law_sameReply (a0 : GReply) (b1 : GReply) : Option (Bool) :=
  ((if a0.Error = b1.Error then (if a0.Count = b1.Count then (g_law_sameRows a0.Rows b1.Rows).bind fun r'2 => some r'2 else some false) else some false)).bind fun g'3 => some g'3
set_option maxHeartbeats 4000000 in
set_option maxRecDepth 100000 in
theorem g_law_sameReply_ac {a0 : GReply} {b1 : GReply} {r : Bool} (H : g_law_sameReply a0 b1 = some r) : ACp Tryd.prog 31 [(.agg (GReply.cs a0)), (.agg (GReply.cs b1))] (AV.bool r) := by
 refine ACp_of (AC2_of_body (vs := [.b r]) Tryd.func31 rfl rfl (Nat.le_of_ble_eq_true rfl) rfl ?_) (fun _ => .same _)
 unfold g_law_sameReply at H
 refine as2 [(0, .g (GReply.cs a0)), (1, .g (GReply.cs b1))] [] rfl rfl rfl ?_
 refine sg [0, 1, 2] rfl ?_
 refine r_op rfl rfl (MakeD.opD (n_box 2 rfl rfl) rfl rfl rfl rfl) ?_
 refine r_op rfl rfl (MakeD.opD (n_box 3 rfl rfl) rfl rfl rfl rfl) ?_
 refine rp rfl rfl (p_asg rfl rfl) ?_
 refine rz [(2, .q 2 (0)), (3, .q 3 (0))] [(2, .pure (GReply.cs a0)), (3, .pure (GReply.cs b1))] rfl rfl rfl ?_
 refine AW2_seq ?_
 refine bindK H fun g'3 h5 H => ?_
 refine AW2_mid (⟨[(4, .b g'3)], [], 24⟩ : TS) ?_ ?_
 ·clear H
  have H := h5
  clear h5
  refine AW2_reg [0, 1, 2, 3, 4, 5, 6, 7, 8, 9, 10, 11, 12, 13, 14, 15, 16, 17, 18, 19] rfl ?_
  refine rp rfl rfl (u_fa rfl rfl Tryd.underlying44 rfl in_25 (Nat.succ_ne_zero _) rfl rfl (ne_of_lt (n := 0) (Nat.lt_of_lt_of_eq (by decide) (Eq.symm (GReply.len a0))))) ?_
  refine rp rfl rfl (u_ld rfl rfl Tryd.underlying25 rfl rfl ((Sub.refl _).trans (GReply.sub0 a0))) ?_
  refine rp rfl rfl (u_fa rfl rfl Tryd.underlying44 rfl in_25 (Nat.succ_ne_zero _) rfl rfl (ne_of_lt (n := 0) (Nat.lt_of_lt_of_eq (by decide) (Eq.symm (GReply.len b1))))) ?_
  refine rp rfl rfl (u_ld rfl rfl Tryd.underlying25 rfl rfl ((Sub.refl _).trans (GReply.sub0 b1))) ?_
  refine rp rfl rfl (p_ieq rfl rfl rfl) ?_
  refine rp rfl rfl (p_move rfl rfl) ?_
  refine (Classical.em (a0.Error = b1.Error)).elim (fun h2 => ?_) (fun h2 => ?_)
  ·replace H := ite_then h2 H
   refine r_on rfl rfl rfl rfl (decide_eq_true h2) rfl (PureD.opD (u_fa rfl rfl Tryd.underlying44 rfl in_3 (Nat.succ_ne_zero _) rfl rfl (ne_of_lt (n := 0) (Nat.lt_of_lt_of_eq (by decide) (Eq.symm (GReply.len a0)))))) ?_
   refine r_on rfl rfl rfl rfl (decide_eq_true h2) rfl (PureD.opD (u_ld rfl rfl Tryd.underlying3 rfl rfl ((Sub.refl _).trans (GReply.sub1 a0)))) ?_
   refine r_on rfl rfl rfl rfl (decide_eq_true h2) rfl (PureD.opD (u_fa rfl rfl Tryd.underlying44 rfl in_3 (Nat.succ_ne_zero _) rfl rfl (ne_of_lt (n := 0) (Nat.lt_of_lt_of_eq (by decide) (Eq.symm (GReply.len b1)))))) ?_
   refine r_on rfl rfl rfl rfl (decide_eq_true h2) rfl (PureD.opD (u_ld rfl rfl Tryd.underlying3 rfl rfl ((Sub.refl _).trans (GReply.sub1 b1)))) ?_
   refine r_on rfl rfl rfl rfl (decide_eq_true h2) rfl (PureD.opD (p_ieq rfl rfl rfl)) ?_
   refine rp rfl rfl (p_pkt rfl rfl (decide_eq_true h2) (.same _)) ?_
   refine rp rfl rfl (p_move rfl rfl) ?_
   refine (Classical.em (a0.Count = b1.Count)).elim (fun h3 => ?_) (fun h3 => ?_)
   ·replace H := ite_then h3 H
    refine r_on rfl rfl rfl rfl (decide_eq_true h3) rfl (PureD.opD (u_fa rfl rfl Tryd.underlying44 rfl in_42 (Nat.succ_ne_zero _) rfl rfl (ne_of_lt (n := 0) (Nat.lt_of_lt_of_eq (by decide) (Eq.symm (GReply.len a0)))))) ?_
    refine r_on rfl rfl rfl rfl (decide_eq_true h3) rfl (PureD.opD (u_ld rfl rfl Tryd.underlying42 rfl rfl ((Sub.refl _).trans (GReply.sub2 a0)))) ?_
    refine r_on rfl rfl rfl rfl (decide_eq_true h3) rfl (PureD.opD (u_fa rfl rfl Tryd.underlying44 rfl in_42 (Nat.succ_ne_zero _) rfl rfl (ne_of_lt (n := 0) (Nat.lt_of_lt_of_eq (by decide) (Eq.symm (GReply.len b1)))))) ?_
    refine r_on rfl rfl rfl rfl (decide_eq_true h3) rfl (PureD.opD (u_ld rfl rfl Tryd.underlying42 rfl rfl ((Sub.refl _).trans (GReply.sub2 b1)))) ?_
    refine bindK H fun r'2 h4 H => ?_
    refine r_on rfl rfl rfl rfl (decide_eq_true h3) rfl (PureD.opD (p_callp rfl rfl rfl Tryd.func58 rfl rfl (g_law_sameRows_ac h4) ⟨rfl, rfl, trivial⟩)) ?_
    refine rp rfl rfl (p_pkt rfl rfl (decide_eq_true h3) (.same _)) ?_
    refine rp rfl rfl (p_asg rfl rfl) ?_
    refine rs [(4, .b r'2)] [] rfl rfl rfl ?_
    have hz := some_elim H
    subst hz
    exact RunW_nil rfl
   ·replace H := ite_else h3 H
    refine r_off rfl rfl rfl rfl (decide_eq_false h3) rfl rfl ?_
    refine r_off rfl rfl rfl rfl (decide_eq_false h3) rfl rfl ?_
    refine r_off rfl rfl rfl rfl (decide_eq_false h3) rfl rfl ?_
    refine r_off rfl rfl rfl rfl (decide_eq_false h3) rfl rfl ?_
    refine r_off rfl rfl rfl rfl (decide_eq_false h3) rfl rfl ?_
    refine rp rfl rfl (p_pkf rfl rfl (decide_eq_false h3) (.same _)) ?_
    refine rp rfl rfl (p_asg rfl rfl) ?_
    refine rs [(4, .b false)] [] rfl rfl rfl ?_
    have hz := some_elim H
    subst hz
    exact RunW_nil rfl
  ·replace H := ite_else h2 H
   refine r_off rfl rfl rfl rfl (decide_eq_false h2) rfl rfl ?_
   refine r_off rfl rfl rfl rfl (decide_eq_false h2) rfl rfl ?_
   refine r_off rfl rfl rfl rfl (decide_eq_false h2) rfl rfl ?_
   refine r_off rfl rfl rfl rfl (decide_eq_false h2) rfl rfl ?_
   refine r_off rfl rfl rfl rfl (decide_eq_false h2) rfl rfl ?_
   refine rp rfl rfl (p_pkf rfl rfl (decide_eq_false h2) (.same _)) ?_
   refine rp rfl rfl (p_move rfl rfl) ?_
   refine r_off rfl rfl rfl rfl (bfalse (by decide)) rfl rfl ?_
   refine r_off rfl rfl rfl rfl (bfalse (by decide)) rfl rfl ?_
   refine r_off rfl rfl rfl rfl (bfalse (by decide)) rfl rfl ?_
   refine r_off rfl rfl rfl rfl (bfalse (by decide)) rfl rfl ?_
   refine r_off rfl rfl rfl rfl (bfalse (by decide)) rfl rfl ?_
   refine rp rfl rfl (p_pkf rfl rfl (bfalse (by decide)) (.same _)) ?_
   refine rp rfl rfl (p_asg rfl rfl) ?_
   refine rs [(4, .b false)] [] rfl rfl rfl ?_
   have hz := some_elim H
   subst hz
   exact RunW_nil rfl
 ·refine AW2_ret ?_
  have hz := some_elim H
  subst hz
  exact ⟨⟨res_tmp (.same _), trivial⟩, trivial⟩

/-! chirographlaw.WireTold -/
noncomputable def g_law_WireTold (l0 : List UInt8) : Option (Bool) :=
  (g_wire_Told l0).bind fun r'1 => (g_ref_ReplyOf l0).bind fun r'2 => ((if r'1.2 = r'2.2 then (g_law_sameReply r'1.1 r'2.1).bind fun r'4 => some r'4 else some false)).bind fun g'5 => some g'5
set_option maxHeartbeats 4000000 in
set_option maxRecDepth 100000 in
theorem g_law_WireTold_ac {l0 : List UInt8} {r : Bool} (H : g_law_WireTold l0 = some r) : ACp Tryd.prog 10 [(AV.bytes l0)] (AV.bool r) := by
 refine ACp_of (AC2_of_body (vs := [.b r]) Tryd.func10 rfl rfl (Nat.le_of_ble_eq_true rfl) rfl ?_) (fun _ => .same _)
 unfold g_law_WireTold at H
 refine as2 [(0, .y l0)] [] rfl rfl rfl ?_
 refine sg [0] rfl ?_
 refine rp rfl rfl (p_asg rfl rfl) ?_
 refine rz [(0, .y l0)] [] rfl rfl rfl ?_
 refine sg [0, 1, 2, 3, 4, 5, 6, 7] rfl ?_
 refine rp rfl rfl (p_move rfl rfl) ?_
 refine bindK H fun r'1 h1 H => ?_
 refine rp rfl rfl (p_callp rfl rfl rfl Tryd.func29 rfl rfl (g_wire_Told_ac h1) ⟨rfl, trivial⟩) ?_
 refine rp rfl rfl (p_move rfl rfl) ?_
 refine rp rfl rfl (p_ext rfl rfl rfl rfl) ?_
 refine rp rfl rfl (p_ext rfl rfl rfl rfl) ?_
 refine r_op rfl rfl (MakeD.opD (u_alloc 3 rfl in_44 one_44 zc_44) rfl rfl rfl rfl) ?_
 refine r_op rfl rfl (u_st rfl rfl rfl rfl rfl in_44 (GReply.len r'1.1) (ne_of_lt (n := 0) (Nat.lt_of_lt_of_eq (by decide) (Eq.symm (GReply.len GReply.zero)))) (Upd.refl ((GReply.len r'1.1).trans (GReply.len GReply.zero).symm))) ?_
 refine rp rfl rfl (p_asg rfl rfl) ?_
 refine rz [(0, .y l0), (3, .q 3 (0)), (4, .i r'1.2)] [(3, .pure (GReply.cs r'1.1))] rfl rfl rfl ?_
 refine sg [0, 1, 2, 3, 4, 5, 6, 7] rfl ?_
 refine rp rfl rfl (p_move rfl rfl) ?_
 refine bindK H fun r'2 h2 H => ?_
 refine rp rfl rfl (p_callp rfl rfl rfl Tryd.func30 rfl rfl (g_ref_ReplyOf_ac h2) ⟨rfl, trivial⟩) ?_
 refine rp rfl rfl (p_move rfl rfl) ?_
 refine rp rfl rfl (p_ext rfl rfl rfl rfl) ?_
 refine rp rfl rfl (p_ext rfl rfl rfl rfl) ?_
 refine r_op rfl rfl (MakeD.opD (u_alloc 5 rfl in_44 one_44 zc_44) rfl rfl rfl rfl) ?_
 refine r_op rfl rfl (u_st rfl rfl rfl rfl rfl in_44 (GReply.len r'2.1) (ne_of_lt (n := 0) (Nat.lt_of_lt_of_eq (by decide) (Eq.symm (GReply.len GReply.zero)))) (Upd.refl ((GReply.len r'2.1).trans (GReply.len GReply.zero).symm))) ?_
 refine rp rfl rfl (p_asg rfl rfl) ?_
 refine rz [(3, .q 3 (0)), (4, .i r'1.2), (5, .q 5 (0)), (6, .i r'2.2)] [(3, .pure (GReply.cs r'1.1)), (5, .pure (GReply.cs r'2.1))] rfl rfl rfl ?_
 refine AW2_seq ?_
 refine bindK H fun g'5 h6 H => ?_
 refine AW2_mid (⟨[(2, .b g'5)], [], 25⟩ : TS) ?_ ?_
 ·clear H
  have H := h6
  clear h6
  refine AW2_reg [0, 1, 2, 3, 4, 5, 6, 7, 8] rfl ?_
  refine rp rfl rfl (p_move rfl rfl) ?_
  refine rp rfl rfl (p_move rfl rfl) ?_
  refine rp rfl rfl (p_ieq rfl rfl rfl) ?_
  refine rp rfl rfl (p_move rfl rfl) ?_
  refine (Classical.em (r'1.2 = r'2.2)).elim (fun h4 => ?_) (fun h4 => ?_)
  ·replace H := ite_then h4 H
   refine r_on rfl rfl rfl rfl (decide_eq_true h4) rfl (PureD.opD (u_lda rfl rfl Tryd.underlying44 rfl in_44 rfl (Nat.succ_pos _) (Sub.refl _) (GReply.len r'1.1))) ?_
   refine r_on rfl rfl rfl rfl (decide_eq_true h4) rfl (PureD.opD (u_lda rfl rfl Tryd.underlying44 rfl in_44 rfl (Nat.succ_pos _) (Sub.refl _) (GReply.len r'2.1))) ?_
   refine bindK H fun r'4 h5 H => ?_
   refine r_on rfl rfl rfl rfl (decide_eq_true h4) rfl (PureD.opD (p_callp rfl rfl rfl Tryd.func31 rfl rfl (g_law_sameReply_ac h5) ⟨rfl, rfl, trivial⟩)) ?_
   refine rp rfl rfl (p_pkt rfl rfl (decide_eq_true h4) (.same _)) ?_
   refine rp rfl rfl (p_asg rfl rfl) ?_
   refine rs [(2, .b r'4)] [] rfl rfl rfl ?_
   have hz := some_elim H
   subst hz
   exact RunW_nil rfl
  ·replace H := ite_else h4 H
   refine r_off rfl rfl rfl rfl (decide_eq_false h4) rfl rfl ?_
   refine r_off rfl rfl rfl rfl (decide_eq_false h4) rfl rfl ?_
   refine r_off rfl rfl rfl rfl (decide_eq_false h4) rfl rfl ?_
   refine rp rfl rfl (p_pkf rfl rfl (decide_eq_false h4) (.same _)) ?_
   refine rp rfl rfl (p_asg rfl rfl) ?_
   refine rs [(2, .b false)] [] rfl rfl rfl ?_
   have hz := some_elim H
   subst hz
   exact RunW_nil rfl
 ·refine AW2_ret ?_
  have hz := some_elim H
  subst hz
  exact ⟨⟨res_tmp (.same _), trivial⟩, trivial⟩
end Go.Proofs.YtfekkhinjdmcbaaDoor.VM
