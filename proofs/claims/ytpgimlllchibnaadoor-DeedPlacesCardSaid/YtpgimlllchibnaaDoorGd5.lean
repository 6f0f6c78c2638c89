/- Functions of the program, as they answer, and that their code comes to these answers. -/
import Derived.Test.YtpgimlllchibnaaDoorGd4
namespace Go.Proofs.YtpgimlllchibnaaDoor.VM
open Go Go.RowKit



/-! chirographref.placeOf -/
noncomputable def g_ref_placeOf_l1 (s0 : GState) (user1 : Int) (owner2 : Int) (name3 : List UInt8) (t13_0 : Int) : Int → Option (Int ⊕ ((Int × Int) ⊕ Unit))
  | t20_1 => (if t20_1 < (2 : Int) then if 0 ≤ t20_1 ∧ t20_1 < (2 : Int) then ((if t13_0 = owner2 then (if ((vrd (vrd s0.Tables t13_0.toNat) t20_1.toNat).There) = true then (if (vrd (vrd s0.Tables t13_0.toNat) t20_1.toNat).Name = name3 then (g_ref_anyRight s0 user1 t13_0 t20_1).bind fun r'2 => some r'2 else some false) else some false) else some false)).bind fun g'3 => (if g'3 = true then some (.inr (.inl (t20_1, (0 : Int)))) else some (.inl (w64 (t20_1 + (1 : Int))))) else none else some (.inr (.inr ())))
noncomputable def g_ref_placeOf_l0 (s0 : GState) (user1 : Int) (owner2 : Int) (name3 : List UInt8) : Int → Option (Int ⊕ ((Int × Int) ⊕ Unit))
  | t13_0 => (if t13_0 < (3 : Int) then if 0 ≤ t13_0 ∧ t13_0 < (3 : Int) then (loopO (g_ref_placeOf_l1 s0 user1 owner2 name3 t13_0) (0 : Int)).bind fun o'7 => match o'7 with | .inl y'8 => some (.inr (.inl y'8)) | .inr (y'9) => some (.inl (w64 (t13_0 + (1 : Int)))) else none else some (.inr (.inr ())))
noncomputable def g_ref_placeOf (s0 : GState) (user1 : Int) (owner2 : Int) (name3 : List UInt8) : Option (Int × Int) :=
  (loopO (g_ref_placeOf_l0 s0 user1 owner2 name3) (0 : Int)).bind fun o'13 => match o'13 with | .inl y'14 => some y'14 | .inr (y'15) => some ((0 : Int), (5 : Int))
set_option maxHeartbeats 4000000 in
set_option maxRecDepth 100000 in
theorem g_ref_placeOf_ac {s0 : GState} {user1 : Int} {owner2 : Int} {name3 : List UInt8} {r : Int × Int} (H : g_ref_placeOf s0 user1 owner2 name3 = some r) : ACp Tryd.prog 16 [(.agg (GState.cs s0)), (AV.int user1), (AV.int owner2), (AV.txt name3)] (.tup [(AV.int r.1), (AV.int r.2)]) := by
 refine ACp_of (AC2_of_body (vs := [.i r.1, .i r.2]) Tryd.func16 Y Y (Nat.le_of_ble_eq_true Y) Y ?_) (fun _ => .same _)
 unfold g_ref_placeOf at H
 refine as2 [(0, .g (GState.cs s0)), (1, .i user1), (2, .i owner2), (3, .t name3)] [] Y Y Y ?_
 refine sg [0, 1, 2] Y ?_
 refine r_op Y Y (MakeD.opD (n_box 4 Y Y) Y Y Y Y) ?_
 refine rp Y Y (p_asg Y Y) ?_
 refine rp Y Y (p_asg Y Y) ?_
 refine rz [(1, .i user1), (2, .i owner2), (3, .t name3), (4, .q 4 (0))] [(4, .pure (GState.cs s0))] Y Y Y ?_
 refine AW2_seq ?_
 refine sg [0] Y ?_
 refine rp Y Y (p_move Y Y) ?_
 refine rz [(1, .i user1), (2, .i owner2), (3, .t name3), (4, .q 4 (0)), (13, .i (0 : Int))] [(4, .pure (GState.cs s0))] Y Y Y ?_
 refine AW2_block ?_
 refine as2 [(1, .i user1), (2, .i owner2), (3, .t name3), (4, .q 4 (0)), (13, .i (0 : Int))] [(4, .pure (GState.cs s0))] Y Y Y ?_
 refine bindK H fun o'13 h14 H => ?_
 refine AW2_loopO (fun a'10 : Int => (⟨[(1, .i user1), (2, .i owner2), (3, .t name3), (4, .q 4 (0)), (13, .i a'10)], [(4, .pure (GState.cs s0))], 47⟩ : TS)) (fun (o : (Int × Int) ⊕ Unit) e s' => match o with | .inl y'11 => e = Go.Exit.ret ∧ ResAll Tryd.prog s' [ResultVar.tmp 8, ResultVar.tmp 9] [.i y'11.1, .i y'11.2] ∧ HFits s' [] | .inr (y'12) => e = Go.Exit.exit 0 ∧ s' = (⟨[], [], 47⟩ : TS)) h14 Y (fun t13_0 x hx => ?_) (fun e s' hs => ?_)
 ·clear H
  have H := hx
  clear hx
  unfold g_ref_placeOf_l0 at H
  refine sg [0] Y ?_
  refine rp Y Y (p_bin Y Y Y Y) ?_
  refine rz [(1, .i user1), (2, .i owner2), (3, .t name3), (4, .q 4 (0)), (13, .i t13_0), (14, .b (decide (t13_0 < (3 : Int))))] [(4, .pure (GState.cs s0))] Y Y Y ?_
  refine AW2_seq ?_
  refine AW2_if (p := t13_0 < (3 : Int)) Y (fun h1 => ?_) (fun h1 => ?_)
  ·replace H := ite_then h1 H
   refine as2 [(1, .i user1), (2, .i owner2), (3, .t name3), (4, .q 4 (0)), (13, .i t13_0)] [(4, .pure (GState.cs s0))] Y Y Y ?_
   refine AW2_skip ?_
   refine AW2_seq ?_
   refine AW2_block ?_
   refine sg [0, 1] Y ?_
   refine rp Y Y (p_move Y Y) ?_
   refine rp Y Y (p_asg Y Y) ?_
   refine rz [(1, .i user1), (2, .i owner2), (3, .t name3), (4, .q 4 (0)), (10, .i t13_0), (13, .i t13_0)] [(4, .pure (GState.cs s0))] Y Y Y ?_
   refine sg [0, 1, 2, 3, 4] Y ?_
   refine rp Y Y (p_move Y Y) ?_
   refine rp Y Y (u_fa Y Y Tryd.underlying35 Y in_31 nz Y Y (nl (GState.len s0))) ?_
   refine chkK H fun h2 H => ?_
   refine rp Y Y (u_ixp Y Y Tryd.underlying31 in_30 Y Y (nl (GState.len s0)) Y (ixe h2) (ixn h2)) ?_
   refine rp Y Y (u_lda Y Y Tryd.underlying30 Y in_30 Y (Nat.succ_pos _) (((Sub.refl _).trans (GState.sub0 s0)).trans (Sub.vfm (fun x => (vfm_len (fun x => (GTable.len x)) x)) (ixn h2))) (vfm_len (fun x => (GTable.len x)) (vrd s0.Tables t13_0.toNat))) ?_
   refine rp Y Y (p_move Y Y) ?_
   refine rz [(1, .i user1), (2, .i owner2), (3, .t name3), (4, .q 4 (0)), (10, .i t13_0), (13, .i t13_0), (19, .g (((vrd s0.Tables t13_0.toNat).toList).flatMap GTable.cs)), (20, .i (0 : Int))] [(4, .pure (GState.cs s0))] Y Y Y ?_
   refine AW2_block ?_
   refine as2 [(1, .i user1), (2, .i owner2), (3, .t name3), (4, .q 4 (0)), (10, .i t13_0), (13, .i t13_0), (19, .g (((vrd s0.Tables t13_0.toNat).toList).flatMap GTable.cs)), (20, .i (0 : Int))] [(4, .pure (GState.cs s0))] Y Y Y ?_
   refine bindK H fun o'7 h13 H => ?_
   refine AW2_loopO (fun a'4 : Int => (⟨[(1, .i user1), (2, .i owner2), (3, .t name3), (4, .q 4 (0)), (10, .i t13_0), (13, .i t13_0), (19, .g (((vrd s0.Tables t13_0.toNat).toList).flatMap GTable.cs)), (20, .i a'4)], [(4, .pure (GState.cs s0))], 47⟩ : TS)) (fun (o : (Int × Int) ⊕ Unit) e s' => match o with | .inl y'5 => e = Go.Exit.ret ∧ ResAll Tryd.prog s' [ResultVar.tmp 8, ResultVar.tmp 9] [.i y'5.1, .i y'5.2] ∧ HFits s' [] | .inr (y'6) => e = Go.Exit.exit 2 ∧ s' = (⟨[(1, .i user1), (2, .i owner2), (3, .t name3), (4, .q 4 (0)), (13, .i t13_0)], [(4, .pure (GState.cs s0))], 47⟩ : TS)) h13 Y (fun t20_1 x hx => ?_) (fun e s' hs => ?_)
   ·clear H
    have H := hx
    clear hx
    unfold g_ref_placeOf_l1 at H
    refine sg [0] Y ?_
    refine rp Y Y (p_bin Y Y Y Y) ?_
    refine rz [(1, .i user1), (2, .i owner2), (3, .t name3), (4, .q 4 (0)), (10, .i t13_0), (13, .i t13_0), (19, .g (((vrd s0.Tables t13_0.toNat).toList).flatMap GTable.cs)), (20, .i t20_1), (21, .b (decide (t20_1 < (2 : Int))))] [(4, .pure (GState.cs s0))] Y Y Y ?_
    refine AW2_seq ?_
    refine AW2_if (p := t20_1 < (2 : Int)) Y (fun h3 => ?_) (fun h3 => ?_)
    ·replace H := ite_then h3 H
     refine as2 [(1, .i user1), (2, .i owner2), (3, .t name3), (4, .q 4 (0)), (10, .i t13_0), (13, .i t13_0), (19, .g (((vrd s0.Tables t13_0.toNat).toList).flatMap GTable.cs)), (20, .i t20_1)] [(4, .pure (GState.cs s0))] Y Y Y ?_
     refine AW2_skip ?_
     refine AW2_seq ?_
     refine AW2_block ?_
     refine sg [0, 1, 2, 3, 4] Y ?_
     refine rp Y Y (p_move Y Y) ?_
     refine chkK H fun h4 H => ?_
     refine rp Y Y (u_ixaa Y Y Tryd.underlying30 in_29 Tryd.underlying29 Y Y Y (ixe h4) (ixn h4) (Sub.vfm (fun x => (GTable.len x)) (ixn h4)) (GTable.len (vrd (vrd s0.Tables t13_0.toNat) t20_1.toNat))) ?_
     refine r_op Y Y (MakeD.opD (u_alloc 12 Y in_29 one_29 zc_29) Y Y Y Y) ?_
     refine rp Y Y (p_asg Y Y) ?_
     refine r_op Y Y (u_st Y Y Y Y Y in_29 (GTable.len (vrd (vrd s0.Tables t13_0.toNat) t20_1.toNat)) (nl (GTable.len GTable.zero)) (Upd.refl ((GTable.len (vrd (vrd s0.Tables t13_0.toNat) t20_1.toNat)).trans (GTable.len GTable.zero).symm))) ?_
     refine rz [(1, .i user1), (2, .i owner2), (3, .t name3), (4, .q 4 (0)), (10, .i t13_0), (11, .i t20_1), (12, .q 12 (0)), (13, .i t13_0), (19, .g (((vrd s0.Tables t13_0.toNat).toList).flatMap GTable.cs)), (20, .i t20_1)] [(4, .pure (GState.cs s0)), (12, .pure (GTable.cs (vrd (vrd s0.Tables t13_0.toNat) t20_1.toNat)))] Y Y Y ?_
     refine AW2_seq ?_
     refine bindK H fun g'3 h10 H => ?_
     refine AW2_mid (⟨[(1, .i user1), (2, .i owner2), (3, .t name3), (4, .q 4 (0)), (10, .i t13_0), (11, .i t20_1), (13, .i t13_0), (19, .g (((vrd s0.Tables t13_0.toNat).toList).flatMap GTable.cs)), (20, .i t20_1), (43, .b g'3)], [(4, .pure (GState.cs s0))], 47⟩ : TS) ?_ ?_
     ·clear H
      have H := h10
      clear h10
      refine AW2_reg [0, 1, 2, 3, 4, 5, 6, 7, 8, 9, 10, 11, 12, 13, 14, 15, 16, 17, 18, 19] Y ?_
      refine rp Y Y (p_move Y Y) ?_
      refine rp Y Y (p_move Y Y) ?_
      refine rp Y Y (p_ieq Y Y Y) ?_
      refine rp Y Y (p_move Y Y) ?_
      refine (Classical.em (t13_0 = owner2)).elim (fun h6 => ?_) (fun h6 => ?_)
      ·replace H := ite_then h6 H
       refine r_on Y Y Y Y (dT h6) Y (PureD.opD (u_fa Y Y Tryd.underlying29 Y in_4 nz Y Y (nl (GTable.len (vrd (vrd s0.Tables t13_0.toNat) t20_1.toNat))))) ?_
       refine r_on Y Y Y Y (dT h6) Y (PureD.opD (u_ld Y Y Tryd.underlying4 Y Y ((Sub.refl _).trans (GTable.sub0 (vrd (vrd s0.Tables t13_0.toNat) t20_1.toNat))))) ?_
       refine rp Y Y (p_pkt Y Y (dT h6) (.same _)) ?_
       refine rp Y Y (p_move Y Y) ?_
       refine (Classical.em (((vrd (vrd s0.Tables t13_0.toNat) t20_1.toNat).There) = true)).elim (fun h7 => ?_) (fun h7 => ?_)
       ·replace H := ite_then h7 H
        refine rn Y Y Y Y h7 Y (u_fa Y Y Tryd.underlying29 Y in_9 nz Y Y (nl (GTable.len (vrd (vrd s0.Tables t13_0.toNat) t20_1.toNat)))) ?_
        refine rn Y Y Y Y h7 Y (u_ld Y Y Tryd.underlying9 Y Y ((Sub.refl _).trans (GTable.sub1 (vrd (vrd s0.Tables t13_0.toNat) t20_1.toNat)))) ?_
        refine rn Y Y Y Y h7 Y (p_move Y Y) ?_
        refine rn Y Y Y Y h7 Y (p_seq Y Y Y) ?_
        refine rp Y Y (p_pkt Y Y h7 (.same _)) ?_
        refine rp Y Y (p_move Y Y) ?_
        refine (Classical.em ((vrd (vrd s0.Tables t13_0.toNat) t20_1.toNat).Name = name3)).elim (fun h8 => ?_) (fun h8 => ?_)
        ·replace H := ite_then h8 H
         refine r_on Y Y Y Y (dT h8) Y (PureD.opD (u_lda Y Y Tryd.underlying35 Y in_35 Y (Nat.succ_pos _) (Sub.refl _) (GState.len s0))) ?_
         refine r_on Y Y Y Y (dT h8) Y (PureD.opD (p_move Y Y)) ?_
         refine r_on Y Y Y Y (dT h8) Y (PureD.opD (p_move Y Y)) ?_
         refine r_on Y Y Y Y (dT h8) Y (PureD.opD (p_move Y Y)) ?_
         refine bindK H fun r'2 h9 H => ?_
         refine r_on Y Y Y Y (dT h8) Y (PureD.opD (p_callp Y Y Y Tryd.func32 Y Y (g_ref_anyRight_ac h9) ⟨Y, Y, Y, Y, trivial⟩)) ?_
         refine rp Y Y (p_pkt Y Y (dT h8) (.same _)) ?_
         refine rs [(1, .i user1), (2, .i owner2), (3, .t name3), (4, .q 4 (0)), (10, .i t13_0), (11, .i t20_1), (13, .i t13_0), (19, .g (((vrd s0.Tables t13_0.toNat).toList).flatMap GTable.cs)), (20, .i t20_1), (43, .b r'2)] [(4, .pure (GState.cs s0))] Y Y Y ?_
         have hz := some_elim H
         subst hz
         exact RunW_nil rfl
        ·replace H := ite_else h8 H
         refine r_off Y Y Y Y (dF h8) Y Y ?_
         refine r_off Y Y Y Y (dF h8) Y Y ?_
         refine r_off Y Y Y Y (dF h8) Y Y ?_
         refine r_off Y Y Y Y (dF h8) Y Y ?_
         refine r_off Y Y Y Y (dF h8) Y Y ?_
         refine rp Y Y (p_pkf Y Y (dF h8) (.same _)) ?_
         refine rs [(1, .i user1), (2, .i owner2), (3, .t name3), (4, .q 4 (0)), (10, .i t13_0), (11, .i t20_1), (13, .i t13_0), (19, .g (((vrd s0.Tables t13_0.toNat).toList).flatMap GTable.cs)), (20, .i t20_1), (43, .b false)] [(4, .pure (GState.cs s0))] Y Y Y ?_
         have hz := some_elim H
         subst hz
         exact RunW_nil rfl
       ·replace H := ite_else h7 H
        refine r_off Y Y Y Y (bfalse h7) Y Y ?_
        refine r_off Y Y Y Y (bfalse h7) Y Y ?_
        refine r_off Y Y Y Y (bfalse h7) Y Y ?_
        refine r_off Y Y Y Y (bfalse h7) Y Y ?_
        refine rp Y Y (p_pkf Y Y (bfalse h7) (.same _)) ?_
        refine rp Y Y (p_move Y Y) ?_
        refine r_off Y Y Y Y (bfalse (by decide)) Y Y ?_
        refine r_off Y Y Y Y (bfalse (by decide)) Y Y ?_
        refine r_off Y Y Y Y (bfalse (by decide)) Y Y ?_
        refine r_off Y Y Y Y (bfalse (by decide)) Y Y ?_
        refine r_off Y Y Y Y (bfalse (by decide)) Y Y ?_
        refine rp Y Y (p_pkf Y Y (bfalse (by decide)) (.same _)) ?_
        refine rs [(1, .i user1), (2, .i owner2), (3, .t name3), (4, .q 4 (0)), (10, .i t13_0), (11, .i t20_1), (13, .i t13_0), (19, .g (((vrd s0.Tables t13_0.toNat).toList).flatMap GTable.cs)), (20, .i t20_1), (43, .b false)] [(4, .pure (GState.cs s0))] Y Y Y ?_
        have hz := some_elim H
        subst hz
        exact RunW_nil rfl
      ·replace H := ite_else h6 H
       refine r_off Y Y Y Y (dF h6) Y Y ?_
       refine r_off Y Y Y Y (dF h6) Y Y ?_
       refine rp Y Y (p_pkf Y Y (dF h6) (.same _)) ?_
       refine rp Y Y (p_move Y Y) ?_
       refine r_off Y Y Y Y (bfalse (by decide)) Y Y ?_
       refine r_off Y Y Y Y (bfalse (by decide)) Y Y ?_
       refine r_off Y Y Y Y (bfalse (by decide)) Y Y ?_
       refine r_off Y Y Y Y (bfalse (by decide)) Y Y ?_
       refine rp Y Y (p_pkf Y Y (bfalse (by decide)) (.same _)) ?_
       refine rp Y Y (p_move Y Y) ?_
       refine r_off Y Y Y Y (bfalse (by decide)) Y Y ?_
       refine r_off Y Y Y Y (bfalse (by decide)) Y Y ?_
       refine r_off Y Y Y Y (bfalse (by decide)) Y Y ?_
       refine r_off Y Y Y Y (bfalse (by decide)) Y Y ?_
       refine r_off Y Y Y Y (bfalse (by decide)) Y Y ?_
       refine rp Y Y (p_pkf Y Y (bfalse (by decide)) (.same _)) ?_
       refine rs [(1, .i user1), (2, .i owner2), (3, .t name3), (4, .q 4 (0)), (10, .i t13_0), (11, .i t20_1), (13, .i t13_0), (19, .g (((vrd s0.Tables t13_0.toNat).toList).flatMap GTable.cs)), (20, .i t20_1), (43, .b false)] [(4, .pure (GState.cs s0))] Y Y Y ?_
       have hz := some_elim H
       subst hz
       exact RunW_nil rfl
     ·refine AW2_cond Y (fun h11 => ?_) (fun h11 => ?_)
      ·replace H := ite_then h11 H
       refine sg [0, 1, 2] Y ?_
       refine rp Y Y (p_move Y Y) ?_
       refine rp Y Y (p_asg Y Y) ?_
       refine rp Y Y (p_asg Y Y) ?_
       refine rz [(8, .i t20_1), (9, .i (0 : Int))] [] Y Y Y ?_
       refine AW2_ret ?_
       have hz := some_elim H
       subst hz
       exact ⟨Y, ⟨res_tmp (.same _), res_tmp (.same _), trivial⟩, trivial⟩
      ·replace H := ite_else (ne_true h11) H
       refine as2 [(1, .i user1), (2, .i owner2), (3, .t name3), (4, .q 4 (0)), (10, .i t13_0), (13, .i t13_0), (19, .g (((vrd s0.Tables t13_0.toNat).toList).flatMap GTable.cs)), (20, .i t20_1)] [(4, .pure (GState.cs s0))] Y Y Y ?_
       refine AW2_skip ?_
       refine AW2_reg [0, 1] Y ?_
       refine rp Y Y (p_bin Y Y Y Y) ?_
       refine rp Y Y (p_move Y Y) ?_
       refine rz [(1, .i user1), (2, .i owner2), (3, .t name3), (4, .q 4 (0)), (10, .i t13_0), (13, .i t13_0), (19, .g (((vrd s0.Tables t13_0.toNat).toList).flatMap GTable.cs)), (20, .i (w64 (t20_1 + (1 : Int))))] [(4, .pure (GState.cs s0))] Y Y Y ?_
       have hz := some_elim H
       subst hz
       exact ⟨Y, Y⟩
    ·replace H := ite_else h3 H
     refine as2 [(1, .i user1), (2, .i owner2), (3, .t name3), (4, .q 4 (0)), (13, .i t13_0)] [(4, .pure (GState.cs s0))] Y Y Y ?_
     refine AW2_exit ?_
     refine thenQ2_exit ?_
     have hz := some_elim H
     subst hz
     exact ⟨Y, Y⟩
   ·rcases o'7 with y'8 | y'9
    ·obtain ⟨rfl, hs⟩ := hs
     refine ⟨by simp, ?_⟩
     have hz := some_elim H
     subst hz
     exact ⟨Y, hs.1, hs.2⟩
    ·obtain ⟨rfl, rfl⟩ := hs
     refine ⟨by simp, ?_⟩
     refine blockQ2_exit ?_
     refine AW2_reg [0, 1] Y ?_
     refine rp Y Y (p_bin Y Y Y Y) ?_
     refine rp Y Y (p_move Y Y) ?_
     refine rz [(1, .i user1), (2, .i owner2), (3, .t name3), (4, .q 4 (0)), (13, .i (w64 (t13_0 + (1 : Int))))] [(4, .pure (GState.cs s0))] Y Y Y ?_
     have hz := some_elim H
     subst hz
     exact ⟨Y, Y⟩
  ·replace H := ite_else h1 H
   refine as2 [] [] Y Y Y ?_
   refine AW2_exit ?_
   refine thenQ2_exit ?_
   have hz := some_elim H
   subst hz
   exact ⟨Y, Y⟩
 ·rcases o'13 with y'14 | y'15
  ·obtain ⟨rfl, hs⟩ := hs
   refine ⟨by simp, ?_⟩
   have hz := some_elim H
   subst hz
   exact ⟨hs.1, hs.2⟩
  ·obtain ⟨rfl, rfl⟩ := hs
   refine ⟨by simp, ?_⟩
   refine blockQ2_exit ?_
   refine sg [0, 1] Y ?_
   refine rp Y Y (p_asg Y Y) ?_
   refine rp Y Y (p_asg Y Y) ?_
   refine rz [(8, .i (0 : Int)), (9, .i (5 : Int))] [] Y Y Y ?_
   refine AW2_ret ?_
   have hz := some_elim H
   subst hz
   exact ⟨⟨res_tmp (.same _), res_tmp (.same _), trivial⟩, trivial⟩

/-! chirographref.PlaceOf -/
noncomputable def g_ref_PlaceOf (s0 : GState) (user1 : Int) (owner2 : Int) (name3 : List UInt8) : Option (Int × Int) :=
  (g_ref_StateFault s0).bind fun r'1 => (if r'1 ≠ (0 : Int) then some ((0 : Int), r'1) else (if (user1 < (0 : Int)) ∨ (user1 ≥ (3 : Int)) then some ((0 : Int), (6 : Int)) else (g_ref_placeOf s0 user1 owner2 name3).bind fun r'2 => some (r'2.1, r'2.2)))
set_option maxHeartbeats 4000000 in
set_option maxRecDepth 100000 in
theorem g_ref_PlaceOf_ac {s0 : GState} {user1 : Int} {owner2 : Int} {name3 : List UInt8} {r : Int × Int} (H : g_ref_PlaceOf s0 user1 owner2 name3 = some r) : ACp Tryd.prog 8 [(.agg (GState.cs s0)), (AV.int user1), (AV.int owner2), (AV.txt name3)] (.tup [(AV.int r.1), (AV.int r.2)]) := by
 refine ACp_of (AC2_of_body (vs := [.i r.1, .i r.2]) Tryd.func8 Y Y (Nat.le_of_ble_eq_true Y) Y ?_) (fun _ => .same _)
 unfold g_ref_PlaceOf at H
 refine as2 [(0, .g (GState.cs s0)), (1, .i user1), (2, .i owner2), (3, .t name3)] [] Y Y Y ?_
 refine sg [0, 1, 2] Y ?_
 refine r_op Y Y (MakeD.opD (n_box 4 Y Y) Y Y Y Y) ?_
 refine rp Y Y (p_asg Y Y) ?_
 refine rp Y Y (p_asg Y Y) ?_
 refine rz [(1, .i user1), (2, .i owner2), (3, .t name3), (4, .q 4 (0))] [(4, .pure (GState.cs s0))] Y Y Y ?_
 refine AW2_seq ?_
 refine sg [0, 1, 2] Y ?_
 refine rp Y Y (u_lda Y Y Tryd.underlying35 Y in_35 Y (Nat.succ_pos _) (Sub.refl _) (GState.len s0)) ?_
 refine bindK H fun r'1 h1 H => ?_
 refine rp Y Y (p_callp Y Y Y Tryd.func6 Y Y (g_ref_StateFault_ac h1) ⟨Y, trivial⟩) ?_
 refine rp Y Y (p_asg Y Y) ?_
 refine rz [(1, .i user1), (2, .i owner2), (3, .t name3), (4, .q 4 (0)), (10, .i r'1)] [(4, .pure (GState.cs s0))] Y Y Y ?_
 refine sg [0, 1] Y ?_
 refine rp Y Y (p_move Y Y) ?_
 refine rp Y Y (p_ine Y Y Y) ?_
 refine rz [(1, .i user1), (2, .i owner2), (3, .t name3), (4, .q 4 (0)), (10, .i r'1), (14, .b (decide (r'1 ≠ (0 : Int))))] [(4, .pure (GState.cs s0))] Y Y Y ?_
 refine AW2_if (p := r'1 ≠ (0 : Int)) Y (fun h2 => ?_) (fun h2 => ?_)
 ·replace H := ite_then h2 H
  refine sg [0, 1, 2] Y ?_
  refine rp Y Y (p_move Y Y) ?_
  refine rp Y Y (p_asg Y Y) ?_
  refine rp Y Y (p_asg Y Y) ?_
  refine rz [(8, .i (0 : Int)), (9, .i r'1)] [] Y Y Y ?_
  refine AW2_ret ?_
  have hz := some_elim H
  subst hz
  exact ⟨⟨res_tmp (.same _), res_tmp (.same _), trivial⟩, trivial⟩
 ·replace H := ite_else h2 H
  refine as2 [(1, .i user1), (2, .i owner2), (3, .t name3), (4, .q 4 (0))] [(4, .pure (GState.cs s0))] Y Y Y ?_
  refine AW2_skip ?_
  refine AW2_seq ?_
  refine AW2_seq ?_
  refine AW2_mid (⟨[(1, .i user1), (2, .i owner2), (3, .t name3), (4, .q 4 (0)), (21, .b (decide ((user1 < (0 : Int)) ∨ (user1 ≥ (3 : Int)))))], [(4, .pure (GState.cs s0))], 29⟩ : TS) ?_ ?_
  ·refine AW2_reg [0, 1, 2, 3, 4, 5] Y ?_
   refine rp Y Y (p_move Y Y) ?_
   refine rp Y Y (p_bin Y Y Y Y) ?_
   refine rp Y Y (p_move Y Y) ?_
   refine (Classical.em (user1 < (0 : Int))).elim (fun h3 => ?_) (fun h3 => ?_)
   ·refine r_off Y Y Y Y (dT h3) Y Y ?_
    refine r_off Y Y Y Y (dT h3) Y Y ?_
    refine rp Y Y (p_pkt Y Y (dT h3) (tb (dT (p := (user1 < (0 : Int)) ∨ (user1 ≥ (3 : Int))) (Or.inl h3)).symm)) ?_
    refine rs [(1, .i user1), (2, .i owner2), (3, .t name3), (4, .q 4 (0)), (21, .b (decide ((user1 < (0 : Int)) ∨ (user1 ≥ (3 : Int)))))] [(4, .pure (GState.cs s0))] Y Y Y ?_
    exact RunW_nil rfl
   ·refine r_on Y Y Y Y (dF h3) Y (PureD.opD (p_move Y Y)) ?_
    refine r_on Y Y Y Y (dF h3) Y (PureD.opD (p_bin Y Y Y Y)) ?_
    refine rp Y Y (p_pkf Y Y (dF h3) (tb ((or_l (p := user1 < (0 : Int)) (q := user1 ≥ (3 : Int)) h3)))) ?_
    refine rs [(1, .i user1), (2, .i owner2), (3, .t name3), (4, .q 4 (0)), (21, .b (decide ((user1 < (0 : Int)) ∨ (user1 ≥ (3 : Int)))))] [(4, .pure (GState.cs s0))] Y Y Y ?_
    exact RunW_nil rfl
  ·refine AW2_if (p := (user1 < (0 : Int)) ∨ (user1 ≥ (3 : Int))) Y (fun h4 => ?_) (fun h4 => ?_)
   ·replace H := ite_then h4 H
    refine sg [0, 1] Y ?_
    refine rp Y Y (p_asg Y Y) ?_
    refine rp Y Y (p_asg Y Y) ?_
    refine rz [(8, .i (0 : Int)), (9, .i (6 : Int))] [] Y Y Y ?_
    refine AW2_ret ?_
    have hz := some_elim H
    subst hz
    exact ⟨⟨res_tmp (.same _), res_tmp (.same _), trivial⟩, trivial⟩
   ·replace H := ite_else h4 H
    refine as2 [(1, .i user1), (2, .i owner2), (3, .t name3), (4, .q 4 (0))] [(4, .pure (GState.cs s0))] Y Y Y ?_
    refine AW2_skip ?_
    refine sg [0, 1, 2, 3, 4, 5, 6, 7, 8] Y ?_
    refine rp Y Y (u_lda Y Y Tryd.underlying35 Y in_35 Y (Nat.succ_pos _) (Sub.refl _) (GState.len s0)) ?_
    refine rp Y Y (p_move Y Y) ?_
    refine rp Y Y (p_move Y Y) ?_
    refine rp Y Y (p_move Y Y) ?_
    refine bindK H fun r'2 h5 H => ?_
    refine rp Y Y (p_callp Y Y Y Tryd.func16 Y Y (g_ref_placeOf_ac h5) ⟨Y, Y, Y, Y, trivial⟩) ?_
    refine rp Y Y (p_ext Y Y Y Y) ?_
    refine rp Y Y (p_ext Y Y Y Y) ?_
    refine rp Y Y (p_asg Y Y) ?_
    refine rp Y Y (p_asg Y Y) ?_
    refine rz [(8, .i r'2.1), (9, .i r'2.2)] [] Y Y Y ?_
    refine AW2_ret ?_
    have hz := some_elim H
    subst hz
    exact ⟨⟨res_tmp (.same _), res_tmp (.same _), trivial⟩, trivial⟩

/-! chirographlaw.DeedPlaces -/
noncomputable def g_law_DeedPlaces (s0 : GState) (user1 : Int) (owner2 : Int) (name3 : List UInt8) : Option (Bool) :=
  (g_deed_Place s0 user1 owner2 name3).bind fun r'1 => (g_ref_PlaceOf s0 user1 owner2 name3).bind fun r'2 => some (decide ((r'1.2 = r'2.2) ∧ (r'1.1 = r'2.1)))
set_option maxHeartbeats 4000000 in
set_option maxRecDepth 100000 in
theorem g_law_DeedPlaces_ac {s0 : GState} {user1 : Int} {owner2 : Int} {name3 : List UInt8} {r : Bool} (H : g_law_DeedPlaces s0 user1 owner2 name3 = some r) : ACp Tryd.prog 4 [(.agg (GState.cs s0)), (AV.int user1), (AV.int owner2), (AV.txt name3)] (AV.bool r) := by
 refine ACp_of (AC2_of_body (vs := [.b r]) Tryd.func4 Y Y (Nat.le_of_ble_eq_true Y) Y ?_) (fun _ => .same _)
 unfold g_law_DeedPlaces at H
 refine as2 [(0, .g (GState.cs s0)), (1, .i user1), (2, .i owner2), (3, .t name3)] [] Y Y Y ?_
 refine sg [0, 1] Y ?_
 refine r_op Y Y (MakeD.opD (n_box 4 Y Y) Y Y Y Y) ?_
 refine rp Y Y (p_asg Y Y) ?_
 refine rz [(1, .i user1), (2, .i owner2), (3, .t name3), (4, .q 4 (0))] [(4, .pure (GState.cs s0))] Y Y Y ?_
 refine sg [0, 1, 2, 3, 4, 5, 6, 7, 8, 9] Y ?_
 refine rp Y Y (u_lda Y Y Tryd.underlying35 Y in_35 Y (Nat.succ_pos _) (Sub.refl _) (GState.len s0)) ?_
 refine rp Y Y (p_move Y Y) ?_
 refine rp Y Y (p_move Y Y) ?_
 refine rp Y Y (p_move Y Y) ?_
 refine bindK H fun r'1 h1 H => ?_
 refine rp Y Y (p_callp Y Y Y Tryd.func7 Y Y (g_deed_Place_ac h1) ⟨Y, Y, Y, Y, trivial⟩) ?_
 refine rp Y Y (p_move Y Y) ?_
 refine rp Y Y (p_ext Y Y Y Y) ?_
 refine rp Y Y (p_ext Y Y Y Y) ?_
 refine rp Y Y (p_asg Y Y) ?_
 refine rp Y Y (p_asg Y Y) ?_
 refine rz [(1, .i user1), (2, .i owner2), (3, .t name3), (4, .q 4 (0)), (9, .i r'1.1), (10, .i r'1.2)] [(4, .pure (GState.cs s0))] Y Y Y ?_
 refine sg [0, 1, 2, 3, 4, 5, 6, 7, 8, 9] Y ?_
 refine rp Y Y (u_lda Y Y Tryd.underlying35 Y in_35 Y (Nat.succ_pos _) (Sub.refl _) (GState.len s0)) ?_
 refine rp Y Y (p_move Y Y) ?_
 refine rp Y Y (p_move Y Y) ?_
 refine rp Y Y (p_move Y Y) ?_
 refine bindK H fun r'2 h2 H => ?_
 refine rp Y Y (p_callp Y Y Y Tryd.func8 Y Y (g_ref_PlaceOf_ac h2) ⟨Y, Y, Y, Y, trivial⟩) ?_
 refine rp Y Y (p_move Y Y) ?_
 refine rp Y Y (p_ext Y Y Y Y) ?_
 refine rp Y Y (p_ext Y Y Y Y) ?_
 refine rp Y Y (p_asg Y Y) ?_
 refine rp Y Y (p_asg Y Y) ?_
 refine rz [(9, .i r'1.1), (10, .i r'1.2), (11, .i r'2.1), (12, .i r'2.2)] [] Y Y Y ?_
 refine AW2_seq ?_
 refine AW2_mid (⟨[(8, .b (decide ((r'1.2 = r'2.2) ∧ (r'1.1 = r'2.1))))], [], 37⟩ : TS) ?_ ?_
 ·refine AW2_reg [0, 1, 2, 3, 4, 5, 6, 7, 8] Y ?_
  refine rp Y Y (p_move Y Y) ?_
  refine rp Y Y (p_move Y Y) ?_
  refine rp Y Y (p_ieq Y Y Y) ?_
  refine rp Y Y (p_move Y Y) ?_
  refine (Classical.em (r'1.2 = r'2.2)).elim (fun h3 => ?_) (fun h3 => ?_)
  ·refine r_on Y Y Y Y (dT h3) Y (PureD.opD (p_move Y Y)) ?_
   refine r_on Y Y Y Y (dT h3) Y (PureD.opD (p_move Y Y)) ?_
   refine r_on Y Y Y Y (dT h3) Y (PureD.opD (p_ieq Y Y Y)) ?_
   refine rp Y Y (p_pkt Y Y (dT h3) (tb ((and_l (p := r'1.2 = r'2.2) (q := r'1.1 = r'2.1) h3)))) ?_
   refine rp Y Y (p_asg Y Y) ?_
   refine rs [(8, .b (decide ((r'1.2 = r'2.2) ∧ (r'1.1 = r'2.1))))] [] Y Y Y ?_
   exact RunW_nil rfl
  ·refine r_off Y Y Y Y (dF h3) Y Y ?_
   refine r_off Y Y Y Y (dF h3) Y Y ?_
   refine r_off Y Y Y Y (dF h3) Y Y ?_
   refine rp Y Y (p_pkf Y Y (dF h3) (tb (dF (p := (r'1.2 = r'2.2) ∧ (r'1.1 = r'2.1)) (fun x => h3 x.1)).symm)) ?_
   refine rp Y Y (p_asg Y Y) ?_
   refine rs [(8, .b (decide ((r'1.2 = r'2.2) ∧ (r'1.1 = r'2.1))))] [] Y Y Y ?_
   exact RunW_nil rfl
 ·refine AW2_ret ?_
  have hz := some_elim H
  subst hz
  exact ⟨⟨res_tmp (.same _), trivial⟩, trivial⟩
end Go.Proofs.YtpgimlllchibnaaDoor.VM
