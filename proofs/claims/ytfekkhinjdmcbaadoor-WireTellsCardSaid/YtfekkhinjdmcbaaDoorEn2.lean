/- Functions of the program, as they answer, and that their code comes to these answers. -/
import Derived.Test.YtfekkhinjdmcbaaDoorEn1
namespace Go.Proofs.YtfekkhinjdmcbaaDoor.VM
open Go Go.RowKit



/-! code.Decode$1 -/
def g_code_Decode_1_i0_r4 : List (List (Nat × Option Nat)) := [[(1, none)], [(0, none)], [(12, some 1)], [(11, some 0), (13, some 2)], [(14, some 3)], [(2, none)]]
def g_code_Decode_1_i0_r4c : List (List Nat) := [[], [], [1], [0, 1, 2], [0, 1, 2, 3], [], [0, 1, 2, 3, 4, 5], [0, 1, 2, 3, 4, 5, 6], [0, 1, 2, 3, 4, 5, 6, 7]]
noncomputable def g_code_Decode_1_i0 (t0 : Int) (t1 : List UInt8) (t2 : UInt8) : Option (UInt8 × Bool × Int × (List UInt8) × UInt8) :=
  (if t0 ≥ (t1.length : Int) then some ((0 : UInt8), false, t0, t1, t2) else if 0 ≤ w64 ((w64 (t0 + (1 : Int))) - (1 : Int)) ∧ w64 ((w64 (t0 + (1 : Int))) - (1 : Int)) < (t1.length : Int) then some ((lrd t1 ((w64 ((w64 (t0 + (1 : Int))) - (1 : Int))).toNat)) ^^^ t2, true, w64 (t0 + (1 : Int)), t1, t2) else none)
set_option maxHeartbeats 4000000 in
set_option maxRecDepth 100000 in
theorem g_code_Decode_1_i0_ac2 {t0 : Int} {t1 : List UInt8} {t2 : UInt8} {r : UInt8 × Bool × Int × (List UInt8) × UInt8} (H : g_code_Decode_1_i0 t0 t1 t2 = some r) : AC2 Tryd.prog 53 [.q 2000 0, .q 2001 0, .q 2002 0] [(2000, .pure ([(AV.int t0)])), (2001, .pure ([(AV.bytes t1)])), (2002, .pure ([(AV.b8 t2)]))] (retV [.p (AV.b8 r.1), .b r.2.1]) [(2000, .pure ([(AV.int r.2.2.1)])), (2001, .pure ([(AV.bytes r.2.2.2.1)])), (2002, .pure ([(AV.b8 r.2.2.2.2)]))] := by
 refine AC2_of_body (vs := [.p (AV.b8 r.1), .b r.2.1]) Tryd.func53 Y Y (Nat.le_of_ble_eq_true Y) Y ?_
 unfold g_code_Decode_1_i0 at H
 refine as2 [(0, .q 2000 (0)), (1, .q 2001 (0)), (2, .q 2002 (0))] [(2000, .pure ([(AV.int t0)])), (2001, .pure ([(AV.bytes t1)])), (2002, .pure ([(AV.b8 t2)]))] Y Y Y ?_
 refine sg [0, 1] Y ?_
 refine rp Y Y (p_asg Y Y) ?_
 refine rp Y Y (p_asg Y Y) ?_
 refine rz [(0, .q 2000 (0)), (1, .q 2001 (0)), (2, .q 2002 (0))] [(2000, .pure ([(AV.int t0)])), (2001, .pure ([(AV.bytes t1)])), (2002, .pure ([(AV.b8 t2)]))] Y Y Y ?_
 refine AW2_seq ?_
 refine sg [0, 1, 2, 3] Y ?_
 refine rp Y Y (u_ld Y Y Tryd.underlying3 Y Y (Sub.refl _)) ?_
 refine rp Y Y (u_ld Y Y Tryd.underlying33 Y Y (Sub.refl _)) ?_
 refine rp Y Y (p_lenl Y Tryd.underlying33 Y Y) ?_
 refine rp Y Y (p_bin Y Y Y Y) ?_
 refine rz [(0, .q 2000 (0)), (1, .q 2001 (0)), (2, .q 2002 (0)), (8, .b (decide (t0 ≥ (t1.length : Int))))] [(2000, .pure ([(AV.int t0)])), (2001, .pure ([(AV.bytes t1)])), (2002, .pure ([(AV.b8 t2)]))] Y Y Y ?_
 refine AW2_if (p := t0 ≥ (t1.length : Int)) Y (fun h1 => ?_) (fun h1 => ?_)
 ·replace H := ite_then h1 H
  refine sg [0, 1] Y ?_
  refine rp Y Y (p_asg Y Y) ?_
  refine rp Y Y (p_asg Y Y) ?_
  refine rz [(3, .p (AV.b8 (0 : UInt8))), (4, .b false)] [(2000, .pure ([(AV.int t0)])), (2001, .pure ([(AV.bytes t1)])), (2002, .pure ([(AV.b8 t2)]))] Y Y Y ?_
  refine AW2_ret ?_
  have hz := some_elim H
  subst hz
  exact ⟨⟨res_tmp (.same _), res_tmp (.same _), trivial⟩, ⟨Y, Y, Y, trivial⟩⟩
 ·replace H := ite_else h1 H
  refine as2 [(0, .q 2000 (0)), (1, .q 2001 (0)), (2, .q 2002 (0))] [(2000, .pure ([(AV.int t0)])), (2001, .pure ([(AV.bytes t1)])), (2002, .pure ([(AV.b8 t2)]))] Y Y Y ?_
  refine AW2_skip ?_
  refine sg [0, 1, 2] Y ?_
  refine rp Y Y (u_ld Y Y Tryd.underlying3 Y Y (Sub.refl _)) ?_
  refine rp Y Y (p_bin Y Y Y Y) ?_
  refine r_op Y Y (u_st Y Y Y Y Y in_3 Y (List.cons_ne_nil _ _) (Upd.refl (rfl.trans rfl.symm))) ?_
  refine rz [(0, .q 2000 (0)), (1, .q 2001 (0)), (2, .q 2002 (0))] [(2000, .pure ([(AV.int (w64 (t0 + (1 : Int))))])), (2001, .pure ([(AV.bytes t1)])), (2002, .pure ([(AV.b8 t2)]))] Y Y Y ?_
  refine AW2_seq ?_
  refine chkK H fun h2 H => ?_
  refine AW2_ghoQ ?_
  refine AW2_draw 6 [6, 7, 8] (fun k => ([.y t1, .i (w64 (t0 + (1 : Int))), .i (w64 ((w64 (t0 + (1 : Int))) - (1 : Int))), .p (.rptr (bcells t1) (((w64 ((w64 (t0 + (1 : Int))) - (1 : Int))).toNat) * 1)), .p (AV.b8 (lrd t1 ((w64 ((w64 (t0 + (1 : Int))) - (1 : Int))).toNat))), .p (AV.b8 t2)] : List TV).getD k TV.any) (fun k => g_code_Decode_1_i0_r4.getD k []) [(15, some 4), (16, some 5)] [] (fun k => g_code_Decode_1_i0_r4c.getD k []) mixed (by kernel_rfl) Y Y (a_op (g_x Y (x_p Y (u_ld Y Y Tryd.underlying33 Y Y (Sub.refl _)) Y)) (a_op (g_x Y (x_p Y (u_ld Y Y Tryd.underlying3 Y Y (Sub.refl _)) Y)) (a_op (g_x Y (x_p Y (p_bin Y Y Y Y) Y)) (a_op (g_x Y (x_p Y (u_ixl Y Y Tryd.underlying33 in_5 Y Y (ixe h2) (ixn h2) (lne (ixn h2))) Y)) (a_op (g_x Y (x_p Y (u_ld Y Y Tryd.underlying5 Y Y (Sub.map default (ixn h2))) Y)) (a_op (g_x Y (x_p Y (u_ld Y Y Tryd.underlying5 Y Y (Sub.refl _)) Y)) (a_nil))))))) ?_
  refine t_op Y Y (PureD.opD (p_u8xor (a := (lrd t1 ((w64 ((w64 (t0 + (1 : Int))) - (1 : Int))).toNat))) (b := t2) Y Y Y)) ?_
  refine t_op Y Y (PureD.opD (p_asg Y Y)) ?_
  refine t_op Y Y (PureD.opD (p_asg Y Y)) ?_
  refine t_gho (Gho_st (L := [(3, .p (AV.b8 ((lrd t1 ((w64 ((w64 (t0 + (1 : Int))) - (1 : Int))).toNat)) ^^^ t2))), (4, .b true)]) (H := [(2000, .pure ([(AV.int (w64 (t0 + (1 : Int))))])), (2001, .pure ([(AV.bytes t1)])), (2002, .pure ([(AV.b8 t2)]))]) (N := 18) Y ⟨TLes.same _, TLes.same _, trivial⟩ ⟨Y, Y, Y, trivial⟩) ?_
  refine AW2_ret ?_
  have hz := some_elim H
  subst hz
  exact ⟨⟨res_tmp (.same _), res_tmp (.same _), trivial⟩, ⟨Y, Y, Y, trivial⟩⟩

/-! code.text -/
noncomputable def g_code_text_i0_l0 : (List UInt8) × Int × (List UInt8) × UInt8 → Option (((List UInt8) × Int × (List UInt8) × UInt8) ⊕ (((List UInt8) × Int × Int × (List UInt8) × UInt8) ⊕ ((List UInt8) × Int × (List UInt8) × UInt8)))
  | (s4_0, t2100_0, t2101_0, t2102_0) => (g_code_Decode_1_i0 t2100_0 t2101_0 t2102_0).bind fun r'1 => (if (!r'1.2.1) = true then some (.inr (.inl ([], (4 : Int), r'1.2.2.1, r'1.2.2.2.1, r'1.2.2.2.2))) else (show Option ((((List UInt8) × Int × Int × (List UInt8) × UInt8) ⊕ (Int × (List UInt8) × UInt8)) ⊕ (Int × (List UInt8) × UInt8)) from (if r'1.1 = (0 : UInt8) then (g_code_Decode_1_i0 r'1.2.2.1 r'1.2.2.2.1 r'1.2.2.2.2).bind fun r'5 => (if (!r'5.2.1) = true then some (.inl (.inl ([], (4 : Int), r'5.2.2.1, r'5.2.2.2.1, r'5.2.2.2.2))) else (if r'5.1 = (1 : UInt8) then some (.inl (.inr (r'5.2.2.1, r'5.2.2.2.1, r'5.2.2.2.2))) else (if r'5.1 ≠ (255 : UInt8) then some (.inl (.inl ([], (3 : Int), r'5.2.2.1, r'5.2.2.2.1, r'5.2.2.2.2))) else some (.inr (r'5.2.2.1, r'5.2.2.2.1, r'5.2.2.2.2))))) else some (.inr (r'1.2.2.1, r'1.2.2.2.1, r'1.2.2.2.2)))).bind fun o'8 => match o'8 with | .inl (.inl y'6) => some (.inr (.inl y'6)) | .inl (.inr (y'7)) => some (.inr (.inr (s4_0, y'7.1, y'7.2.1, y'7.2.2))) | .inr j'2 => (if (s4_0.length : Int) = (40 : Int) then some (.inr (.inl ([], (1 : Int), j'2.1, j'2.2.1, j'2.2.2))) else if room (s4_0.length + ([r'1.1] : List UInt8).length) 1 then some (.inl (s4_0 ++ ([r'1.1] : List UInt8), j'2.1, j'2.2.1, j'2.2.2)) else none))
noncomputable def g_code_text_i0 (next0c0 : Int) (next0c1 : List UInt8) (next0c2 : UInt8) : Option ((List UInt8) × Int × Int × (List UInt8) × UInt8) :=
  (loopO (g_code_text_i0_l0) (([] : List UInt8), next0c0, next0c1, next0c2)).bind fun o'13 => match o'13 with | .inl y'14 => some y'14 | .inr (y'15) => (g_utf8_Valid y'15.1).bind fun r'16 => (if (!r'16) = true then some ([], (3 : Int), y'15.2.1, y'15.2.2.1, y'15.2.2.2) else some (y'15.1, (0 : Int), y'15.2.1, y'15.2.2.1, y'15.2.2.2))
set_option maxHeartbeats 4000000 in
set_option maxRecDepth 100000 in
theorem g_code_text_i0_ac2 {next0c0 : Int} {next0c1 : List UInt8} {next0c2 : UInt8} {r : (List UInt8) × Int × Int × (List UInt8) × UInt8} (H : g_code_text_i0 next0c0 next0c1 next0c2 = some r) : AC2 Tryd.prog 75 [.clo 53 [.ptr 2100 0, .ptr 2101 0, .ptr 2102 0]] [(2100, .pure ([(AV.int next0c0)])), (2101, .pure ([(AV.bytes next0c1)])), (2102, .pure ([(AV.b8 next0c2)]))] (retV [.t r.1, .i r.2.1]) [(2100, .pure ([(AV.int r.2.2.1)])), (2101, .pure ([(AV.bytes r.2.2.2.1)])), (2102, .pure ([(AV.b8 r.2.2.2.2)]))] := by
 refine AC2_of_body (vs := [.t r.1, .i r.2.1]) Tryd.func75 Y Y (Nat.le_of_ble_eq_true Y) Y ?_
 unfold g_code_text_i0 at H
 refine AW2_st [(0, .clo 53 [(.ptr 2100 (0)), (.ptr 2101 (0)), (.ptr 2102 (0))])] [(2100, .pure ([(AV.int next0c0)])), (2101, .pure ([(AV.bytes next0c1)])), (2102, .pure ([(AV.b8 next0c2)]))] Y ⟨(fun _ => .same _), trivial⟩ ⟨Y, Y, Y, trivial⟩ ?_
 refine sg [0, 1] Y ?_
 refine rp Y Y (p_asg Y Y) ?_
 refine rp Y Y (p_asg Y Y) ?_
 refine RunW_st [(0, .clo 53 [(.ptr 2100 (0)), (.ptr 2101 (0)), (.ptr 2102 (0))])] [(2100, .pure ([(AV.int next0c0)])), (2101, .pure ([(AV.bytes next0c1)])), (2102, .pure ([(AV.b8 next0c2)]))] Y ⟨(fun _ => .same _), trivial⟩ ⟨Y, Y, Y, trivial⟩ ?_
 refine RunW_nil ?_
 refine sg [0] Y ?_
 refine rp Y Y (p_asgn Y) ?_
 refine RunW_st [(0, .clo 53 [(.ptr 2100 (0)), (.ptr 2101 (0)), (.ptr 2102 (0))]), (4, .p .nil)] [(2100, .pure ([(AV.int next0c0)])), (2101, .pure ([(AV.bytes next0c1)])), (2102, .pure ([(AV.b8 next0c2)]))] Y ⟨(fun _ => .same _), TLes.same _, trivial⟩ ⟨Y, Y, Y, trivial⟩ ?_
 refine RunW_nil ?_
 refine AW2_seq ?_
 refine AW2_block ?_
 refine AW2_st [(0, .clo 53 [(.ptr 2100 (0)), (.ptr 2101 (0)), (.ptr 2102 (0))]), (4, .p .nil)] [(2100, .pure ([(AV.int next0c0)])), (2101, .pure ([(AV.bytes next0c1)])), (2102, .pure ([(AV.b8 next0c2)]))] Y ⟨(fun _ => .same _), TLes.same _, trivial⟩ ⟨Y, Y, Y, trivial⟩ ?_
 refine AW2_gho (Gho_own (d := 4) (b := 4) (z := 1) Y Y Y Y) ?_
 refine AW2_st [(0, .clo 53 [(.ptr 2100 (0)), (.ptr 2101 (0)), (.ptr 2102 (0))]), (4, .c (.own 4 ([] : List UInt8).length 1))] [(4, .pure (bcells ([] : List UInt8))), (2100, .pure ([(AV.int next0c0)])), (2101, .pure ([(AV.bytes next0c1)])), (2102, .pure ([(AV.b8 next0c2)]))] Y ⟨(fun _ => .same _), TLes.own Y, trivial⟩ ⟨Y, Y, Y, Y, trivial⟩ ?_
 refine bindK H fun o'13 h11 H => ?_
 refine AW2_loopO (fun a'10 : (List UInt8) × Int × (List UInt8) × UInt8 => (⟨[(0, .clo 53 [(.ptr 2100 (0)), (.ptr 2101 (0)), (.ptr 2102 (0))]), (4, .c (.own 4 a'10.1.length 1))], [(4, .pure (bcells a'10.1)), (2100, .pure ([(AV.int a'10.2.1)])), (2101, .pure ([(AV.bytes a'10.2.2.1)])), (2102, .pure ([(AV.b8 a'10.2.2.2)]))], 41⟩ : TS)) (fun (o : ((List UInt8) × Int × Int × (List UInt8) × UInt8) ⊕ ((List UInt8) × Int × (List UInt8) × UInt8)) e s' => match o with | .inl y'11 => e = Go.Exit.ret ∧ ResAll Tryd.prog s' [ResultVar.tmp 2, ResultVar.tmp 3] [.t y'11.1, .i y'11.2.1] ∧ HFits s' [(2100, .pure ([(AV.int y'11.2.2.1)])), (2101, .pure ([(AV.bytes y'11.2.2.2.1)])), (2102, .pure ([(AV.b8 y'11.2.2.2.2)]))] | .inr (y'12) => e = Go.Exit.exit 0 ∧ s' = (⟨[(4, .c (.own 4 y'12.1.length 1))], [(4, .pure (bcells y'12.1)), (2100, .pure ([(AV.int y'12.2.1)])), (2101, .pure ([(AV.bytes y'12.2.2.1)])), (2102, .pure ([(AV.b8 y'12.2.2.2)]))], 41⟩ : TS)) h11 Y (fun a x hx => ?_) (fun e s' hs => ?_)
 ·clear H
  obtain ⟨s4_0, t2100_0, t2101_0, t2102_0⟩ := a
  have H := hx
  clear hx
  unfold g_code_text_i0_l0 at H
  refine AW2_block ?_
  refine sg [0, 1, 2, 3, 4, 5, 6] Y ?_
  refine rp Y Y (p_move Y Y) ?_
  refine bindK H fun r'1 h1 H => ?_
  refine r_op Y Y (d_callh [(2000, 2100), (2001, 2101), (2002, 2102)] Y Y Y Tryd.func53 Y Y (g_code_Decode_1_i0_ac2 h1) ⟨TLes.same _, TLes.same _, TLes.same _, trivial⟩ ⟨Y, Y, Y, trivial⟩ Y Y) ?_
  refine rp Y Y (p_move Y Y) ?_
  refine rp Y Y (p_ext2 Y Y Y Y) ?_
  refine rp Y Y (p_ext2 Y Y Y Y) ?_
  refine rp Y Y (p_asg Y Y) ?_
  refine rp Y Y (p_asg Y Y) ?_
  refine RunW_st [(0, .clo 53 [(.ptr 2100 (0)), (.ptr 2101 (0)), (.ptr 2102 (0))]), (4, .c (.own 4 s4_0.length 1)), (5, .p (AV.b8 r'1.1)), (6, .b r'1.2.1)] [(4, .pure (bcells s4_0)), (2100, .pure ([(AV.int r'1.2.2.1)])), (2101, .pure ([(AV.bytes r'1.2.2.2.1)])), (2102, .pure ([(AV.b8 r'1.2.2.2.2)]))] Y ⟨(fun _ => .same _), TLes.same _, TLes.same _, TLes.same _, trivial⟩ ⟨Y, Y, Y, Y, trivial⟩ ?_
  refine RunW_nil ?_
  refine AW2_seq ?_
  refine sg [0, 1] Y ?_
  refine rp Y Y (p_move Y Y) ?_
  refine rp Y Y (p_not Y Y) ?_
  refine RunW_st [(0, .clo 53 [(.ptr 2100 (0)), (.ptr 2101 (0)), (.ptr 2102 (0))]), (4, .c (.own 4 s4_0.length 1)), (5, .p (AV.b8 r'1.1)), (15, .b (!r'1.2.1))] [(4, .pure (bcells s4_0)), (2100, .pure ([(AV.int r'1.2.2.1)])), (2101, .pure ([(AV.bytes r'1.2.2.2.1)])), (2102, .pure ([(AV.b8 r'1.2.2.2.2)]))] Y ⟨(fun _ => .same _), TLes.same _, TLes.same _, TLes.same _, trivial⟩ ⟨Y, Y, Y, Y, trivial⟩ ?_
  refine RunW_nil ?_
  refine AW2_cond Y (fun h2 => ?_) (fun h2 => ?_)
  ·replace H := ite_then h2 H
   refine sg [0, 1] Y ?_
   refine rp Y Y (p_asg Y Y) ?_
   refine rp Y Y (p_asg Y Y) ?_
   refine rz [(2, .t []), (3, .i (4 : Int))] [(2100, .pure ([(AV.int r'1.2.2.1)])), (2101, .pure ([(AV.bytes r'1.2.2.2.1)])), (2102, .pure ([(AV.b8 r'1.2.2.2.2)]))] Y Y Y ?_
   refine AW2_ret ?_
   have hz := some_elim H
   subst hz
   exact ⟨Y, ⟨res_tmp (.same _), res_tmp (.same _), trivial⟩, ⟨Y, Y, Y, trivial⟩⟩
  ·replace H := ite_else (ne_true h2) H
   refine AW2_st [(0, .clo 53 [(.ptr 2100 (0)), (.ptr 2101 (0)), (.ptr 2102 (0))]), (4, .c (.own 4 s4_0.length 1)), (5, .p (AV.b8 r'1.1))] [(4, .pure (bcells s4_0)), (2100, .pure ([(AV.int r'1.2.2.1)])), (2101, .pure ([(AV.bytes r'1.2.2.2.1)])), (2102, .pure ([(AV.b8 r'1.2.2.2.2)]))] Y ⟨(fun _ => .same _), TLes.same _, TLes.same _, trivial⟩ ⟨Y, Y, Y, Y, trivial⟩ ?_
   refine AW2_skip ?_
   refine AW2_seq ?_
   refine bindK H fun o'8 h3 H => ?_
   refine AW2_join (fun j'2 : Int × (List UInt8) × UInt8 => (⟨[(0, .clo 53 [(.ptr 2100 (0)), (.ptr 2101 (0)), (.ptr 2102 (0))]), (4, .c (.own 4 s4_0.length 1)), (5, .p (AV.b8 r'1.1))], [(4, .pure (bcells s4_0)), (2100, .pure ([(AV.int j'2.1)])), (2101, .pure ([(AV.bytes j'2.2.1)])), (2102, .pure ([(AV.b8 j'2.2.2)]))], 41⟩ : TS)) (fun (o : ((List UInt8) × Int × Int × (List UInt8) × UInt8) ⊕ (Int × (List UInt8) × UInt8)) e s' => match o with | .inl y'3 => e = Go.Exit.ret ∧ ResAll Tryd.prog s' [ResultVar.tmp 2, ResultVar.tmp 3] [.t y'3.1, .i y'3.2.1] ∧ HFits s' [(2100, .pure ([(AV.int y'3.2.2.1)])), (2101, .pure ([(AV.bytes y'3.2.2.2.1)])), (2102, .pure ([(AV.b8 y'3.2.2.2.2)]))] | .inr (y'4) => e = Go.Exit.exit 0 ∧ s' = (⟨[(4, .c (.own 4 s4_0.length 1))], [(4, .pure (bcells s4_0)), (2100, .pure ([(AV.int y'4.1)])), (2101, .pure ([(AV.bytes y'4.2.1)])), (2102, .pure ([(AV.b8 y'4.2.2)]))], 41⟩ : TS)) (x := o'8) ?_ (fun j'2 hy => ?_) (fun z'9 e s' hy hs => ?_)
   ·clear H
    have H := h3
    clear h3
    refine sg [0, 1] Y ?_
    refine rp Y Y (p_move Y Y) ?_
    refine rp Y Y (p_u8eq (a := r'1.1) (b := (0 : UInt8)) Y Y Y) ?_
    refine RunW_st [(0, .clo 53 [(.ptr 2100 (0)), (.ptr 2101 (0)), (.ptr 2102 (0))]), (4, .c (.own 4 s4_0.length 1)), (5, .p (AV.b8 r'1.1)), (17, .b (decide (r'1.1 = (0 : UInt8))))] [(4, .pure (bcells s4_0)), (2100, .pure ([(AV.int r'1.2.2.1)])), (2101, .pure ([(AV.bytes r'1.2.2.2.1)])), (2102, .pure ([(AV.b8 r'1.2.2.2.2)]))] Y ⟨(fun _ => .same _), TLes.same _, TLes.same _, TLes.same _, trivial⟩ ⟨Y, Y, Y, Y, trivial⟩ ?_
    refine RunW_nil ?_
    refine AW2_if (p := r'1.1 = (0 : UInt8)) Y (fun h4 => ?_) (fun h4 => ?_)
    ·replace H := ite_then h4 H
     refine sg [0, 1, 2, 3, 4, 5, 6] Y ?_
     refine rp Y Y (p_move Y Y) ?_
     refine bindK H fun r'5 h5 H => ?_
     refine r_op Y Y (d_callh [(2000, 2100), (2001, 2101), (2002, 2102)] Y Y Y Tryd.func53 Y Y (g_code_Decode_1_i0_ac2 h5) ⟨TLes.same _, TLes.same _, TLes.same _, trivial⟩ ⟨Y, Y, Y, trivial⟩ Y Y) ?_
     refine rp Y Y (p_move Y Y) ?_
     refine rp Y Y (p_ext2 Y Y Y Y) ?_
     refine rp Y Y (p_ext2 Y Y Y Y) ?_
     refine rp Y Y (p_asg Y Y) ?_
     refine rp Y Y (p_asg Y Y) ?_
     refine RunW_st [(0, .clo 53 [(.ptr 2100 (0)), (.ptr 2101 (0)), (.ptr 2102 (0))]), (4, .c (.own 4 s4_0.length 1)), (5, .p (AV.b8 r'1.1)), (7, .p (AV.b8 r'5.1)), (8, .b r'5.2.1)] [(4, .pure (bcells s4_0)), (2100, .pure ([(AV.int r'5.2.2.1)])), (2101, .pure ([(AV.bytes r'5.2.2.2.1)])), (2102, .pure ([(AV.b8 r'5.2.2.2.2)]))] Y ⟨(fun _ => .same _), TLes.same _, TLes.same _, TLes.same _, TLes.same _, trivial⟩ ⟨Y, Y, Y, Y, trivial⟩ ?_
     refine RunW_nil ?_
     refine AW2_seq ?_
     refine sg [0, 1] Y ?_
     refine rp Y Y (p_move Y Y) ?_
     refine rp Y Y (p_not Y Y) ?_
     refine RunW_st [(0, .clo 53 [(.ptr 2100 (0)), (.ptr 2101 (0)), (.ptr 2102 (0))]), (4, .c (.own 4 s4_0.length 1)), (5, .p (AV.b8 r'1.1)), (7, .p (AV.b8 r'5.1)), (24, .b (!r'5.2.1))] [(4, .pure (bcells s4_0)), (2100, .pure ([(AV.int r'5.2.2.1)])), (2101, .pure ([(AV.bytes r'5.2.2.2.1)])), (2102, .pure ([(AV.b8 r'5.2.2.2.2)]))] Y ⟨(fun _ => .same _), TLes.same _, TLes.same _, TLes.same _, TLes.same _, trivial⟩ ⟨Y, Y, Y, Y, trivial⟩ ?_
     refine RunW_nil ?_
     refine AW2_cond Y (fun h6 => ?_) (fun h6 => ?_)
     ·replace H := ite_then h6 H
      refine sg [0, 1] Y ?_
      refine rp Y Y (p_asg Y Y) ?_
      refine rp Y Y (p_asg Y Y) ?_
      refine rz [(2, .t []), (3, .i (4 : Int))] [(2100, .pure ([(AV.int r'5.2.2.1)])), (2101, .pure ([(AV.bytes r'5.2.2.2.1)])), (2102, .pure ([(AV.b8 r'5.2.2.2.2)]))] Y Y Y ?_
      refine AW2_ret ?_
      have hz := some_elim H
      subst hz
      exact ⟨Y, ⟨res_tmp (.same _), res_tmp (.same _), trivial⟩, ⟨Y, Y, Y, trivial⟩⟩
     ·replace H := ite_else (ne_true h6) H
      refine AW2_st [(0, .clo 53 [(.ptr 2100 (0)), (.ptr 2101 (0)), (.ptr 2102 (0))]), (4, .c (.own 4 s4_0.length 1)), (5, .p (AV.b8 r'1.1)), (7, .p (AV.b8 r'5.1))] [(4, .pure (bcells s4_0)), (2100, .pure ([(AV.int r'5.2.2.1)])), (2101, .pure ([(AV.bytes r'5.2.2.2.1)])), (2102, .pure ([(AV.b8 r'5.2.2.2.2)]))] Y ⟨(fun _ => .same _), TLes.same _, TLes.same _, TLes.same _, trivial⟩ ⟨Y, Y, Y, Y, trivial⟩ ?_
      refine AW2_skip ?_
      refine AW2_seq ?_
      refine sg [0, 1] Y ?_
      refine rp Y Y (p_move Y Y) ?_
      refine rp Y Y (p_u8eq (a := r'5.1) (b := (1 : UInt8)) Y Y Y) ?_
      refine RunW_st [(0, .clo 53 [(.ptr 2100 (0)), (.ptr 2101 (0)), (.ptr 2102 (0))]), (4, .c (.own 4 s4_0.length 1)), (5, .p (AV.b8 r'1.1)), (7, .p (AV.b8 r'5.1)), (26, .b (decide (r'5.1 = (1 : UInt8))))] [(4, .pure (bcells s4_0)), (2100, .pure ([(AV.int r'5.2.2.1)])), (2101, .pure ([(AV.bytes r'5.2.2.2.1)])), (2102, .pure ([(AV.b8 r'5.2.2.2.2)]))] Y ⟨(fun _ => .same _), TLes.same _, TLes.same _, TLes.same _, TLes.same _, trivial⟩ ⟨Y, Y, Y, Y, trivial⟩ ?_
      refine RunW_nil ?_
      refine AW2_if (p := r'5.1 = (1 : UInt8)) Y (fun h7 => ?_) (fun h7 => ?_)
      ·replace H := ite_then h7 H
       refine as2 [(4, .c (.own 4 s4_0.length 1))] [(4, .pure (bcells s4_0)), (2100, .pure ([(AV.int r'5.2.2.1)])), (2101, .pure ([(AV.bytes r'5.2.2.2.1)])), (2102, .pure ([(AV.b8 r'5.2.2.2.2)]))] Y Y Y ?_
       refine AW2_exit ?_
       refine thenQ2_exit ?_
       have hz := some_elim H
       subst hz
       exact ⟨Y, Y⟩
      ·replace H := ite_else h7 H
       refine AW2_st [(0, .clo 53 [(.ptr 2100 (0)), (.ptr 2101 (0)), (.ptr 2102 (0))]), (4, .c (.own 4 s4_0.length 1)), (5, .p (AV.b8 r'1.1)), (7, .p (AV.b8 r'5.1))] [(4, .pure (bcells s4_0)), (2100, .pure ([(AV.int r'5.2.2.1)])), (2101, .pure ([(AV.bytes r'5.2.2.2.1)])), (2102, .pure ([(AV.b8 r'5.2.2.2.2)]))] Y ⟨(fun _ => .same _), TLes.same _, TLes.same _, TLes.same _, trivial⟩ ⟨Y, Y, Y, Y, trivial⟩ ?_
       refine AW2_skip ?_
       refine sg [0, 1] Y ?_
       refine rp Y Y (p_move Y Y) ?_
       refine rp Y Y (p_u8ne (a := r'5.1) (b := (255 : UInt8)) Y Y Y) ?_
       refine RunW_st [(0, .clo 53 [(.ptr 2100 (0)), (.ptr 2101 (0)), (.ptr 2102 (0))]), (4, .c (.own 4 s4_0.length 1)), (5, .p (AV.b8 r'1.1)), (28, .b (decide (r'5.1 ≠ (255 : UInt8))))] [(4, .pure (bcells s4_0)), (2100, .pure ([(AV.int r'5.2.2.1)])), (2101, .pure ([(AV.bytes r'5.2.2.2.1)])), (2102, .pure ([(AV.b8 r'5.2.2.2.2)]))] Y ⟨(fun _ => .same _), TLes.same _, TLes.same _, TLes.same _, trivial⟩ ⟨Y, Y, Y, Y, trivial⟩ ?_
       refine RunW_nil ?_
       refine AW2_if (p := r'5.1 ≠ (255 : UInt8)) Y (fun h8 => ?_) (fun h8 => ?_)
       ·replace H := ite_then h8 H
        refine sg [0, 1] Y ?_
        refine rp Y Y (p_asg Y Y) ?_
        refine rp Y Y (p_asg Y Y) ?_
        refine rz [(2, .t []), (3, .i (3 : Int))] [(2100, .pure ([(AV.int r'5.2.2.1)])), (2101, .pure ([(AV.bytes r'5.2.2.2.1)])), (2102, .pure ([(AV.b8 r'5.2.2.2.2)]))] Y Y Y ?_
        refine AW2_ret ?_
        have hz := some_elim H
        subst hz
        exact ⟨Y, ⟨res_tmp (.same _), res_tmp (.same _), trivial⟩, ⟨Y, Y, Y, trivial⟩⟩
       ·replace H := ite_else h8 H
        refine AW2_st [(0, .clo 53 [(.ptr 2100 (0)), (.ptr 2101 (0)), (.ptr 2102 (0))]), (4, .c (.own 4 s4_0.length 1)), (5, .p (AV.b8 r'1.1))] [(4, .pure (bcells s4_0)), (2100, .pure ([(AV.int r'5.2.2.1)])), (2101, .pure ([(AV.bytes r'5.2.2.2.1)])), (2102, .pure ([(AV.b8 r'5.2.2.2.2)]))] Y ⟨(fun _ => .same _), TLes.same _, TLes.same _, trivial⟩ ⟨Y, Y, Y, Y, trivial⟩ ?_
        refine AW2_skip ?_
        have hz := some_elim H
        subst hz
        exact ⟨Y, Y⟩
    ·replace H := ite_else h4 H
     refine AW2_st [(0, .clo 53 [(.ptr 2100 (0)), (.ptr 2101 (0)), (.ptr 2102 (0))]), (4, .c (.own 4 s4_0.length 1)), (5, .p (AV.b8 r'1.1))] [(4, .pure (bcells s4_0)), (2100, .pure ([(AV.int r'1.2.2.1)])), (2101, .pure ([(AV.bytes r'1.2.2.2.1)])), (2102, .pure ([(AV.b8 r'1.2.2.2.2)]))] Y ⟨(fun _ => .same _), TLes.same _, TLes.same _, trivial⟩ ⟨Y, Y, Y, Y, trivial⟩ ?_
     refine AW2_skip ?_
     have hz := some_elim H
     subst hz
     exact ⟨Y, Y⟩
   ·subst hy
    refine AW2_seq ?_
    refine sg [0, 1, 2] Y ?_
    refine rp Y Y (p_move Y Y) ?_
    refine rp Y Y (p_leno Y Tryd.underlying33 Y Y Y (bl s4_0) (by decide)) ?_
    refine rp Y Y (p_ieq Y Y Y) ?_
    refine RunW_st [(0, .clo 53 [(.ptr 2100 (0)), (.ptr 2101 (0)), (.ptr 2102 (0))]), (4, .c (.own 4 s4_0.length 1)), (5, .p (AV.b8 r'1.1)), (31, .b (decide ((s4_0.length : Int) = (40 : Int))))] [(4, .pure (bcells s4_0)), (2100, .pure ([(AV.int j'2.1)])), (2101, .pure ([(AV.bytes j'2.2.1)])), (2102, .pure ([(AV.b8 j'2.2.2)]))] Y ⟨(fun _ => .same _), TLes.same _, TLes.same _, TLes.same _, trivial⟩ ⟨Y, Y, Y, Y, trivial⟩ ?_
    refine RunW_nil ?_
    refine AW2_if (p := (s4_0.length : Int) = (40 : Int)) Y (fun h9 => ?_) (fun h9 => ?_)
    ·replace H := ite_then h9 H
     refine sg [0, 1] Y ?_
     refine rp Y Y (p_asg Y Y) ?_
     refine rp Y Y (p_asg Y Y) ?_
     refine rz [(2, .t []), (3, .i (1 : Int))] [(2100, .pure ([(AV.int j'2.1)])), (2101, .pure ([(AV.bytes j'2.2.1)])), (2102, .pure ([(AV.b8 j'2.2.2)]))] Y Y Y ?_
     refine AW2_ret ?_
     have hz := some_elim H
     subst hz
     exact ⟨Y, ⟨res_tmp (.same _), res_tmp (.same _), trivial⟩, ⟨Y, Y, Y, trivial⟩⟩
    ·replace H := ite_else h9 H
     refine AW2_st [(0, .clo 53 [(.ptr 2100 (0)), (.ptr 2101 (0)), (.ptr 2102 (0))]), (4, .c (.own 4 s4_0.length 1)), (5, .p (AV.b8 r'1.1))] [(4, .pure (bcells s4_0)), (2100, .pure ([(AV.int j'2.1)])), (2101, .pure ([(AV.bytes j'2.2.1)])), (2102, .pure ([(AV.b8 j'2.2.2)]))] Y ⟨(fun _ => .same _), TLes.same _, TLes.same _, trivial⟩ ⟨Y, Y, Y, Y, trivial⟩ ?_
     refine AW2_skip ?_
     refine AW2_reg [0, 1, 2, 3, 4] Y ?_
     refine rp Y Y (p_move Y Y) ?_
     refine rp Y Y (p_move Y Y) ?_
     refine r_op Y Y (MakeD.opD (u_bs 34 Y Tryd.underlying33 in_5 Y one_5 (by decide) (by decide) Y Y Y) Y Y Y Y) ?_
     refine chkK H fun h10 H => ?_
     refine r_op Y Y (u_app [4, 32] Y Y Y Y Tryd.underlying33 Tryd.underlying33 in_5 Y Y Y (bl s4_0) (by decide) (srcT_o Y Y (bl ([r'1.1] : List UInt8)) (by decide)) (bl ([r'1.1] : List UInt8)) h10 (by decide) Y Y (bapp s4_0 ([r'1.1] : List UInt8)) (lapp s4_0 ([r'1.1] : List UInt8))) ?_
     refine rp Y Y (p_asg Y Y) ?_
     refine RunW_st [(0, .clo 53 [(.ptr 2100 (0)), (.ptr 2101 (0)), (.ptr 2102 (0))]), (4, .c (.own 4 (s4_0 ++ ([r'1.1] : List UInt8)).length 1))] [(4, .pure (bcells (s4_0 ++ ([r'1.1] : List UInt8)))), (2100, .pure ([(AV.int j'2.1)])), (2101, .pure ([(AV.bytes j'2.2.1)])), (2102, .pure ([(AV.b8 j'2.2.2)]))] Y ⟨(fun _ => .same _), TLes.same _, trivial⟩ ⟨Y, Y, Y, Y, trivial⟩ ?_
     refine RunW_nil ?_
     have hz := some_elim H
     subst hz
     exact ⟨Y, Y⟩
   ·subst hy
    rcases z'9 with y'6 | y'7
    ·obtain ⟨rfl, hs⟩ := hs
     have hz := some_elim H
     subst hz
     exact ⟨Y, hs.1, hs.2⟩
    ·obtain ⟨rfl, rfl⟩ := hs
     refine thenQ2_exit ?_
     refine blockQ2_pass (by decide) ?_
     have hz := some_elim H
     subst hz
     exact ⟨Y, Y⟩
 ·rcases o'13 with y'14 | y'15
  ·obtain ⟨rfl, hs⟩ := hs
   refine ⟨by simp, ?_⟩
   have hz := some_elim H
   subst hz
   exact ⟨hs.1, hs.2⟩
  ·obtain ⟨rfl, rfl⟩ := hs
   refine ⟨by simp, ?_⟩
   refine blockQ2_exit ?_
   refine AW2_seq ?_
   refine sg [0, 1, 2] Y ?_
   refine rp Y Y (p_move Y Y) ?_
   refine bindK H fun r'16 h12 H => ?_
   refine rp Y Y (p_calll Y Y Y Tryd.func87 Y Y (g_utf8_Valid_ac h12) Y ⟨lend_o Y Y Y (bl y'15.1) (by decide), trivial⟩) ?_
   refine rp Y Y (p_not Y Y) ?_
   refine rz [(4, .c (.own 4 y'15.1.length 1)), (38, .b (!r'16))] [(4, .pure (bcells y'15.1)), (2100, .pure ([(AV.int y'15.2.1)])), (2101, .pure ([(AV.bytes y'15.2.2.1)])), (2102, .pure ([(AV.b8 y'15.2.2.2)]))] Y Y Y ?_
   refine AW2_cond Y (fun h13 => ?_) (fun h13 => ?_)
   ·replace H := ite_then h13 H
    refine sg [0, 1] Y ?_
    refine rp Y Y (p_asg Y Y) ?_
    refine rp Y Y (p_asg Y Y) ?_
    refine rz [(2, .t []), (3, .i (3 : Int))] [(2100, .pure ([(AV.int y'15.2.1)])), (2101, .pure ([(AV.bytes y'15.2.2.1)])), (2102, .pure ([(AV.b8 y'15.2.2.2)]))] Y Y Y ?_
    refine AW2_ret ?_
    have hz := some_elim H
    subst hz
    exact ⟨⟨res_tmp (.same _), res_tmp (.same _), trivial⟩, ⟨Y, Y, Y, trivial⟩⟩
   ·replace H := ite_else (ne_true h13) H
    refine as2 [(4, .c (.own 4 y'15.1.length 1))] [(4, .pure (bcells y'15.1)), (2100, .pure ([(AV.int y'15.2.1)])), (2101, .pure ([(AV.bytes y'15.2.2.1)])), (2102, .pure ([(AV.b8 y'15.2.2.2)]))] Y Y Y ?_
    refine AW2_skip ?_
    refine sg [0, 1, 2, 3] Y ?_
    refine rp Y Y (p_move Y Y) ?_
    refine rp Y Y (p_cbo (bs := y'15.1) Y Y Tryd.underlying33 Tryd.underlying5 Tryd.underlying9 Y Y) ?_
    refine rp Y Y (p_asg Y Y) ?_
    refine rp Y Y (p_asg Y Y) ?_
    refine rz [(2, .t y'15.1), (3, .i (0 : Int))] [(2100, .pure ([(AV.int y'15.2.1)])), (2101, .pure ([(AV.bytes y'15.2.2.1)])), (2102, .pure ([(AV.b8 y'15.2.2.2)]))] Y Y Y ?_
    refine AW2_ret ?_
    have hz := some_elim H
    subst hz
    exact ⟨⟨res_tmp (.same _), res_tmp (.same _), trivial⟩, ⟨Y, Y, Y, trivial⟩⟩

/-! code.read -/
noncomputable def g_code_read_i0_l0 : UInt64 × Int × Int × (List UInt8) × UInt8 → Option ((UInt64 × Int × Int × (List UInt8) × UInt8) ⊕ ((GValue × Int × Int × (List UInt8) × UInt8) ⊕ (UInt64 × Int × (List UInt8) × UInt8)))
  | (n9_0, t48_0, t2100_0, t2101_0, t2102_0) => (if t48_0 < (8 : Int) then (g_code_Decode_1_i0 t2100_0 t2101_0 t2102_0).bind fun r'7 => (if (!r'7.2.1) = true then some (.inr (.inl (GValue.zero, (4 : Int), r'7.2.2.1, r'7.2.2.2.1, r'7.2.2.2.2))) else some (.inl ((shl_u64 n9_0 8) ||| r'7.1.toUInt64, w64 (t48_0 + (1 : Int)), r'7.2.2.1, r'7.2.2.2.1, r'7.2.2.2.2))) else some (.inr (.inr (n9_0, t2100_0, t2101_0, t2102_0))))
noncomputable def g_code_read_i0 (next0c0 : Int) (next0c1 : List UInt8) (next0c2 : UInt8) : Option (GValue × Int × Int × (List UInt8) × UInt8) :=
  (g_code_Decode_1_i0 next0c0 next0c1 next0c2).bind fun r'1 => (if (!r'1.2.1) = true then some (GValue.zero, (4 : Int), r'1.2.2.1, r'1.2.2.2.1, r'1.2.2.2.2) else (show Option ((GValue × Int × Int × (List UInt8) × UInt8) ⊕ (GValue × Int × (List UInt8) × UInt8)) from letO (({ GValue.zero with Kind := w64 ((r'1.1.toNat : Int) - (1 : Int)) }).Kind) fun t27'3 => (if t27'3 = (0 : Int) then some (.inl ({ GValue.zero with Kind := w64 ((r'1.1.toNat : Int) - (1 : Int)) }, (0 : Int), r'1.2.2.1, r'1.2.2.2.1, r'1.2.2.2.2)) else (if t27'3 = (1 : Int) then (g_code_Decode_1_i0 r'1.2.2.1 r'1.2.2.2.1 r'1.2.2.2.2).bind fun r'4 => (if (!r'4.2.1) = true then some (.inl (GValue.zero, (4 : Int), r'4.2.2.1, r'4.2.2.2.1, r'4.2.2.2.2)) else letO ({ { GValue.zero with Kind := w64 ((r'1.1.toNat : Int) - (1 : Int)) } with Int_ := (r'4.1.toNat : Int) }) fun v6'5 => some (.inr (v6'5, r'4.2.2.1, r'4.2.2.2.1, r'4.2.2.2.2))) else ((if t27'3 = (2 : Int) then some (decide (t27'3 = (2 : Int))) else some (decide (t27'3 = (3 : Int))))).bind fun j'6 => (if j'6 = true then (loopO (g_code_read_i0_l0) ((0 : UInt64), (0 : Int), r'1.2.2.1, r'1.2.2.2.1, r'1.2.2.2.2)).bind fun o'11 => match o'11 with | .inl y'12 => some (.inl y'12) | .inr (y'13) => (if ({ GValue.zero with Kind := w64 ((r'1.1.toNat : Int) - (1 : Int)) }).Kind = (2 : Int) then letO ({ { GValue.zero with Kind := w64 ((r'1.1.toNat : Int) - (1 : Int)) } with Int_ := w64 ((y'13.1 ^^^ (9223372036854775808 : UInt64)).toNat : Int) }) fun v6'14 => some (.inr (v6'14, y'13.2.1, y'13.2.2.1, y'13.2.2.2)) else (g_code_back y'13.1).bind fun r'15 => letO ({ { GValue.zero with Kind := w64 ((r'1.1.toNat : Int) - (1 : Int)) } with Bits := r'15 }) fun v6'16 => some (.inr (v6'16, y'13.2.1, y'13.2.2.1, y'13.2.2.2))) else (if t27'3 = (4 : Int) then (g_code_text_i0 r'1.2.2.1 r'1.2.2.2.1 r'1.2.2.2.2).bind fun r'17 => (if r'17.2.1 ≠ (0 : Int) then some (.inl (GValue.zero, r'17.2.1, r'17.2.2.1, r'17.2.2.2.1, r'17.2.2.2.2)) else letO ({ { GValue.zero with Kind := w64 ((r'1.1.toNat : Int) - (1 : Int)) } with Text := r'17.1 }) fun v6'18 => some (.inr (v6'18, r'17.2.2.1, r'17.2.2.2.1, r'17.2.2.2.2))) else some (.inl (GValue.zero, (3 : Int), r'1.2.2.1, r'1.2.2.2.1, r'1.2.2.2.2))))))).bind fun o'21 => match o'21 with | .inl y'19 => some y'19 | .inr j'2 => (g_value_Check j'2.1).bind fun r'20 => (if r'20 ≠ (0 : Int) then some (GValue.zero, (3 : Int), j'2.2.1, j'2.2.2.1, j'2.2.2.2) else some (j'2.1, (0 : Int), j'2.2.1, j'2.2.2.1, j'2.2.2.2)))
set_option maxHeartbeats 4000000 in
set_option maxRecDepth 100000 in
theorem g_code_read_i0_ac2 {next0c0 : Int} {next0c1 : List UInt8} {next0c2 : UInt8} {r : GValue × Int × Int × (List UInt8) × UInt8} (H : g_code_read_i0 next0c0 next0c1 next0c2 = some r) : AC2 Tryd.prog 54 [.clo 53 [.ptr 2100 0, .ptr 2101 0, .ptr 2102 0]] [(2100, .pure ([(AV.int next0c0)])), (2101, .pure ([(AV.bytes next0c1)])), (2102, .pure ([(AV.b8 next0c2)]))] (retV [.g (GValue.cs r.1), .i r.2.1]) [(2100, .pure ([(AV.int r.2.2.1)])), (2101, .pure ([(AV.bytes r.2.2.2.1)])), (2102, .pure ([(AV.b8 r.2.2.2.2)]))] := by
 refine AC2_of_body (vs := [.g (GValue.cs r.1), .i r.2.1]) Tryd.func54 Y Y (Nat.le_of_ble_eq_true Y) Y ?_
 unfold g_code_read_i0 at H
 refine AW2_st [(0, .clo 53 [(.ptr 2100 (0)), (.ptr 2101 (0)), (.ptr 2102 (0))])] [(2100, .pure ([(AV.int next0c0)])), (2101, .pure ([(AV.bytes next0c1)])), (2102, .pure ([(AV.b8 next0c2)]))] Y ⟨(fun _ => .same _), trivial⟩ ⟨Y, Y, Y, trivial⟩ ?_
 refine sg [0, 1] Y ?_
 refine r_op Y Y (MakeD.opD (u_alloc 2 Y in_24 one_24 zc_24) Y Y Y Y) ?_
 refine rp Y Y (p_asg Y Y) ?_
 refine RunW_st [(0, .clo 53 [(.ptr 2100 (0)), (.ptr 2101 (0)), (.ptr 2102 (0))]), (2, .q 2 (0))] [(2, .pure (GValue.cs GValue.zero)), (2100, .pure ([(AV.int next0c0)])), (2101, .pure ([(AV.bytes next0c1)])), (2102, .pure ([(AV.b8 next0c2)]))] Y ⟨(fun _ => .same _), TLes.same _, trivial⟩ ⟨Y, Y, Y, Y, trivial⟩ ?_
 refine RunW_nil ?_
 refine sg [0, 1, 2, 3, 4, 5, 6] Y ?_
 refine rp Y Y (p_move Y Y) ?_
 refine bindK H fun r'1 h1 H => ?_
 refine r_op Y Y (d_callh [(2000, 2100), (2001, 2101), (2002, 2102)] Y Y Y Tryd.func53 Y Y (g_code_Decode_1_i0_ac2 h1) ⟨TLes.same _, TLes.same _, TLes.same _, trivial⟩ ⟨Y, Y, Y, trivial⟩ Y Y) ?_
 refine rp Y Y (p_move Y Y) ?_
 refine rp Y Y (p_ext2 Y Y Y Y) ?_
 refine rp Y Y (p_ext2 Y Y Y Y) ?_
 refine rp Y Y (p_asg Y Y) ?_
 refine rp Y Y (p_asg Y Y) ?_
 refine RunW_st [(0, .clo 53 [(.ptr 2100 (0)), (.ptr 2101 (0)), (.ptr 2102 (0))]), (2, .q 2 (0)), (4, .p (AV.b8 r'1.1)), (5, .b r'1.2.1)] [(2, .pure (GValue.cs GValue.zero)), (2100, .pure ([(AV.int r'1.2.2.1)])), (2101, .pure ([(AV.bytes r'1.2.2.2.1)])), (2102, .pure ([(AV.b8 r'1.2.2.2.2)]))] Y ⟨(fun _ => .same _), TLes.same _, TLes.same _, TLes.same _, trivial⟩ ⟨Y, Y, Y, Y, trivial⟩ ?_
 refine RunW_nil ?_
 refine AW2_seq ?_
 refine sg [0, 1] Y ?_
 refine rp Y Y (p_move Y Y) ?_
 refine rp Y Y (p_not Y Y) ?_
 refine RunW_st [(0, .clo 53 [(.ptr 2100 (0)), (.ptr 2101 (0)), (.ptr 2102 (0))]), (2, .q 2 (0)), (4, .p (AV.b8 r'1.1)), (20, .b (!r'1.2.1))] [(2, .pure (GValue.cs GValue.zero)), (2100, .pure ([(AV.int r'1.2.2.1)])), (2101, .pure ([(AV.bytes r'1.2.2.2.1)])), (2102, .pure ([(AV.b8 r'1.2.2.2.2)]))] Y ⟨(fun _ => .same _), TLes.same _, TLes.same _, TLes.same _, trivial⟩ ⟨Y, Y, Y, Y, trivial⟩ ?_
 refine RunW_nil ?_
 refine AW2_cond Y (fun h2 => ?_) (fun h2 => ?_)
 ·replace H := ite_then h2 H
  refine sg [0, 1, 2] Y ?_
  refine rp Y Y (u_bld Y in_24 one_24 zc_24 pl_24 Y Y) ?_
  refine r_op Y Y (u_st Y Y Y Y Y in_24 (GValue.len GValue.zero) (nl (GValue.len GValue.zero)) (Upd.refl ((GValue.len GValue.zero).trans (GValue.len GValue.zero).symm))) ?_
  refine rp Y Y (p_asg Y Y) ?_
  refine rz [(2, .q 2 (0)), (3, .i (4 : Int))] [(2, .pure (GValue.cs GValue.zero)), (2100, .pure ([(AV.int r'1.2.2.1)])), (2101, .pure ([(AV.bytes r'1.2.2.2.1)])), (2102, .pure ([(AV.b8 r'1.2.2.2.2)]))] Y Y Y ?_
  refine AW2_ret ?_
  have hz := some_elim H
  subst hz
  exact ⟨⟨res_cella Tryd.underlying24 Y in_24.sz Y (Sub.le (Sub.refl _) (GValue.len GValue.zero)) (by decide) (Sub.take (Sub.refl _) (GValue.len GValue.zero)), res_tmp (.same _), trivial⟩, ⟨Y, Y, Y, trivial⟩⟩
 ·replace H := ite_else (ne_true h2) H
  refine AW2_st [(0, .clo 53 [(.ptr 2100 (0)), (.ptr 2101 (0)), (.ptr 2102 (0))]), (2, .q 2 (0)), (4, .p (AV.b8 r'1.1))] [(2, .pure (GValue.cs GValue.zero)), (2100, .pure ([(AV.int r'1.2.2.1)])), (2101, .pure ([(AV.bytes r'1.2.2.2.1)])), (2102, .pure ([(AV.b8 r'1.2.2.2.2)]))] Y ⟨(fun _ => .same _), TLes.same _, TLes.same _, trivial⟩ ⟨Y, Y, Y, Y, trivial⟩ ?_
  refine AW2_skip ?_
  refine sg [0, 1, 2, 3, 4, 5] Y ?_
  refine rp Y Y (p_move Y Y) ?_
  refine rp Y Y (p_ci Y Tryd.underlying5 Tryd.underlying3 Y (wrapu8i r'1.1)) ?_
  refine rp Y Y (p_bin Y Y Y Y) ?_
  refine rp Y Y (u_bld Y in_24 one_24 zc_24 pl_24 Y (af_cons Y Y (GValue.upd0 GValue.zero (w64 ((r'1.1.toNat : Int) - (1 : Int)))) Y)) ?_
  refine r_op Y Y (MakeD.opD (u_alloc 6 Y in_24 one_24 zc_24) Y Y Y Y) ?_
  refine r_op Y Y (u_st Y Y Y Y Y in_24 (GValue.len ((GValue.w0 GValue.zero (w64 ((r'1.1.toNat : Int) - (1 : Int)))))) (nl (GValue.len GValue.zero)) (Upd.refl ((GValue.len ((GValue.w0 GValue.zero (w64 ((r'1.1.toNat : Int) - (1 : Int)))))).trans (GValue.len GValue.zero).symm))) ?_
  refine RunW_st [(0, .clo 53 [(.ptr 2100 (0)), (.ptr 2101 (0)), (.ptr 2102 (0))]), (2, .q 2 (0)), (6, .q 6 (0))] [(2, .pure (GValue.cs GValue.zero)), (6, .pure (GValue.cs ((GValue.w0 GValue.zero (w64 ((r'1.1.toNat : Int) - (1 : Int))))))), (2100, .pure ([(AV.int r'1.2.2.1)])), (2101, .pure ([(AV.bytes r'1.2.2.2.1)])), (2102, .pure ([(AV.b8 r'1.2.2.2.2)]))] Y ⟨(fun _ => .same _), TLes.same _, TLes.same _, trivial⟩ ⟨Y, Y, Y, Y, Y, trivial⟩ ?_
  refine RunW_nil ?_
  refine AW2_seq ?_
  refine bindK H fun o'21 h3 H => ?_
  refine AW2_join (fun j'2 : GValue × Int × (List UInt8) × UInt8 => (⟨[(2, .q 2 (0)), (6, .q 6 (0))], [(2, .pure (GValue.cs GValue.zero)), (6, .pure (GValue.cs j'2.1)), (2100, .pure ([(AV.int j'2.2.1)])), (2101, .pure ([(AV.bytes j'2.2.2.1)])), (2102, .pure ([(AV.b8 j'2.2.2.2)]))], 92⟩ : TS)) (fun r e s' => e = Go.Exit.ret ∧ ResAll Tryd.prog s' [ResultVar.cell 2 24, ResultVar.tmp 3] [.g (GValue.cs r.1), .i r.2.1] ∧ HFits s' [(2100, .pure ([(AV.int r.2.2.1)])), (2101, .pure ([(AV.bytes r.2.2.2.1)])), (2102, .pure ([(AV.b8 r.2.2.2.2)]))]) (x := o'21) ?_ (fun j'2 hy => ?_) (fun y'19 e s' hy hs => ?_)
  ·clear H
   have H := h3
   clear h3
   refine sg [0, 1] Y ?_
   refine rp Y Y (u_fa Y Y Tryd.underlying24 Y in_3 nz Y Y (ne_of_lt (n := 0) (Nat.lt_of_lt_of_eq (by decide) (Eq.symm (GValue.len ((GValue.w0 GValue.zero (w64 ((r'1.1.toNat : Int) - (1 : Int)))))))))) ?_
   refine rp Y Y (u_ld Y Y Tryd.underlying3 Y Y ((Sub.refl _).trans (GValue.sub0 ((GValue.w0 GValue.zero (w64 ((r'1.1.toNat : Int) - (1 : Int)))))))) ?_
   refine RunW_st [(0, .clo 53 [(.ptr 2100 (0)), (.ptr 2101 (0)), (.ptr 2102 (0))]), (2, .q 2 (0)), (6, .q 6 (0)), (27, .i (((GValue.w0 GValue.zero (w64 ((r'1.1.toNat : Int) - (1 : Int))))).Kind))] [(2, .pure (GValue.cs GValue.zero)), (6, .pure (GValue.cs ((GValue.w0 GValue.zero (w64 ((r'1.1.toNat : Int) - (1 : Int))))))), (2100, .pure ([(AV.int r'1.2.2.1)])), (2101, .pure ([(AV.bytes r'1.2.2.2.1)])), (2102, .pure ([(AV.b8 r'1.2.2.2.2)]))] Y ⟨(fun _ => .same _), TLes.same _, TLes.same _, TLes.same _, trivial⟩ ⟨Y, Y, Y, Y, Y, trivial⟩ ?_
   refine RunW_nil ?_
   refine gen1 (fun t27'3 => (⟨[(0, .clo 53 [(.ptr 2100 (0)), (.ptr 2101 (0)), (.ptr 2102 (0))]), (2, .q 2 (0)), (6, .q 6 (0)), (27, .i t27'3)], [(2, .pure (GValue.cs GValue.zero)), (6, .pure (GValue.cs ((GValue.w0 GValue.zero (w64 ((r'1.1.toNat : Int) - (1 : Int))))))), (2100, .pure ([(AV.int r'1.2.2.1)])), (2101, .pure ([(AV.bytes r'1.2.2.2.1)])), (2102, .pure ([(AV.b8 r'1.2.2.2.2)]))], 92⟩ : TS)) H ?_
   intro t27'3 H
   refine AW2_block ?_
   refine sg [0, 1] Y ?_
   refine rp Y Y (p_ieq Y Y Y) ?_
   refine rp Y Y (p_asg Y Y) ?_
   refine RunW_st [(0, .clo 53 [(.ptr 2100 (0)), (.ptr 2101 (0)), (.ptr 2102 (0))]), (2, .q 2 (0)), (6, .q 6 (0)), (27, .i t27'3), (29, .b (decide (t27'3 = (0 : Int))))] [(2, .pure (GValue.cs GValue.zero)), (6, .pure (GValue.cs ((GValue.w0 GValue.zero (w64 ((r'1.1.toNat : Int) - (1 : Int))))))), (2100, .pure ([(AV.int r'1.2.2.1)])), (2101, .pure ([(AV.bytes r'1.2.2.2.1)])), (2102, .pure ([(AV.b8 r'1.2.2.2.2)]))] Y ⟨(fun _ => .same _), TLes.same _, TLes.same _, TLes.same _, TLes.same _, trivial⟩ ⟨Y, Y, Y, Y, Y, trivial⟩ ?_
   refine RunW_nil ?_
   refine AW2_if (p := t27'3 = (0 : Int)) Y (fun h4 => ?_) (fun h4 => ?_)
   ·replace H := ite_then h4 H
    refine sg [0, 1, 2] Y ?_
    refine rp Y Y (u_lda Y Y Tryd.underlying24 Y in_24 Y (Nat.succ_pos _) (Sub.refl _) (GValue.len ((GValue.w0 GValue.zero (w64 ((r'1.1.toNat : Int) - (1 : Int))))))) ?_
    refine r_op Y Y (u_st Y Y Y Y Y in_24 (GValue.len ((GValue.w0 GValue.zero (w64 ((r'1.1.toNat : Int) - (1 : Int)))))) (nl (GValue.len GValue.zero)) (Upd.refl ((GValue.len ((GValue.w0 GValue.zero (w64 ((r'1.1.toNat : Int) - (1 : Int)))))).trans (GValue.len GValue.zero).symm))) ?_
    refine rp Y Y (p_asg Y Y) ?_
    refine rz [(2, .q 2 (0)), (3, .i (0 : Int))] [(2, .pure (GValue.cs ((GValue.w0 GValue.zero (w64 ((r'1.1.toNat : Int) - (1 : Int))))))), (2100, .pure ([(AV.int r'1.2.2.1)])), (2101, .pure ([(AV.bytes r'1.2.2.2.1)])), (2102, .pure ([(AV.b8 r'1.2.2.2.2)]))] Y Y Y ?_
    refine AW2_ret ?_
    have hz := some_elim H
    subst hz
    exact ⟨Y, ⟨res_cella Tryd.underlying24 Y in_24.sz Y (Sub.le (Sub.refl _) (GValue.len ((GValue.w0 GValue.zero (w64 ((r'1.1.toNat : Int) - (1 : Int))))))) (by decide) (Sub.take (Sub.refl _) (GValue.len ((GValue.w0 GValue.zero (w64 ((r'1.1.toNat : Int) - (1 : Int))))))), res_tmp (.same _), trivial⟩, ⟨Y, Y, Y, trivial⟩⟩
   ·replace H := ite_else h4 H
    refine sg [0, 1] Y ?_
    refine rp Y Y (p_ieq Y Y Y) ?_
    refine rp Y Y (p_asg Y Y) ?_
    refine RunW_st [(0, .clo 53 [(.ptr 2100 (0)), (.ptr 2101 (0)), (.ptr 2102 (0))]), (2, .q 2 (0)), (6, .q 6 (0)), (27, .i t27'3), (32, .b (decide (t27'3 = (1 : Int))))] [(2, .pure (GValue.cs GValue.zero)), (6, .pure (GValue.cs ((GValue.w0 GValue.zero (w64 ((r'1.1.toNat : Int) - (1 : Int))))))), (2100, .pure ([(AV.int r'1.2.2.1)])), (2101, .pure ([(AV.bytes r'1.2.2.2.1)])), (2102, .pure ([(AV.b8 r'1.2.2.2.2)]))] Y ⟨(fun _ => .same _), TLes.same _, TLes.same _, TLes.same _, TLes.same _, trivial⟩ ⟨Y, Y, Y, Y, Y, trivial⟩ ?_
    refine RunW_nil ?_
    refine AW2_if (p := t27'3 = (1 : Int)) Y (fun h5 => ?_) (fun h5 => ?_)
    ·replace H := ite_then h5 H
     refine sg [0, 1, 2, 3, 4, 5, 6] Y ?_
     refine rp Y Y (p_move Y Y) ?_
     refine bindK H fun r'4 h6 H => ?_
     refine r_op Y Y (d_callh [(2000, 2100), (2001, 2101), (2002, 2102)] Y Y Y Tryd.func53 Y Y (g_code_Decode_1_i0_ac2 h6) ⟨TLes.same _, TLes.same _, TLes.same _, trivial⟩ ⟨Y, Y, Y, trivial⟩ Y Y) ?_
     refine rp Y Y (p_move Y Y) ?_
     refine rp Y Y (p_ext2 Y Y Y Y) ?_
     refine rp Y Y (p_ext2 Y Y Y Y) ?_
     refine rp Y Y (p_asg Y Y) ?_
     refine rp Y Y (p_asg Y Y) ?_
     refine rz [(2, .q 2 (0)), (6, .q 6 (0)), (7, .p (AV.b8 r'4.1)), (8, .b r'4.2.1)] [(2, .pure (GValue.cs GValue.zero)), (6, .pure (GValue.cs ((GValue.w0 GValue.zero (w64 ((r'1.1.toNat : Int) - (1 : Int))))))), (2100, .pure ([(AV.int r'4.2.2.1)])), (2101, .pure ([(AV.bytes r'4.2.2.2.1)])), (2102, .pure ([(AV.b8 r'4.2.2.2.2)]))] Y Y Y ?_
     refine AW2_seq ?_
     refine sg [0, 1] Y ?_
     refine rp Y Y (p_move Y Y) ?_
     refine rp Y Y (p_not Y Y) ?_
     refine rz [(2, .q 2 (0)), (6, .q 6 (0)), (7, .p (AV.b8 r'4.1)), (40, .b (!r'4.2.1))] [(2, .pure (GValue.cs GValue.zero)), (6, .pure (GValue.cs ((GValue.w0 GValue.zero (w64 ((r'1.1.toNat : Int) - (1 : Int))))))), (2100, .pure ([(AV.int r'4.2.2.1)])), (2101, .pure ([(AV.bytes r'4.2.2.2.1)])), (2102, .pure ([(AV.b8 r'4.2.2.2.2)]))] Y Y Y ?_
     refine AW2_cond Y (fun h7 => ?_) (fun h7 => ?_)
     ·replace H := ite_then h7 H
      refine sg [0, 1, 2] Y ?_
      refine rp Y Y (u_bld Y in_24 one_24 zc_24 pl_24 Y Y) ?_
      refine r_op Y Y (u_st Y Y Y Y Y in_24 (GValue.len GValue.zero) (nl (GValue.len GValue.zero)) (Upd.refl ((GValue.len GValue.zero).trans (GValue.len GValue.zero).symm))) ?_
      refine rp Y Y (p_asg Y Y) ?_
      refine rz [(2, .q 2 (0)), (3, .i (4 : Int))] [(2, .pure (GValue.cs GValue.zero)), (2100, .pure ([(AV.int r'4.2.2.1)])), (2101, .pure ([(AV.bytes r'4.2.2.2.1)])), (2102, .pure ([(AV.b8 r'4.2.2.2.2)]))] Y Y Y ?_
      refine AW2_ret ?_
      have hz := some_elim H
      subst hz
      exact ⟨Y, ⟨res_cella Tryd.underlying24 Y in_24.sz Y (Sub.le (Sub.refl _) (GValue.len GValue.zero)) (by decide) (Sub.take (Sub.refl _) (GValue.len GValue.zero)), res_tmp (.same _), trivial⟩, ⟨Y, Y, Y, trivial⟩⟩
     ·replace H := ite_else (ne_true h7) H
      refine as2 [(2, .q 2 (0)), (6, .q 6 (0)), (7, .p (AV.b8 r'4.1))] [(2, .pure (GValue.cs GValue.zero)), (6, .pure (GValue.cs ((GValue.w0 GValue.zero (w64 ((r'1.1.toNat : Int) - (1 : Int))))))), (2100, .pure ([(AV.int r'4.2.2.1)])), (2101, .pure ([(AV.bytes r'4.2.2.2.1)])), (2102, .pure ([(AV.b8 r'4.2.2.2.2)]))] Y Y Y ?_
      refine AW2_skip ?_
      refine AW2_reg [0, 1, 2, 3] Y ?_
      refine rp Y Y (p_move Y Y) ?_
      refine rp Y Y (p_ci Y Tryd.underlying5 Tryd.underlying3 Y (wrapu8i r'4.1)) ?_
      refine rp Y Y (u_fa Y Y Tryd.underlying24 Y in_3 nz Y Y (ne_of_lt (n := 0) (Nat.lt_of_lt_of_eq (by decide) (Eq.symm (GValue.len ((GValue.w0 GValue.zero (w64 ((r'1.1.toNat : Int) - (1 : Int)))))))))) ?_
      refine r_op Y Y (u_st Y Y Y Y Y in_3 Y (ne_of_lt (n := 0) (Nat.lt_of_lt_of_eq (by decide) (Eq.symm (GValue.len ((GValue.w0 GValue.zero (w64 ((r'1.1.toNat : Int) - (1 : Int))))))))) (Upd.trans (Sub.refl _) (GValue.upd1 ((GValue.w0 GValue.zero (w64 ((r'1.1.toNat : Int) - (1 : Int))))) (r'4.1.toNat : Int)) (Upd.refl ((GValue.len ((GValue.w1 (GValue.w0 GValue.zero (w64 ((r'1.1.toNat : Int) - (1 : Int)))) (r'4.1.toNat : Int)))).trans (GValue.len ((GValue.w0 GValue.zero (w64 ((r'1.1.toNat : Int) - (1 : Int)))))).symm)))) ?_
      refine rz [(2, .q 2 (0)), (6, .q 6 (0))] [(2, .pure (GValue.cs GValue.zero)), (6, .pure (GValue.cs ((GValue.w1 (GValue.w0 GValue.zero (w64 ((r'1.1.toNat : Int) - (1 : Int)))) (r'4.1.toNat : Int))))), (2100, .pure ([(AV.int r'4.2.2.1)])), (2101, .pure ([(AV.bytes r'4.2.2.2.1)])), (2102, .pure ([(AV.b8 r'4.2.2.2.2)]))] Y Y Y ?_
      refine gen1 (fun v6'5 => (⟨[(2, .q 2 (0)), (6, .q 6 (0))], [(2, .pure (GValue.cs GValue.zero)), (6, .pure (GValue.cs v6'5)), (2100, .pure ([(AV.int r'4.2.2.1)])), (2101, .pure ([(AV.bytes r'4.2.2.2.1)])), (2102, .pure ([(AV.b8 r'4.2.2.2.2)]))], 92⟩ : TS)) H ?_
      intro v6'5 H
      have hz := some_elim H
      subst hz
      exact ⟨Y, Y⟩
    ·replace H := ite_else h5 H
     refine AW2_seq ?_
     refine bindK H fun j'6 h8 H => ?_
     refine AW2_mid (⟨[(0, .clo 53 [(.ptr 2100 (0)), (.ptr 2101 (0)), (.ptr 2102 (0))]), (2, .q 2 (0)), (6, .q 6 (0)), (27, .i t27'3), (45, .b j'6)], [(2, .pure (GValue.cs GValue.zero)), (6, .pure (GValue.cs ((GValue.w0 GValue.zero (w64 ((r'1.1.toNat : Int) - (1 : Int))))))), (2100, .pure ([(AV.int r'1.2.2.1)])), (2101, .pure ([(AV.bytes r'1.2.2.2.1)])), (2102, .pure ([(AV.b8 r'1.2.2.2.2)]))], 92⟩ : TS) ?_ ?_
     ·clear H
      have H := h8
      clear h8
      refine sg [0, 1] Y ?_
      refine rp Y Y (p_ieq Y Y Y) ?_
      refine rp Y Y (p_asg Y Y) ?_
      refine RunW_st [(0, .clo 53 [(.ptr 2100 (0)), (.ptr 2101 (0)), (.ptr 2102 (0))]), (2, .q 2 (0)), (6, .q 6 (0)), (27, .i t27'3), (45, .b (decide (t27'3 = (2 : Int))))] [(2, .pure (GValue.cs GValue.zero)), (6, .pure (GValue.cs ((GValue.w0 GValue.zero (w64 ((r'1.1.toNat : Int) - (1 : Int))))))), (2100, .pure ([(AV.int r'1.2.2.1)])), (2101, .pure ([(AV.bytes r'1.2.2.2.1)])), (2102, .pure ([(AV.b8 r'1.2.2.2.2)]))] Y ⟨(fun _ => .same _), TLes.same _, TLes.same _, TLes.same _, TLes.same _, trivial⟩ ⟨Y, Y, Y, Y, Y, trivial⟩ ?_
      refine RunW_nil ?_
      refine AW2_if (p := t27'3 = (2 : Int)) Y (fun h9 => ?_) (fun h9 => ?_)
      ·replace H := ite_then h9 H
       refine AW2_skip ?_
       have hz := some_elim H
       subst hz
       exact rfl
      ·replace H := ite_else h9 H
       refine AW2_reg [0, 1] Y ?_
       refine rp Y Y (p_ieq Y Y Y) ?_
       refine rp Y Y (p_asg Y Y) ?_
       refine RunW_st [(0, .clo 53 [(.ptr 2100 (0)), (.ptr 2101 (0)), (.ptr 2102 (0))]), (2, .q 2 (0)), (6, .q 6 (0)), (27, .i t27'3), (45, .b (decide (t27'3 = (3 : Int))))] [(2, .pure (GValue.cs GValue.zero)), (6, .pure (GValue.cs ((GValue.w0 GValue.zero (w64 ((r'1.1.toNat : Int) - (1 : Int))))))), (2100, .pure ([(AV.int r'1.2.2.1)])), (2101, .pure ([(AV.bytes r'1.2.2.2.1)])), (2102, .pure ([(AV.b8 r'1.2.2.2.2)]))] Y ⟨(fun _ => .same _), TLes.same _, TLes.same _, TLes.same _, TLes.same _, trivial⟩ ⟨Y, Y, Y, Y, Y, trivial⟩ ?_
       refine RunW_nil ?_
       have hz := some_elim H
       subst hz
       exact rfl
     ·refine AW2_cond Y (fun h10 => ?_) (fun h10 => ?_)
      ·replace H := ite_then h10 H
       refine sg [0] Y ?_
       refine rp Y Y (p_asg Y Y) ?_
       refine RunW_st [(0, .clo 53 [(.ptr 2100 (0)), (.ptr 2101 (0)), (.ptr 2102 (0))]), (2, .q 2 (0)), (6, .q 6 (0)), (9, .p (AV.u64 (0 : UInt64)))] [(2, .pure (GValue.cs GValue.zero)), (6, .pure (GValue.cs ((GValue.w0 GValue.zero (w64 ((r'1.1.toNat : Int) - (1 : Int))))))), (2100, .pure ([(AV.int r'1.2.2.1)])), (2101, .pure ([(AV.bytes r'1.2.2.2.1)])), (2102, .pure ([(AV.b8 r'1.2.2.2.2)]))] Y ⟨(fun _ => .same _), TLes.same _, TLes.same _, TLes.same _, trivial⟩ ⟨Y, Y, Y, Y, Y, trivial⟩ ?_
       refine RunW_nil ?_
       refine AW2_seq ?_
       refine sg [0] Y ?_
       refine rp Y Y (p_move Y Y) ?_
       refine RunW_st [(0, .clo 53 [(.ptr 2100 (0)), (.ptr 2101 (0)), (.ptr 2102 (0))]), (2, .q 2 (0)), (6, .q 6 (0)), (9, .p (AV.u64 (0 : UInt64))), (48, .i (0 : Int))] [(2, .pure (GValue.cs GValue.zero)), (6, .pure (GValue.cs ((GValue.w0 GValue.zero (w64 ((r'1.1.toNat : Int) - (1 : Int))))))), (2100, .pure ([(AV.int r'1.2.2.1)])), (2101, .pure ([(AV.bytes r'1.2.2.2.1)])), (2102, .pure ([(AV.b8 r'1.2.2.2.2)]))] Y ⟨(fun _ => .same _), TLes.same _, TLes.same _, TLes.same _, TLes.same _, trivial⟩ ⟨Y, Y, Y, Y, Y, trivial⟩ ?_
       refine RunW_nil ?_
       refine AW2_block ?_
       refine AW2_st [(0, .clo 53 [(.ptr 2100 (0)), (.ptr 2101 (0)), (.ptr 2102 (0))]), (2, .q 2 (0)), (6, .q 6 (0)), (9, .p (AV.u64 (0 : UInt64))), (48, .i (0 : Int))] [(2, .pure (GValue.cs GValue.zero)), (6, .pure (GValue.cs ((GValue.w0 GValue.zero (w64 ((r'1.1.toNat : Int) - (1 : Int))))))), (2100, .pure ([(AV.int r'1.2.2.1)])), (2101, .pure ([(AV.bytes r'1.2.2.2.1)])), (2102, .pure ([(AV.b8 r'1.2.2.2.2)]))] Y ⟨(fun _ => .same _), TLes.same _, TLes.same _, TLes.same _, TLes.same _, trivial⟩ ⟨Y, Y, Y, Y, Y, trivial⟩ ?_
       refine bindK H fun o'11 h14 H => ?_
       refine AW2_loopO (fun a'8 : UInt64 × Int × Int × (List UInt8) × UInt8 => (⟨[(0, .clo 53 [(.ptr 2100 (0)), (.ptr 2101 (0)), (.ptr 2102 (0))]), (2, .q 2 (0)), (6, .q 6 (0)), (9, .p (AV.u64 a'8.1)), (48, .i a'8.2.1)], [(2, .pure (GValue.cs GValue.zero)), (6, .pure (GValue.cs ((GValue.w0 GValue.zero (w64 ((r'1.1.toNat : Int) - (1 : Int))))))), (2100, .pure ([(AV.int a'8.2.2.1)])), (2101, .pure ([(AV.bytes a'8.2.2.2.1)])), (2102, .pure ([(AV.b8 a'8.2.2.2.2)]))], 92⟩ : TS)) (fun (o : (GValue × Int × Int × (List UInt8) × UInt8) ⊕ (UInt64 × Int × (List UInt8) × UInt8)) e s' => match o with | .inl y'9 => e = Go.Exit.ret ∧ ResAll Tryd.prog s' [ResultVar.cell 2 24, ResultVar.tmp 3] [.g (GValue.cs y'9.1), .i y'9.2.1] ∧ HFits s' [(2100, .pure ([(AV.int y'9.2.2.1)])), (2101, .pure ([(AV.bytes y'9.2.2.2.1)])), (2102, .pure ([(AV.b8 y'9.2.2.2.2)]))] | .inr (y'10) => e = Go.Exit.exit 1 ∧ s' = (⟨[(2, .q 2 (0)), (6, .q 6 (0)), (9, .p (AV.u64 y'10.1))], [(2, .pure (GValue.cs GValue.zero)), (6, .pure (GValue.cs ((GValue.w0 GValue.zero (w64 ((r'1.1.toNat : Int) - (1 : Int))))))), (2100, .pure ([(AV.int y'10.2.1)])), (2101, .pure ([(AV.bytes y'10.2.2.1)])), (2102, .pure ([(AV.b8 y'10.2.2.2)]))], 92⟩ : TS)) h14 Y (fun a x hx => ?_) (fun e s' hs => ?_)
       ·clear H
        obtain ⟨n9_0, t48_0, t2100_0, t2101_0, t2102_0⟩ := a
        have H := hx
        clear hx
        unfold g_code_read_i0_l0 at H
        refine sg [0] Y ?_
        refine rp Y Y (p_bin Y Y Y Y) ?_
        refine RunW_st [(0, .clo 53 [(.ptr 2100 (0)), (.ptr 2101 (0)), (.ptr 2102 (0))]), (2, .q 2 (0)), (6, .q 6 (0)), (9, .p (AV.u64 n9_0)), (48, .i t48_0), (49, .b (decide (t48_0 < (8 : Int))))] [(2, .pure (GValue.cs GValue.zero)), (6, .pure (GValue.cs ((GValue.w0 GValue.zero (w64 ((r'1.1.toNat : Int) - (1 : Int))))))), (2100, .pure ([(AV.int t2100_0)])), (2101, .pure ([(AV.bytes t2101_0)])), (2102, .pure ([(AV.b8 t2102_0)]))] Y ⟨(fun _ => .same _), TLes.same _, TLes.same _, TLes.same _, TLes.same _, TLes.same _, trivial⟩ ⟨Y, Y, Y, Y, Y, trivial⟩ ?_
        refine RunW_nil ?_
        refine AW2_seq ?_
        refine AW2_if (p := t48_0 < (8 : Int)) Y (fun h11 => ?_) (fun h11 => ?_)
        ·replace H := ite_then h11 H
         refine AW2_st [(0, .clo 53 [(.ptr 2100 (0)), (.ptr 2101 (0)), (.ptr 2102 (0))]), (2, .q 2 (0)), (6, .q 6 (0)), (9, .p (AV.u64 n9_0)), (48, .i t48_0)] [(2, .pure (GValue.cs GValue.zero)), (6, .pure (GValue.cs ((GValue.w0 GValue.zero (w64 ((r'1.1.toNat : Int) - (1 : Int))))))), (2100, .pure ([(AV.int t2100_0)])), (2101, .pure ([(AV.bytes t2101_0)])), (2102, .pure ([(AV.b8 t2102_0)]))] Y ⟨(fun _ => .same _), TLes.same _, TLes.same _, TLes.same _, TLes.same _, trivial⟩ ⟨Y, Y, Y, Y, Y, trivial⟩ ?_
         refine AW2_skip ?_
         refine AW2_seq ?_
         refine AW2_block ?_
         refine sg [0, 1, 2, 3, 4, 5, 6] Y ?_
         refine rp Y Y (p_move Y Y) ?_
         refine bindK H fun r'7 h12 H => ?_
         refine r_op Y Y (d_callh [(2000, 2100), (2001, 2101), (2002, 2102)] Y Y Y Tryd.func53 Y Y (g_code_Decode_1_i0_ac2 h12) ⟨TLes.same _, TLes.same _, TLes.same _, trivial⟩ ⟨Y, Y, Y, trivial⟩ Y Y) ?_
         refine rp Y Y (p_move Y Y) ?_
         refine rp Y Y (p_ext2 Y Y Y Y) ?_
         refine rp Y Y (p_ext2 Y Y Y Y) ?_
         refine rp Y Y (p_asg Y Y) ?_
         refine rp Y Y (p_asg Y Y) ?_
         refine RunW_st [(0, .clo 53 [(.ptr 2100 (0)), (.ptr 2101 (0)), (.ptr 2102 (0))]), (2, .q 2 (0)), (6, .q 6 (0)), (9, .p (AV.u64 n9_0)), (10, .p (AV.b8 r'7.1)), (11, .b r'7.2.1), (48, .i t48_0)] [(2, .pure (GValue.cs GValue.zero)), (6, .pure (GValue.cs ((GValue.w0 GValue.zero (w64 ((r'1.1.toNat : Int) - (1 : Int))))))), (2100, .pure ([(AV.int r'7.2.2.1)])), (2101, .pure ([(AV.bytes r'7.2.2.2.1)])), (2102, .pure ([(AV.b8 r'7.2.2.2.2)]))] Y ⟨(fun _ => .same _), TLes.same _, TLes.same _, TLes.same _, TLes.same _, TLes.same _, TLes.same _, trivial⟩ ⟨Y, Y, Y, Y, Y, trivial⟩ ?_
         refine RunW_nil ?_
         refine AW2_seq ?_
         refine sg [0, 1] Y ?_
         refine rp Y Y (p_move Y Y) ?_
         refine rp Y Y (p_not Y Y) ?_
         refine RunW_st [(0, .clo 53 [(.ptr 2100 (0)), (.ptr 2101 (0)), (.ptr 2102 (0))]), (2, .q 2 (0)), (6, .q 6 (0)), (9, .p (AV.u64 n9_0)), (10, .p (AV.b8 r'7.1)), (48, .i t48_0), (56, .b (!r'7.2.1))] [(2, .pure (GValue.cs GValue.zero)), (6, .pure (GValue.cs ((GValue.w0 GValue.zero (w64 ((r'1.1.toNat : Int) - (1 : Int))))))), (2100, .pure ([(AV.int r'7.2.2.1)])), (2101, .pure ([(AV.bytes r'7.2.2.2.1)])), (2102, .pure ([(AV.b8 r'7.2.2.2.2)]))] Y ⟨(fun _ => .same _), TLes.same _, TLes.same _, TLes.same _, TLes.same _, TLes.same _, TLes.same _, trivial⟩ ⟨Y, Y, Y, Y, Y, trivial⟩ ?_
         refine RunW_nil ?_
         refine AW2_cond Y (fun h13 => ?_) (fun h13 => ?_)
         ·replace H := ite_then h13 H
          refine sg [0, 1, 2] Y ?_
          refine rp Y Y (u_bld Y in_24 one_24 zc_24 pl_24 Y Y) ?_
          refine r_op Y Y (u_st Y Y Y Y Y in_24 (GValue.len GValue.zero) (nl (GValue.len GValue.zero)) (Upd.refl ((GValue.len GValue.zero).trans (GValue.len GValue.zero).symm))) ?_
          refine rp Y Y (p_asg Y Y) ?_
          refine rz [(2, .q 2 (0)), (3, .i (4 : Int))] [(2, .pure (GValue.cs GValue.zero)), (2100, .pure ([(AV.int r'7.2.2.1)])), (2101, .pure ([(AV.bytes r'7.2.2.2.1)])), (2102, .pure ([(AV.b8 r'7.2.2.2.2)]))] Y Y Y ?_
          refine AW2_ret ?_
          have hz := some_elim H
          subst hz
          exact ⟨Y, ⟨res_cella Tryd.underlying24 Y in_24.sz Y (Sub.le (Sub.refl _) (GValue.len GValue.zero)) (by decide) (Sub.take (Sub.refl _) (GValue.len GValue.zero)), res_tmp (.same _), trivial⟩, ⟨Y, Y, Y, trivial⟩⟩
         ·replace H := ite_else (ne_true h13) H
          refine AW2_st [(0, .clo 53 [(.ptr 2100 (0)), (.ptr 2101 (0)), (.ptr 2102 (0))]), (2, .q 2 (0)), (6, .q 6 (0)), (9, .p (AV.u64 n9_0)), (10, .p (AV.b8 r'7.1)), (48, .i t48_0)] [(2, .pure (GValue.cs GValue.zero)), (6, .pure (GValue.cs ((GValue.w0 GValue.zero (w64 ((r'1.1.toNat : Int) - (1 : Int))))))), (2100, .pure ([(AV.int r'7.2.2.1)])), (2101, .pure ([(AV.bytes r'7.2.2.2.1)])), (2102, .pure ([(AV.b8 r'7.2.2.2.2)]))] Y ⟨(fun _ => .same _), TLes.same _, TLes.same _, TLes.same _, TLes.same _, TLes.same _, trivial⟩ ⟨Y, Y, Y, Y, Y, trivial⟩ ?_
          refine AW2_skip ?_
          refine AW2_reg [0, 1, 2, 3, 4, 5] Y ?_
          refine rp Y Y (p_move Y Y) ?_
          refine rp Y Y (p_u64shl (n := 8) Y Y Y Y) ?_
          refine rp Y Y (p_move Y Y) ?_
          refine rp Y Y (p_u8_u64 (a := r'7.1) Y Tryd.underlying5 Tryd.underlying22 Y) ?_
          refine rp Y Y (p_u64or (a := shl_u64 n9_0 8) (b := r'7.1.toUInt64) Y Y Y) ?_
          refine rp Y Y (p_asg Y Y) ?_
          refine RunW_st [(0, .clo 53 [(.ptr 2100 (0)), (.ptr 2101 (0)), (.ptr 2102 (0))]), (2, .q 2 (0)), (6, .q 6 (0)), (9, .p (AV.u64 ((shl_u64 n9_0 8) ||| r'7.1.toUInt64))), (48, .i t48_0)] [(2, .pure (GValue.cs GValue.zero)), (6, .pure (GValue.cs ((GValue.w0 GValue.zero (w64 ((r'1.1.toNat : Int) - (1 : Int))))))), (2100, .pure ([(AV.int r'7.2.2.1)])), (2101, .pure ([(AV.bytes r'7.2.2.2.1)])), (2102, .pure ([(AV.b8 r'7.2.2.2.2)]))] Y ⟨(fun _ => .same _), TLes.same _, TLes.same _, TLes.same _, TLes.same _, trivial⟩ ⟨Y, Y, Y, Y, Y, trivial⟩ ?_
          refine RunW_nil ?_
          refine AW2_reg [0, 1] Y ?_
          refine rp Y Y (p_bin Y Y Y Y) ?_
          refine rp Y Y (p_move Y Y) ?_
          refine RunW_st [(0, .clo 53 [(.ptr 2100 (0)), (.ptr 2101 (0)), (.ptr 2102 (0))]), (2, .q 2 (0)), (6, .q 6 (0)), (9, .p (AV.u64 ((shl_u64 n9_0 8) ||| r'7.1.toUInt64))), (48, .i (w64 (t48_0 + (1 : Int))))] [(2, .pure (GValue.cs GValue.zero)), (6, .pure (GValue.cs ((GValue.w0 GValue.zero (w64 ((r'1.1.toNat : Int) - (1 : Int))))))), (2100, .pure ([(AV.int r'7.2.2.1)])), (2101, .pure ([(AV.bytes r'7.2.2.2.1)])), (2102, .pure ([(AV.b8 r'7.2.2.2.2)]))] Y ⟨(fun _ => .same _), TLes.same _, TLes.same _, TLes.same _, TLes.same _, trivial⟩ ⟨Y, Y, Y, Y, Y, trivial⟩ ?_
          refine RunW_nil ?_
          have hz := some_elim H
          subst hz
          exact ⟨Y, Y⟩
        ·replace H := ite_else h11 H
         refine as2 [(2, .q 2 (0)), (6, .q 6 (0)), (9, .p (AV.u64 n9_0))] [(2, .pure (GValue.cs GValue.zero)), (6, .pure (GValue.cs ((GValue.w0 GValue.zero (w64 ((r'1.1.toNat : Int) - (1 : Int))))))), (2100, .pure ([(AV.int t2100_0)])), (2101, .pure ([(AV.bytes t2101_0)])), (2102, .pure ([(AV.b8 t2102_0)]))] Y Y Y ?_
         refine AW2_exit ?_
         refine thenQ2_exit ?_
         have hz := some_elim H
         subst hz
         exact ⟨Y, Y⟩
       ·rcases o'11 with y'12 | y'13
        ·obtain ⟨rfl, hs⟩ := hs
         refine ⟨by simp, ?_⟩
         have hz := some_elim H
         subst hz
         exact ⟨Y, hs.1, hs.2⟩
        ·obtain ⟨rfl, rfl⟩ := hs
         refine ⟨by simp, ?_⟩
         refine blockQ2_exit ?_
         refine sg [0, 1, 2] Y ?_
         refine rp Y Y (u_fa Y Y Tryd.underlying24 Y in_3 nz Y Y (ne_of_lt (n := 0) (Nat.lt_of_lt_of_eq (by decide) (Eq.symm (GValue.len ((GValue.w0 GValue.zero (w64 ((r'1.1.toNat : Int) - (1 : Int)))))))))) ?_
         refine rp Y Y (u_ld Y Y Tryd.underlying3 Y Y ((Sub.refl _).trans (GValue.sub0 ((GValue.w0 GValue.zero (w64 ((r'1.1.toNat : Int) - (1 : Int)))))))) ?_
         refine rp Y Y (p_ieq Y Y Y) ?_
         refine rz [(2, .q 2 (0)), (6, .q 6 (0)), (9, .p (AV.u64 y'13.1)), (66, .b (decide (((GValue.w0 GValue.zero (w64 ((r'1.1.toNat : Int) - (1 : Int))))).Kind = (2 : Int))))] [(2, .pure (GValue.cs GValue.zero)), (6, .pure (GValue.cs ((GValue.w0 GValue.zero (w64 ((r'1.1.toNat : Int) - (1 : Int))))))), (2100, .pure ([(AV.int y'13.2.1)])), (2101, .pure ([(AV.bytes y'13.2.2.1)])), (2102, .pure ([(AV.b8 y'13.2.2.2)]))] Y Y Y ?_
         refine AW2_if (p := ((GValue.w0 GValue.zero (w64 ((r'1.1.toNat : Int) - (1 : Int))))).Kind = (2 : Int)) Y (fun h15 => ?_) (fun h15 => ?_)
         ·replace H := ite_then h15 H
          refine AW2_reg [0, 1, 2, 3, 4] Y ?_
          refine rp Y Y (p_move Y Y) ?_
          refine rp Y Y (p_u64xor (a := y'13.1) (b := (9223372036854775808 : UInt64)) Y Y Y) ?_
          refine rp Y Y (p_u64_i (a := y'13.1 ^^^ (9223372036854775808 : UInt64)) Y Tryd.underlying22 Tryd.underlying3 Y) ?_
          refine rp Y Y (u_fa Y Y Tryd.underlying24 Y in_3 nz Y Y (ne_of_lt (n := 0) (Nat.lt_of_lt_of_eq (by decide) (Eq.symm (GValue.len ((GValue.w0 GValue.zero (w64 ((r'1.1.toNat : Int) - (1 : Int)))))))))) ?_
          refine r_op Y Y (u_st Y Y Y Y Y in_3 Y (ne_of_lt (n := 0) (Nat.lt_of_lt_of_eq (by decide) (Eq.symm (GValue.len ((GValue.w0 GValue.zero (w64 ((r'1.1.toNat : Int) - (1 : Int))))))))) (Upd.trans (Sub.refl _) (GValue.upd1 ((GValue.w0 GValue.zero (w64 ((r'1.1.toNat : Int) - (1 : Int))))) (w64 ((y'13.1 ^^^ (9223372036854775808 : UInt64)).toNat : Int))) (Upd.refl ((GValue.len ((GValue.w1 (GValue.w0 GValue.zero (w64 ((r'1.1.toNat : Int) - (1 : Int)))) (w64 ((y'13.1 ^^^ (9223372036854775808 : UInt64)).toNat : Int))))).trans (GValue.len ((GValue.w0 GValue.zero (w64 ((r'1.1.toNat : Int) - (1 : Int)))))).symm)))) ?_
          refine rz [(2, .q 2 (0)), (6, .q 6 (0))] [(2, .pure (GValue.cs GValue.zero)), (6, .pure (GValue.cs ((GValue.w1 (GValue.w0 GValue.zero (w64 ((r'1.1.toNat : Int) - (1 : Int)))) (w64 ((y'13.1 ^^^ (9223372036854775808 : UInt64)).toNat : Int)))))), (2100, .pure ([(AV.int y'13.2.1)])), (2101, .pure ([(AV.bytes y'13.2.2.1)])), (2102, .pure ([(AV.b8 y'13.2.2.2)]))] Y Y Y ?_
          refine gen1 (fun v6'14 => (⟨[(2, .q 2 (0)), (6, .q 6 (0))], [(2, .pure (GValue.cs GValue.zero)), (6, .pure (GValue.cs v6'14)), (2100, .pure ([(AV.int y'13.2.1)])), (2101, .pure ([(AV.bytes y'13.2.2.1)])), (2102, .pure ([(AV.b8 y'13.2.2.2)]))], 92⟩ : TS)) H ?_
          intro v6'14 H
          have hz := some_elim H
          subst hz
          exact ⟨Y, Y⟩
         ·replace H := ite_else h15 H
          refine AW2_reg [0, 1, 2, 3] Y ?_
          refine rp Y Y (p_move Y Y) ?_
          refine bindK H fun r'15 h16 H => ?_
          refine rp Y Y (p_callp Y Y Y Tryd.func74 Y Y (g_code_back_ac h16) ⟨Y, trivial⟩) ?_
          refine rp Y Y (u_fa Y Y Tryd.underlying24 Y in_22 nz Y Y (ne_of_lt (n := 0) (Nat.lt_of_lt_of_eq (by decide) (Eq.symm (GValue.len ((GValue.w0 GValue.zero (w64 ((r'1.1.toNat : Int) - (1 : Int)))))))))) ?_
          refine r_op Y Y (u_st Y Y Y Y Y in_22 Y (ne_of_lt (n := 0) (Nat.lt_of_lt_of_eq (by decide) (Eq.symm (GValue.len ((GValue.w0 GValue.zero (w64 ((r'1.1.toNat : Int) - (1 : Int))))))))) (Upd.trans (Sub.refl _) (GValue.upd2 ((GValue.w0 GValue.zero (w64 ((r'1.1.toNat : Int) - (1 : Int))))) r'15) (Upd.refl ((GValue.len ((GValue.w2 (GValue.w0 GValue.zero (w64 ((r'1.1.toNat : Int) - (1 : Int)))) r'15))).trans (GValue.len ((GValue.w0 GValue.zero (w64 ((r'1.1.toNat : Int) - (1 : Int)))))).symm)))) ?_
          refine rz [(2, .q 2 (0)), (6, .q 6 (0))] [(2, .pure (GValue.cs GValue.zero)), (6, .pure (GValue.cs ((GValue.w2 (GValue.w0 GValue.zero (w64 ((r'1.1.toNat : Int) - (1 : Int)))) r'15)))), (2100, .pure ([(AV.int y'13.2.1)])), (2101, .pure ([(AV.bytes y'13.2.2.1)])), (2102, .pure ([(AV.b8 y'13.2.2.2)]))] Y Y Y ?_
          refine gen1 (fun v6'16 => (⟨[(2, .q 2 (0)), (6, .q 6 (0))], [(2, .pure (GValue.cs GValue.zero)), (6, .pure (GValue.cs v6'16)), (2100, .pure ([(AV.int y'13.2.1)])), (2101, .pure ([(AV.bytes y'13.2.2.1)])), (2102, .pure ([(AV.b8 y'13.2.2.2)]))], 92⟩ : TS)) H ?_
          intro v6'16 H
          have hz := some_elim H
          subst hz
          exact ⟨Y, Y⟩
      ·replace H := ite_else (ne_true h10) H
       refine sg [0, 1] Y ?_
       refine rp Y Y (p_ieq Y Y Y) ?_
       refine rp Y Y (p_asg Y Y) ?_
       refine RunW_st [(0, .clo 53 [(.ptr 2100 (0)), (.ptr 2101 (0)), (.ptr 2102 (0))]), (2, .q 2 (0)), (6, .q 6 (0)), (74, .b (decide (t27'3 = (4 : Int))))] [(2, .pure (GValue.cs GValue.zero)), (6, .pure (GValue.cs ((GValue.w0 GValue.zero (w64 ((r'1.1.toNat : Int) - (1 : Int))))))), (2100, .pure ([(AV.int r'1.2.2.1)])), (2101, .pure ([(AV.bytes r'1.2.2.2.1)])), (2102, .pure ([(AV.b8 r'1.2.2.2.2)]))] Y ⟨(fun _ => .same _), TLes.same _, TLes.same _, TLes.same _, trivial⟩ ⟨Y, Y, Y, Y, Y, trivial⟩ ?_
       refine RunW_nil ?_
       refine AW2_if (p := t27'3 = (4 : Int)) Y (fun h17 => ?_) (fun h17 => ?_)
       ·replace H := ite_then h17 H
        refine sg [0, 1, 2, 3, 4, 5, 6] Y ?_
        refine rp Y Y (p_move Y Y) ?_
        refine bindK H fun r'17 h18 H => ?_
        refine r_op Y Y (d_callh [(2100, 2100), (2101, 2101), (2102, 2102)] Y Y Y Tryd.func75 Y Y (g_code_text_i0_ac2 h18) ⟨TLes.same _, trivial⟩ ⟨Y, Y, Y, trivial⟩ Y Y) ?_
        refine rp Y Y (p_move Y Y) ?_
        refine rp Y Y (p_ext2 Y Y Y Y) ?_
        refine rp Y Y (p_ext2 Y Y Y Y) ?_
        refine rp Y Y (p_asg Y Y) ?_
        refine rp Y Y (p_asg Y Y) ?_
        refine rz [(2, .q 2 (0)), (6, .q 6 (0)), (12, .t r'17.1), (13, .i r'17.2.1)] [(2, .pure (GValue.cs GValue.zero)), (6, .pure (GValue.cs ((GValue.w0 GValue.zero (w64 ((r'1.1.toNat : Int) - (1 : Int))))))), (2100, .pure ([(AV.int r'17.2.2.1)])), (2101, .pure ([(AV.bytes r'17.2.2.2.1)])), (2102, .pure ([(AV.b8 r'17.2.2.2.2)]))] Y Y Y ?_
        refine AW2_seq ?_
        refine sg [0, 1] Y ?_
        refine rp Y Y (p_move Y Y) ?_
        refine rp Y Y (p_ine Y Y Y) ?_
        refine rz [(2, .q 2 (0)), (6, .q 6 (0)), (12, .t r'17.1), (13, .i r'17.2.1), (82, .b (decide (r'17.2.1 ≠ (0 : Int))))] [(2, .pure (GValue.cs GValue.zero)), (6, .pure (GValue.cs ((GValue.w0 GValue.zero (w64 ((r'1.1.toNat : Int) - (1 : Int))))))), (2100, .pure ([(AV.int r'17.2.2.1)])), (2101, .pure ([(AV.bytes r'17.2.2.2.1)])), (2102, .pure ([(AV.b8 r'17.2.2.2.2)]))] Y Y Y ?_
        refine AW2_if (p := r'17.2.1 ≠ (0 : Int)) Y (fun h19 => ?_) (fun h19 => ?_)
        ·replace H := ite_then h19 H
         refine sg [0, 1, 2, 3] Y ?_
         refine rp Y Y (u_bld Y in_24 one_24 zc_24 pl_24 Y Y) ?_
         refine rp Y Y (p_move Y Y) ?_
         refine r_op Y Y (u_st Y Y Y Y Y in_24 (GValue.len GValue.zero) (nl (GValue.len GValue.zero)) (Upd.refl ((GValue.len GValue.zero).trans (GValue.len GValue.zero).symm))) ?_
         refine rp Y Y (p_asg Y Y) ?_
         refine rz [(2, .q 2 (0)), (3, .i r'17.2.1)] [(2, .pure (GValue.cs GValue.zero)), (2100, .pure ([(AV.int r'17.2.2.1)])), (2101, .pure ([(AV.bytes r'17.2.2.2.1)])), (2102, .pure ([(AV.b8 r'17.2.2.2.2)]))] Y Y Y ?_
         refine AW2_ret ?_
         have hz := some_elim H
         subst hz
         exact ⟨Y, ⟨res_cella Tryd.underlying24 Y in_24.sz Y (Sub.le (Sub.refl _) (GValue.len GValue.zero)) (by decide) (Sub.take (Sub.refl _) (GValue.len GValue.zero)), res_tmp (.same _), trivial⟩, ⟨Y, Y, Y, trivial⟩⟩
        ·replace H := ite_else h19 H
         refine as2 [(2, .q 2 (0)), (6, .q 6 (0)), (12, .t r'17.1)] [(2, .pure (GValue.cs GValue.zero)), (6, .pure (GValue.cs ((GValue.w0 GValue.zero (w64 ((r'1.1.toNat : Int) - (1 : Int))))))), (2100, .pure ([(AV.int r'17.2.2.1)])), (2101, .pure ([(AV.bytes r'17.2.2.2.1)])), (2102, .pure ([(AV.b8 r'17.2.2.2.2)]))] Y Y Y ?_
         refine AW2_skip ?_
         refine AW2_reg [0, 1, 2] Y ?_
         refine rp Y Y (p_move Y Y) ?_
         refine rp Y Y (u_fa Y Y Tryd.underlying24 Y in_9 nz Y Y (ne_of_lt (n := 0) (Nat.lt_of_lt_of_eq (by decide) (Eq.symm (GValue.len ((GValue.w0 GValue.zero (w64 ((r'1.1.toNat : Int) - (1 : Int)))))))))) ?_
         refine r_op Y Y (u_st Y Y Y Y Y in_9 Y (ne_of_lt (n := 0) (Nat.lt_of_lt_of_eq (by decide) (Eq.symm (GValue.len ((GValue.w0 GValue.zero (w64 ((r'1.1.toNat : Int) - (1 : Int))))))))) (Upd.trans (Sub.refl _) (GValue.upd3 ((GValue.w0 GValue.zero (w64 ((r'1.1.toNat : Int) - (1 : Int))))) r'17.1) (Upd.refl ((GValue.len ((GValue.w3 (GValue.w0 GValue.zero (w64 ((r'1.1.toNat : Int) - (1 : Int)))) r'17.1))).trans (GValue.len ((GValue.w0 GValue.zero (w64 ((r'1.1.toNat : Int) - (1 : Int)))))).symm)))) ?_
         refine rz [(2, .q 2 (0)), (6, .q 6 (0))] [(2, .pure (GValue.cs GValue.zero)), (6, .pure (GValue.cs ((GValue.w3 (GValue.w0 GValue.zero (w64 ((r'1.1.toNat : Int) - (1 : Int)))) r'17.1)))), (2100, .pure ([(AV.int r'17.2.2.1)])), (2101, .pure ([(AV.bytes r'17.2.2.2.1)])), (2102, .pure ([(AV.b8 r'17.2.2.2.2)]))] Y Y Y ?_
         refine gen1 (fun v6'18 => (⟨[(2, .q 2 (0)), (6, .q 6 (0))], [(2, .pure (GValue.cs GValue.zero)), (6, .pure (GValue.cs v6'18)), (2100, .pure ([(AV.int r'17.2.2.1)])), (2101, .pure ([(AV.bytes r'17.2.2.2.1)])), (2102, .pure ([(AV.b8 r'17.2.2.2.2)]))], 92⟩ : TS)) H ?_
         intro v6'18 H
         have hz := some_elim H
         subst hz
         exact ⟨Y, Y⟩
       ·replace H := ite_else h17 H
        refine sg [0, 1, 2] Y ?_
        refine rp Y Y (u_bld Y in_24 one_24 zc_24 pl_24 Y Y) ?_
        refine r_op Y Y (u_st Y Y Y Y Y in_24 (GValue.len GValue.zero) (nl (GValue.len GValue.zero)) (Upd.refl ((GValue.len GValue.zero).trans (GValue.len GValue.zero).symm))) ?_
        refine rp Y Y (p_asg Y Y) ?_
        refine rz [(2, .q 2 (0)), (3, .i (3 : Int))] [(2, .pure (GValue.cs GValue.zero)), (2100, .pure ([(AV.int r'1.2.2.1)])), (2101, .pure ([(AV.bytes r'1.2.2.2.1)])), (2102, .pure ([(AV.b8 r'1.2.2.2.2)]))] Y Y Y ?_
        refine AW2_ret ?_
        have hz := some_elim H
        subst hz
        exact ⟨Y, ⟨res_cella Tryd.underlying24 Y in_24.sz Y (Sub.le (Sub.refl _) (GValue.len GValue.zero)) (by decide) (Sub.take (Sub.refl _) (GValue.len GValue.zero)), res_tmp (.same _), trivial⟩, ⟨Y, Y, Y, trivial⟩⟩
  ·subst hy
   refine AW2_seq ?_
   refine sg [0, 1, 2] Y ?_
   refine rp Y Y (u_lda Y Y Tryd.underlying24 Y in_24 Y (Nat.succ_pos _) (Sub.refl _) (GValue.len j'2.1)) ?_
   refine bindK H fun r'20 h20 H => ?_
   refine rp Y Y (p_callp Y Y Y Tryd.func14 Y Y (g_value_Check_ac h20) ⟨Y, trivial⟩) ?_
   refine rp Y Y (p_ine Y Y Y) ?_
   refine rz [(2, .q 2 (0)), (6, .q 6 (0)), (89, .b (decide (r'20 ≠ (0 : Int))))] [(2, .pure (GValue.cs GValue.zero)), (6, .pure (GValue.cs j'2.1)), (2100, .pure ([(AV.int j'2.2.1)])), (2101, .pure ([(AV.bytes j'2.2.2.1)])), (2102, .pure ([(AV.b8 j'2.2.2.2)]))] Y Y Y ?_
   refine AW2_if (p := r'20 ≠ (0 : Int)) Y (fun h21 => ?_) (fun h21 => ?_)
   ·replace H := ite_then h21 H
    refine sg [0, 1, 2] Y ?_
    refine rp Y Y (u_bld Y in_24 one_24 zc_24 pl_24 Y Y) ?_
    refine r_op Y Y (u_st Y Y Y Y Y in_24 (GValue.len GValue.zero) (nl (GValue.len GValue.zero)) (Upd.refl ((GValue.len GValue.zero).trans (GValue.len GValue.zero).symm))) ?_
    refine rp Y Y (p_asg Y Y) ?_
    refine rz [(2, .q 2 (0)), (3, .i (3 : Int))] [(2, .pure (GValue.cs GValue.zero)), (2100, .pure ([(AV.int j'2.2.1)])), (2101, .pure ([(AV.bytes j'2.2.2.1)])), (2102, .pure ([(AV.b8 j'2.2.2.2)]))] Y Y Y ?_
    refine AW2_ret ?_
    have hz := some_elim H
    subst hz
    exact ⟨⟨res_cella Tryd.underlying24 Y in_24.sz Y (Sub.le (Sub.refl _) (GValue.len GValue.zero)) (by decide) (Sub.take (Sub.refl _) (GValue.len GValue.zero)), res_tmp (.same _), trivial⟩, ⟨Y, Y, Y, trivial⟩⟩
   ·replace H := ite_else h21 H
    refine as2 [(2, .q 2 (0)), (6, .q 6 (0))] [(2, .pure (GValue.cs GValue.zero)), (6, .pure (GValue.cs j'2.1)), (2100, .pure ([(AV.int j'2.2.1)])), (2101, .pure ([(AV.bytes j'2.2.2.1)])), (2102, .pure ([(AV.b8 j'2.2.2.2)]))] Y Y Y ?_
    refine AW2_skip ?_
    refine sg [0, 1, 2] Y ?_
    refine rp Y Y (u_lda Y Y Tryd.underlying24 Y in_24 Y (Nat.succ_pos _) (Sub.refl _) (GValue.len j'2.1)) ?_
    refine r_op Y Y (u_st Y Y Y Y Y in_24 (GValue.len j'2.1) (nl (GValue.len GValue.zero)) (Upd.refl ((GValue.len j'2.1).trans (GValue.len GValue.zero).symm))) ?_
    refine rp Y Y (p_asg Y Y) ?_
    refine rz [(2, .q 2 (0)), (3, .i (0 : Int))] [(2, .pure (GValue.cs j'2.1)), (2100, .pure ([(AV.int j'2.2.1)])), (2101, .pure ([(AV.bytes j'2.2.2.1)])), (2102, .pure ([(AV.b8 j'2.2.2.2)]))] Y Y Y ?_
    refine AW2_ret ?_
    have hz := some_elim H
    subst hz
    exact ⟨⟨res_cella Tryd.underlying24 Y in_24.sz Y (Sub.le (Sub.refl _) (GValue.len j'2.1)) (by decide) (Sub.take (Sub.refl _) (GValue.len j'2.1)), res_tmp (.same _), trivial⟩, ⟨Y, Y, Y, trivial⟩⟩
  ·subst hy
   obtain ⟨rfl, hs⟩ := hs
   have hz := some_elim H
   subst hz
   exact ⟨hs.1, hs.2⟩

/-! code.Decode -/
noncomputable def g_code_Decode_l0 (n1 : Int) (down2 : Int) : Int × (List UInt8) × Int × UInt8 × (List GValue) → Option ((Int × (List UInt8) × Int × UInt8 × (List GValue)) ⊕ (((List GValue) × Int) ⊕ ((List UInt8) × Int × (List GValue))))
  | (t23_0, b3_0, at8_0, flip9_0, out11_0) => (if t23_0 < n1 then (if 0 ≤ t23_0 then (if iand (ishr down2 t23_0.toNat) (1 : Int) = (1 : Int) then some (255 : UInt8) else some (0 : UInt8)) else none).bind fun j'1 => (g_code_read_i0 at8_0 b3_0 j'1).bind fun r'2 => (if r'2.2.1 ≠ (0 : Int) then some (.inr (.inl (([] : List GValue), r'2.2.1))) else if room (out11_0.length + ([r'2.1] : List GValue).length) 40 then some (.inl (w64 (t23_0 + (1 : Int)), r'2.2.2.2.1, r'2.2.2.1, r'2.2.2.2.2, out11_0 ++ ([r'2.1] : List GValue))) else none) else some (.inr (.inr (b3_0, at8_0, out11_0))))
noncomputable def g_code_Decode (b0 : List UInt8) (n1 : Int) (down2 : Int) : Option ((List GValue) × Int) :=
  (if (n1 < (0 : Int)) ∨ (n1 > (5 : Int)) then some (([] : List GValue), (1 : Int)) else (loopO (g_code_Decode_l0 n1 down2) ((0 : Int), b0, (0 : Int), (0 : UInt8), ([] : List GValue))).bind fun o'6 => match o'6 with | .inl y'7 => some y'7 | .inr (y'8) => (if y'8.2.1 ≠ (y'8.1.length : Int) then some (([] : List GValue), (3 : Int)) else some (y'8.2.2, (0 : Int))))
set_option maxHeartbeats 4000000 in
set_option maxRecDepth 100000 in
theorem g_code_Decode_ac2 {b0 : List UInt8} {n1 : Int} {down2 : Int} {r : (List GValue) × Int} (H : g_code_Decode b0 n1 down2 = some r) : AC2 Tryd.prog 24 (pureT [(AV.bytes b0), (AV.int n1), (AV.int down2)]) [] (retV [.c (.own 6 r.1.length 4), .i r.2]) [(6, .pure (r.1.flatMap GValue.cs))] := by
 refine AC2_of_body (vs := [.c (.own 6 r.1.length 4), .i r.2]) Tryd.func24 Y Y (Nat.le_of_ble_eq_true Y) Y ?_
 unfold g_code_Decode at H
 refine as2 [(0, .y b0), (1, .i n1), (2, .i down2)] [] Y Y Y ?_
 refine sg [0, 1, 2] Y ?_
 refine r_op Y Y (MakeD.opD (n_box 3 Y Y) Y Y Y Y) ?_
 refine rp Y Y (p_asgn Y) ?_
 refine rp Y Y (p_asg Y Y) ?_
 refine rz [(1, .i n1), (2, .i down2), (3, .q 3 (0))] [(3, .pure ([(AV.bytes b0)]))] Y Y Y ?_
 refine AW2_seq ?_
 refine AW2_seq ?_
 refine AW2_mid (⟨[(1, .i n1), (2, .i down2), (3, .q 3 (0)), (20, .b (decide ((n1 < (0 : Int)) ∨ (n1 > (5 : Int)))))], [(3, .pure ([(AV.bytes b0)]))], 49⟩ : TS) ?_ ?_
 ·refine AW2_reg [0, 1, 2, 3, 4, 5] Y ?_
  refine rp Y Y (p_move Y Y) ?_
  refine rp Y Y (p_bin Y Y Y Y) ?_
  refine rp Y Y (p_move Y Y) ?_
  refine (Classical.em (n1 < (0 : Int))).elim (fun h1 => ?_) (fun h1 => ?_)
  ·refine r_off Y Y Y Y (dT h1) Y Y ?_
   refine r_off Y Y Y Y (dT h1) Y Y ?_
   refine rp Y Y (p_pkt Y Y (dT h1) (tb (dT (p := (n1 < (0 : Int)) ∨ (n1 > (5 : Int))) (Or.inl h1)).symm)) ?_
   refine rs [(1, .i n1), (2, .i down2), (3, .q 3 (0)), (20, .b (decide ((n1 < (0 : Int)) ∨ (n1 > (5 : Int)))))] [(3, .pure ([(AV.bytes b0)]))] Y Y Y ?_
   exact RunW_nil rfl
  ·refine r_on Y Y Y Y (dF h1) Y (PureD.opD (p_move Y Y)) ?_
   refine r_on Y Y Y Y (dF h1) Y (PureD.opD (p_bin Y Y Y Y)) ?_
   refine rp Y Y (p_pkf Y Y (dF h1) (tb ((or_l (p := n1 < (0 : Int)) (q := n1 > (5 : Int)) h1)))) ?_
   refine rs [(1, .i n1), (2, .i down2), (3, .q 3 (0)), (20, .b (decide ((n1 < (0 : Int)) ∨ (n1 > (5 : Int)))))] [(3, .pure ([(AV.bytes b0)]))] Y Y Y ?_
   exact RunW_nil rfl
 ·refine AW2_if (p := (n1 < (0 : Int)) ∨ (n1 > (5 : Int))) Y (fun h2 => ?_) (fun h2 => ?_)
  ·replace H := ite_then h2 H
   refine sg [0, 1] Y ?_
   refine rp Y Y (p_asgn Y) ?_
   refine rp Y Y (p_asg Y Y) ?_
   refine rz [(6, .p .nil), (7, .i (1 : Int))] [] Y Y Y ?_
   refine as2 [(6, .p .nil), (7, .i (1 : Int))] [] Y Y Y ?_
   refine AW2_gho (Gho_own (d := 6) (b := 6) (z := 4) Y Y Y Y) ?_
   refine AW2_st [(6, .c (.own 6 ([] : List GValue).length 4)), (7, .i (1 : Int))] [(6, .pure (([] : List GValue).flatMap GValue.cs))] Y ⟨TLes.own Y, TLes.same _, trivial⟩ ⟨Y, trivial⟩ ?_
   refine AW2_ret ?_
   have hz := some_elim H
   subst hz
   exact ⟨⟨res_tmp (.same _), res_tmp (.same _), trivial⟩, ⟨Y, trivial⟩⟩
  ·replace H := ite_else h2 H
   refine as2 [(1, .i n1), (2, .i down2), (3, .q 3 (0))] [(3, .pure ([(AV.bytes b0)]))] Y Y Y ?_
   refine AW2_skip ?_
   refine sg [0, 1, 2, 3] Y ?_
   refine r_op Y Y (MakeD.opD (u_alloc 8 Y in_3 one_3 zc_3) Y Y Y Y) ?_
   refine r_op Y Y (MakeD.opD (u_alloc 9 Y in_5 one_5 zc_5) Y Y Y Y) ?_
   refine r_op Y Y (u_st Y Y Y Y Y in_3 Y (List.cons_ne_nil _ _) (Upd.refl (rfl.trans rfl.symm))) ?_
   refine r_op Y Y (u_st Y Y Y Y Y in_5 Y (List.cons_ne_nil _ _) (Upd.refl (rfl.trans rfl.symm))) ?_
   refine rz [(1, .i n1), (2, .i down2), (3, .q 3 (0)), (8, .q 8 (0)), (9, .q 9 (0))] [(3, .pure ([(AV.bytes b0)])), (8, .pure ([(AV.int (0 : Int))])), (9, .pure ([(AV.b8 (0 : UInt8))]))] Y Y Y ?_
   refine sg [0, 1] Y ?_
   refine rp Y Y (p_mkfn (caps := [(.ptr 8 (0)), (.ptr 3 (0)), (.ptr 9 (0))]) Y ⟨⟨Y, Y⟩, ⟨Y, Y⟩, ⟨Y, Y⟩, trivial⟩) ?_
   refine rp Y Y (p_asg Y Y) ?_
   refine RunW_st [(1, .i n1), (2, .i down2), (3, .q 3 (0)), (8, .q 8 (0)), (9, .q 9 (0)), (10, .clo 53 [(.ptr 8 (0)), (.ptr 3 (0)), (.ptr 9 (0))])] [(3, .pure ([(AV.bytes b0)])), (8, .pure ([(AV.int (0 : Int))])), (9, .pure ([(AV.b8 (0 : UInt8))]))] Y ⟨TLes.same _, TLes.same _, TLes.same _, TLes.same _, TLes.same _, (fun _ => .same _), trivial⟩ ⟨Y, Y, Y, trivial⟩ ?_
   refine RunW_nil ?_
   refine sg [0] Y ?_
   refine rp Y Y (p_asgn Y) ?_
   refine RunW_st [(1, .i n1), (2, .i down2), (3, .q 3 (0)), (8, .q 8 (0)), (9, .q 9 (0)), (10, .clo 53 [(.ptr 8 (0)), (.ptr 3 (0)), (.ptr 9 (0))]), (11, .p .nil)] [(3, .pure ([(AV.bytes b0)])), (8, .pure ([(AV.int (0 : Int))])), (9, .pure ([(AV.b8 (0 : UInt8))]))] Y ⟨TLes.same _, TLes.same _, TLes.same _, TLes.same _, TLes.same _, (fun _ => .same _), TLes.same _, trivial⟩ ⟨Y, Y, Y, trivial⟩ ?_
   refine RunW_nil ?_
   refine AW2_seq ?_
   refine sg [0, 1] Y ?_
   refine rp Y Y (p_move Y Y) ?_
   refine rp Y Y (p_move Y Y) ?_
   refine RunW_st [(2, .i down2), (3, .q 3 (0)), (8, .q 8 (0)), (9, .q 9 (0)), (10, .clo 53 [(.ptr 8 (0)), (.ptr 3 (0)), (.ptr 9 (0))]), (11, .p .nil), (22, .i n1), (23, .i (0 : Int))] [(3, .pure ([(AV.bytes b0)])), (8, .pure ([(AV.int (0 : Int))])), (9, .pure ([(AV.b8 (0 : UInt8))]))] Y ⟨TLes.same _, TLes.same _, TLes.same _, TLes.same _, (fun _ => .same _), TLes.same _, TLes.same _, TLes.same _, trivial⟩ ⟨Y, Y, Y, trivial⟩ ?_
   refine RunW_nil ?_
   refine AW2_block ?_
   refine AW2_st [(2, .i down2), (3, .q 3 (0)), (8, .q 8 (0)), (9, .q 9 (0)), (10, .clo 53 [(.ptr 8 (0)), (.ptr 3 (0)), (.ptr 9 (0))]), (11, .p .nil), (22, .i n1), (23, .i (0 : Int))] [(3, .pure ([(AV.bytes b0)])), (8, .pure ([(AV.int (0 : Int))])), (9, .pure ([(AV.b8 (0 : UInt8))]))] Y ⟨TLes.same _, TLes.same _, TLes.same _, TLes.same _, (fun _ => .same _), TLes.same _, TLes.same _, TLes.same _, trivial⟩ ⟨Y, Y, Y, trivial⟩ ?_
   refine AW2_gho (Gho_own (d := 11) (b := 11) (z := 4) Y Y Y Y) ?_
   refine AW2_st [(2, .i down2), (3, .q 3 (0)), (8, .q 8 (0)), (9, .q 9 (0)), (10, .clo 53 [(.ptr 8 (0)), (.ptr 3 (0)), (.ptr 9 (0))]), (11, .c (.own 11 ([] : List GValue).length 4)), (22, .i n1), (23, .i (0 : Int))] [(3, .pure ([(AV.bytes b0)])), (8, .pure ([(AV.int (0 : Int))])), (9, .pure ([(AV.b8 (0 : UInt8))])), (11, .pure (([] : List GValue).flatMap GValue.cs))] Y ⟨TLes.same _, TLes.same _, TLes.same _, TLes.same _, (fun _ => .same _), TLes.own Y, TLes.same _, TLes.same _, trivial⟩ ⟨Y, Y, Y, Y, trivial⟩ ?_
   refine bindK H fun o'6 h10 H => ?_
   refine AW2_loopO (fun a'3 : Int × (List UInt8) × Int × UInt8 × (List GValue) => (⟨[(2, .i down2), (3, .q 3 (0)), (8, .q 8 (0)), (9, .q 9 (0)), (10, .clo 53 [(.ptr 8 (0)), (.ptr 3 (0)), (.ptr 9 (0))]), (11, .c (.own 11 a'3.2.2.2.2.length 4)), (22, .i n1), (23, .i a'3.1)], [(3, .pure ([(AV.bytes a'3.2.1)])), (8, .pure ([(AV.int a'3.2.2.1)])), (9, .pure ([(AV.b8 a'3.2.2.2.1)])), (11, .pure (a'3.2.2.2.2.flatMap GValue.cs))], 49⟩ : TS)) (fun (o : ((List GValue) × Int) ⊕ ((List UInt8) × Int × (List GValue))) e s' => match o with | .inl y'4 => e = Go.Exit.ret ∧ ResAll Tryd.prog s' [ResultVar.tmp 6, ResultVar.tmp 7] [.c (.own 6 y'4.1.length 4), .i y'4.2] ∧ HFits s' [(6, .pure (y'4.1.flatMap GValue.cs))] | .inr (y'5) => e = Go.Exit.exit 0 ∧ s' = (⟨[(3, .q 3 (0)), (8, .q 8 (0)), (11, .c (.own 11 y'5.2.2.length 4))], [(3, .pure ([(AV.bytes y'5.1)])), (8, .pure ([(AV.int y'5.2.1)])), (11, .pure (y'5.2.2.flatMap GValue.cs))], 49⟩ : TS)) h10 Y (fun a x hx => ?_) (fun e s' hs => ?_)
   ·clear H
    obtain ⟨t23_0, b3_0, at8_0, flip9_0, out11_0⟩ := a
    have H := hx
    clear hx
    unfold g_code_Decode_l0 at H
    refine sg [0] Y ?_
    refine rp Y Y (p_bin Y Y Y Y) ?_
    refine RunW_st [(2, .i down2), (3, .q 3 (0)), (8, .q 8 (0)), (9, .q 9 (0)), (10, .clo 53 [(.ptr 8 (0)), (.ptr 3 (0)), (.ptr 9 (0))]), (11, .c (.own 11 out11_0.length 4)), (22, .i n1), (23, .i t23_0), (24, .b (decide (t23_0 < n1)))] [(3, .pure ([(AV.bytes b3_0)])), (8, .pure ([(AV.int at8_0)])), (9, .pure ([(AV.b8 flip9_0)])), (11, .pure (out11_0.flatMap GValue.cs))] Y ⟨TLes.same _, TLes.same _, TLes.same _, TLes.same _, (fun _ => .same _), TLes.same _, TLes.same _, TLes.same _, TLes.same _, trivial⟩ ⟨Y, Y, Y, Y, trivial⟩ ?_
    refine RunW_nil ?_
    refine AW2_seq ?_
    refine AW2_if (p := t23_0 < n1) Y (fun h3 => ?_) (fun h3 => ?_)
    ·replace H := ite_then h3 H
     refine AW2_st [(2, .i down2), (3, .q 3 (0)), (8, .q 8 (0)), (9, .q 9 (0)), (10, .clo 53 [(.ptr 8 (0)), (.ptr 3 (0)), (.ptr 9 (0))]), (11, .c (.own 11 out11_0.length 4)), (22, .i n1), (23, .i t23_0)] [(3, .pure ([(AV.bytes b3_0)])), (8, .pure ([(AV.int at8_0)])), (9, .pure ([(AV.b8 flip9_0)])), (11, .pure (out11_0.flatMap GValue.cs))] Y ⟨TLes.same _, TLes.same _, TLes.same _, TLes.same _, (fun _ => .same _), TLes.same _, TLes.same _, TLes.same _, trivial⟩ ⟨Y, Y, Y, Y, trivial⟩ ?_
     refine AW2_skip ?_
     refine AW2_seq ?_
     refine AW2_block ?_
     refine sg [0, 1] Y ?_
     refine rp Y Y (p_move Y Y) ?_
     refine rp Y Y (p_asg Y Y) ?_
     refine RunW_st [(2, .i down2), (3, .q 3 (0)), (8, .q 8 (0)), (9, .q 9 (0)), (10, .clo 53 [(.ptr 8 (0)), (.ptr 3 (0)), (.ptr 9 (0))]), (11, .c (.own 11 out11_0.length 4)), (12, .i t23_0), (22, .i n1), (23, .i t23_0)] [(3, .pure ([(AV.bytes b3_0)])), (8, .pure ([(AV.int at8_0)])), (9, .pure ([(AV.b8 flip9_0)])), (11, .pure (out11_0.flatMap GValue.cs))] Y ⟨TLes.same _, TLes.same _, TLes.same _, TLes.same _, (fun _ => .same _), TLes.same _, TLes.same _, TLes.same _, TLes.same _, trivial⟩ ⟨Y, Y, Y, Y, trivial⟩ ?_
     refine RunW_nil ?_
     refine sg [0] Y ?_
     refine r_op Y Y (u_st Y Y Y Y Y in_5 Y (List.cons_ne_nil _ _) (Upd.refl (rfl.trans rfl.symm))) ?_
     refine RunW_st [(2, .i down2), (3, .q 3 (0)), (8, .q 8 (0)), (9, .q 9 (0)), (10, .clo 53 [(.ptr 8 (0)), (.ptr 3 (0)), (.ptr 9 (0))]), (11, .c (.own 11 out11_0.length 4)), (12, .i t23_0), (22, .i n1), (23, .i t23_0)] [(3, .pure ([(AV.bytes b3_0)])), (8, .pure ([(AV.int at8_0)])), (9, .pure ([(AV.b8 (0 : UInt8))])), (11, .pure (out11_0.flatMap GValue.cs))] Y ⟨TLes.same _, TLes.same _, TLes.same _, TLes.same _, (fun _ => .same _), TLes.same _, TLes.same _, TLes.same _, TLes.same _, trivial⟩ ⟨Y, Y, Y, Y, trivial⟩ ?_
     refine RunW_nil ?_
     refine AW2_seq ?_
     refine bindK H fun j'1 h4 H => ?_
     refine AW2_mid (⟨[(2, .i down2), (3, .q 3 (0)), (8, .q 8 (0)), (9, .q 9 (0)), (10, .clo 53 [(.ptr 8 (0)), (.ptr 3 (0)), (.ptr 9 (0))]), (11, .c (.own 11 out11_0.length 4)), (22, .i n1), (23, .i t23_0)], [(3, .pure ([(AV.bytes b3_0)])), (8, .pure ([(AV.int at8_0)])), (9, .pure ([(AV.b8 j'1)])), (11, .pure (out11_0.flatMap GValue.cs))], 49⟩ : TS) ?_ ?_
     ·clear H
      have H := h4
      clear h4
      refine sg [0, 1, 2, 3, 4] Y ?_
      refine rp Y Y (p_move Y Y) ?_
      refine rp Y Y (p_move Y Y) ?_
      refine chkK H fun h5 H => ?_
      refine rp Y Y (p_ishr (n := t23_0.toNat) Y Y Y (Int.toNat_of_nonneg h5).symm) ?_
      refine rp Y Y (p_bin Y Y Y Y) ?_
      refine rp Y Y (p_ieq Y Y Y) ?_
      refine RunW_st [(2, .i down2), (3, .q 3 (0)), (8, .q 8 (0)), (9, .q 9 (0)), (10, .clo 53 [(.ptr 8 (0)), (.ptr 3 (0)), (.ptr 9 (0))]), (11, .c (.own 11 out11_0.length 4)), (22, .i n1), (23, .i t23_0), (30, .b (decide (iand (ishr down2 t23_0.toNat) (1 : Int) = (1 : Int))))] [(3, .pure ([(AV.bytes b3_0)])), (8, .pure ([(AV.int at8_0)])), (9, .pure ([(AV.b8 (0 : UInt8))])), (11, .pure (out11_0.flatMap GValue.cs))] Y ⟨TLes.same _, TLes.same _, TLes.same _, TLes.same _, (fun _ => .same _), TLes.same _, TLes.same _, TLes.same _, TLes.same _, trivial⟩ ⟨Y, Y, Y, Y, trivial⟩ ?_
      refine RunW_nil ?_
      refine AW2_if (p := iand (ishr down2 t23_0.toNat) (1 : Int) = (1 : Int)) Y (fun h6 => ?_) (fun h6 => ?_)
      ·replace H := ite_then h6 H
       refine AW2_reg [0] Y ?_
       refine r_op Y Y (u_st Y Y Y Y Y in_5 Y (List.cons_ne_nil _ _) (Upd.refl (rfl.trans rfl.symm))) ?_
       refine RunW_st [(2, .i down2), (3, .q 3 (0)), (8, .q 8 (0)), (9, .q 9 (0)), (10, .clo 53 [(.ptr 8 (0)), (.ptr 3 (0)), (.ptr 9 (0))]), (11, .c (.own 11 out11_0.length 4)), (22, .i n1), (23, .i t23_0)] [(3, .pure ([(AV.bytes b3_0)])), (8, .pure ([(AV.int at8_0)])), (9, .pure ([(AV.b8 (255 : UInt8))])), (11, .pure (out11_0.flatMap GValue.cs))] Y ⟨TLes.same _, TLes.same _, TLes.same _, TLes.same _, (fun _ => .same _), TLes.same _, TLes.same _, TLes.same _, trivial⟩ ⟨Y, Y, Y, Y, trivial⟩ ?_
       refine RunW_nil ?_
       have hz := some_elim H
       subst hz
       exact rfl
      ·replace H := ite_else h6 H
       refine AW2_st [(2, .i down2), (3, .q 3 (0)), (8, .q 8 (0)), (9, .q 9 (0)), (10, .clo 53 [(.ptr 8 (0)), (.ptr 3 (0)), (.ptr 9 (0))]), (11, .c (.own 11 out11_0.length 4)), (22, .i n1), (23, .i t23_0)] [(3, .pure ([(AV.bytes b3_0)])), (8, .pure ([(AV.int at8_0)])), (9, .pure ([(AV.b8 (0 : UInt8))])), (11, .pure (out11_0.flatMap GValue.cs))] Y ⟨TLes.same _, TLes.same _, TLes.same _, TLes.same _, (fun _ => .same _), TLes.same _, TLes.same _, TLes.same _, trivial⟩ ⟨Y, Y, Y, Y, trivial⟩ ?_
       refine AW2_skip ?_
       have hz := some_elim H
       subst hz
       exact rfl
     ·refine sg [0, 1, 2, 3, 4, 5, 6, 7] Y ?_
      refine rp Y Y (p_move Y Y) ?_
      refine bindK H fun r'2 h7 H => ?_
      refine r_op Y Y (d_callh [(2100, 8), (2101, 3), (2102, 9)] Y Y Y Tryd.func54 Y Y (g_code_read_i0_ac2 h7) ⟨TLes.same _, trivial⟩ ⟨Y, Y, Y, trivial⟩ Y Y) ?_
      refine rp Y Y (p_move Y Y) ?_
      refine rp Y Y (p_ext2 Y Y Y Y) ?_
      refine rp Y Y (p_ext2 Y Y Y Y) ?_
      refine r_op Y Y (MakeD.opD (u_alloc 13 Y in_24 one_24 zc_24) Y Y Y Y) ?_
      refine r_op Y Y (u_st Y Y Y Y Y in_24 (GValue.len r'2.1) (nl (GValue.len GValue.zero)) (Upd.refl ((GValue.len r'2.1).trans (GValue.len GValue.zero).symm))) ?_
      refine rp Y Y (p_asg Y Y) ?_
      refine RunW_st [(2, .i down2), (3, .q 3 (0)), (8, .q 8 (0)), (9, .q 9 (0)), (10, .clo 53 [(.ptr 8 (0)), (.ptr 3 (0)), (.ptr 9 (0))]), (11, .c (.own 11 out11_0.length 4)), (13, .q 13 (0)), (14, .i r'2.2.1), (22, .i n1), (23, .i t23_0)] [(3, .pure ([(AV.bytes r'2.2.2.2.1)])), (8, .pure ([(AV.int r'2.2.2.1)])), (9, .pure ([(AV.b8 r'2.2.2.2.2)])), (11, .pure (out11_0.flatMap GValue.cs)), (13, .pure (GValue.cs r'2.1))] Y ⟨TLes.same _, TLes.same _, TLes.same _, TLes.same _, (fun _ => .same _), TLes.same _, TLes.same _, TLes.same _, TLes.same _, TLes.same _, trivial⟩ ⟨Y, Y, Y, Y, Y, trivial⟩ ?_
      refine RunW_nil ?_
      refine AW2_seq ?_
      refine sg [0, 1] Y ?_
      refine rp Y Y (p_move Y Y) ?_
      refine rp Y Y (p_ine Y Y Y) ?_
      refine RunW_st [(2, .i down2), (3, .q 3 (0)), (8, .q 8 (0)), (9, .q 9 (0)), (10, .clo 53 [(.ptr 8 (0)), (.ptr 3 (0)), (.ptr 9 (0))]), (11, .c (.own 11 out11_0.length 4)), (13, .q 13 (0)), (14, .i r'2.2.1), (22, .i n1), (23, .i t23_0), (37, .b (decide (r'2.2.1 ≠ (0 : Int))))] [(3, .pure ([(AV.bytes r'2.2.2.2.1)])), (8, .pure ([(AV.int r'2.2.2.1)])), (9, .pure ([(AV.b8 r'2.2.2.2.2)])), (11, .pure (out11_0.flatMap GValue.cs)), (13, .pure (GValue.cs r'2.1))] Y ⟨TLes.same _, TLes.same _, TLes.same _, TLes.same _, (fun _ => .same _), TLes.same _, TLes.same _, TLes.same _, TLes.same _, TLes.same _, TLes.same _, trivial⟩ ⟨Y, Y, Y, Y, Y, trivial⟩ ?_
      refine RunW_nil ?_
      refine AW2_if (p := r'2.2.1 ≠ (0 : Int)) Y (fun h8 => ?_) (fun h8 => ?_)
      ·replace H := ite_then h8 H
       refine sg [0, 1, 2] Y ?_
       refine rp Y Y (p_move Y Y) ?_
       refine rp Y Y (p_asgn Y) ?_
       refine rp Y Y (p_asg Y Y) ?_
       refine rz [(6, .p .nil), (7, .i r'2.2.1)] [] Y Y Y ?_
       refine as2 [(6, .p .nil), (7, .i r'2.2.1)] [] Y Y Y ?_
       refine AW2_gho (Gho_own (d := 6) (b := 6) (z := 4) Y Y Y Y) ?_
       refine AW2_st [(6, .c (.own 6 ([] : List GValue).length 4)), (7, .i r'2.2.1)] [(6, .pure (([] : List GValue).flatMap GValue.cs))] Y ⟨TLes.own Y, TLes.same _, trivial⟩ ⟨Y, trivial⟩ ?_
       refine AW2_ret ?_
       have hz := some_elim H
       subst hz
       exact ⟨Y, ⟨res_tmp (.same _), res_tmp (.same _), trivial⟩, ⟨Y, trivial⟩⟩
      ·replace H := ite_else h8 H
       refine AW2_st [(2, .i down2), (3, .q 3 (0)), (8, .q 8 (0)), (9, .q 9 (0)), (10, .clo 53 [(.ptr 8 (0)), (.ptr 3 (0)), (.ptr 9 (0))]), (11, .c (.own 11 out11_0.length 4)), (13, .q 13 (0)), (22, .i n1), (23, .i t23_0)] [(3, .pure ([(AV.bytes r'2.2.2.2.1)])), (8, .pure ([(AV.int r'2.2.2.1)])), (9, .pure ([(AV.b8 r'2.2.2.2.2)])), (11, .pure (out11_0.flatMap GValue.cs)), (13, .pure (GValue.cs r'2.1))] Y ⟨TLes.same _, TLes.same _, TLes.same _, TLes.same _, (fun _ => .same _), TLes.same _, TLes.same _, TLes.same _, TLes.same _, trivial⟩ ⟨Y, Y, Y, Y, Y, trivial⟩ ?_
       refine AW2_skip ?_
       refine AW2_reg [0, 1, 2, 3, 4] Y ?_
       refine rp Y Y (p_move Y Y) ?_
       refine rp Y Y (u_lda Y Y Tryd.underlying24 Y in_24 Y (Nat.succ_pos _) (Sub.refl _) (GValue.len r'2.1)) ?_
       refine r_op Y Y (MakeD.opD (u_bs 41 Y Tryd.underlying32 in_24 Y one_24 (by decide) (by decide) zc_24 Y (af_lit (g := GValue.cs) (fun x => (GValue.len x)) (GValue.len GValue.zero) [r'2.1])) Y Y Y Y) ?_
       refine chkK H fun h9 H => ?_
       refine r_op Y Y (u_app [11, 39] Y Y Y Y Tryd.underlying32 Tryd.underlying32 in_24 Y Y Y (fm_length (fun x => (GValue.len x)) out11_0) (by decide) (srcT_o Y Y (fm_length (fun x => (GValue.len x)) ([r'2.1] : List GValue)) (by decide)) (fm_length (fun x => (GValue.len x)) ([r'2.1] : List GValue)) h9 (by decide) Y Y (fapp GValue.cs out11_0 ([r'2.1] : List GValue)) (lapp out11_0 ([r'2.1] : List GValue))) ?_
       refine rp Y Y (p_asg Y Y) ?_
       refine RunW_st [(2, .i down2), (3, .q 3 (0)), (8, .q 8 (0)), (9, .q 9 (0)), (10, .clo 53 [(.ptr 8 (0)), (.ptr 3 (0)), (.ptr 9 (0))]), (11, .c (.own 11 (out11_0 ++ ([r'2.1] : List GValue)).length 4)), (22, .i n1), (23, .i t23_0)] [(3, .pure ([(AV.bytes r'2.2.2.2.1)])), (8, .pure ([(AV.int r'2.2.2.1)])), (9, .pure ([(AV.b8 r'2.2.2.2.2)])), (11, .pure ((out11_0 ++ ([r'2.1] : List GValue)).flatMap GValue.cs))] Y ⟨TLes.same _, TLes.same _, TLes.same _, TLes.same _, (fun _ => .same _), TLes.same _, TLes.same _, TLes.same _, trivial⟩ ⟨Y, Y, Y, Y, trivial⟩ ?_
       refine RunW_nil ?_
       refine AW2_reg [0, 1] Y ?_
       refine rp Y Y (p_bin Y Y Y Y) ?_
       refine rp Y Y (p_move Y Y) ?_
       refine RunW_st [(2, .i down2), (3, .q 3 (0)), (8, .q 8 (0)), (9, .q 9 (0)), (10, .clo 53 [(.ptr 8 (0)), (.ptr 3 (0)), (.ptr 9 (0))]), (11, .c (.own 11 (out11_0 ++ ([r'2.1] : List GValue)).length 4)), (22, .i n1), (23, .i (w64 (t23_0 + (1 : Int))))] [(3, .pure ([(AV.bytes r'2.2.2.2.1)])), (8, .pure ([(AV.int r'2.2.2.1)])), (9, .pure ([(AV.b8 r'2.2.2.2.2)])), (11, .pure ((out11_0 ++ ([r'2.1] : List GValue)).flatMap GValue.cs))] Y ⟨TLes.same _, TLes.same _, TLes.same _, TLes.same _, (fun _ => .same _), TLes.same _, TLes.same _, TLes.same _, trivial⟩ ⟨Y, Y, Y, Y, trivial⟩ ?_
       refine RunW_nil ?_
       have hz := some_elim H
       subst hz
       exact ⟨Y, Y⟩
    ·replace H := ite_else h3 H
     refine as2 [(3, .q 3 (0)), (8, .q 8 (0)), (11, .c (.own 11 out11_0.length 4))] [(3, .pure ([(AV.bytes b3_0)])), (8, .pure ([(AV.int at8_0)])), (11, .pure (out11_0.flatMap GValue.cs))] Y Y Y ?_
     refine AW2_exit ?_
     refine thenQ2_exit ?_
     have hz := some_elim H
     subst hz
     exact ⟨Y, Y⟩
   ·rcases o'6 with y'7 | y'8
    ·obtain ⟨rfl, hs⟩ := hs
     refine ⟨by simp, ?_⟩
     have hz := some_elim H
     subst hz
     exact ⟨hs.1, hs.2⟩
    ·obtain ⟨rfl, rfl⟩ := hs
     refine ⟨by simp, ?_⟩
     refine blockQ2_exit ?_
     refine AW2_seq ?_
     refine sg [0, 1, 2, 3] Y ?_
     refine rp Y Y (u_ld Y Y Tryd.underlying3 Y Y (Sub.refl _)) ?_
     refine rp Y Y (u_ld Y Y Tryd.underlying33 Y Y (Sub.refl _)) ?_
     refine rp Y Y (p_lenl Y Tryd.underlying33 Y Y) ?_
     refine rp Y Y (p_ine Y Y Y) ?_
     refine rz [(11, .c (.own 11 y'8.2.2.length 4)), (47, .b (decide (y'8.2.1 ≠ (y'8.1.length : Int))))] [(11, .pure (y'8.2.2.flatMap GValue.cs))] Y Y Y ?_
     refine AW2_if (p := y'8.2.1 ≠ (y'8.1.length : Int)) Y (fun h11 => ?_) (fun h11 => ?_)
     ·replace H := ite_then h11 H
      refine sg [0, 1] Y ?_
      refine rp Y Y (p_asgn Y) ?_
      refine rp Y Y (p_asg Y Y) ?_
      refine rz [(6, .p .nil), (7, .i (3 : Int))] [] Y Y Y ?_
      refine as2 [(6, .p .nil), (7, .i (3 : Int))] [] Y Y Y ?_
      refine AW2_gho (Gho_own (d := 6) (b := 6) (z := 4) Y Y Y Y) ?_
      refine AW2_st [(6, .c (.own 6 ([] : List GValue).length 4)), (7, .i (3 : Int))] [(6, .pure (([] : List GValue).flatMap GValue.cs))] Y ⟨TLes.own Y, TLes.same _, trivial⟩ ⟨Y, trivial⟩ ?_
      refine AW2_ret ?_
      have hz := some_elim H
      subst hz
      exact ⟨⟨res_tmp (.same _), res_tmp (.same _), trivial⟩, ⟨Y, trivial⟩⟩
     ·replace H := ite_else h11 H
      refine as2 [(11, .c (.own 11 y'8.2.2.length 4))] [(11, .pure (y'8.2.2.flatMap GValue.cs))] Y Y Y ?_
      refine AW2_skip ?_
      refine sg [0, 1, 2] Y ?_
      refine rp Y Y (p_move Y Y) ?_
      refine rp Y Y (p_asg Y Y) ?_
      refine rp Y Y (p_asg Y Y) ?_
      refine rs [(6, .c (.own 11 y'8.2.2.length 4)), (7, .i (0 : Int))] [(11, .pure (y'8.2.2.flatMap GValue.cs))] Y Y Y ?_
      refine RunW_gho (Gho_ren 11 6 Y Y Y Y Y) ?_
      refine rz [(6, .c (.own 6 y'8.2.2.length 4)), (7, .i (0 : Int))] [(6, .pure (y'8.2.2.flatMap GValue.cs))] Y Y Y ?_
      refine as2 [(6, .c (.own 6 y'8.2.2.length 4)), (7, .i (0 : Int))] [(6, .pure (y'8.2.2.flatMap GValue.cs))] Y Y Y ?_
      refine AW2_ret ?_
      have hz := some_elim H
      subst hz
      exact ⟨⟨res_tmp (.same _), res_tmp (.same _), trivial⟩, ⟨Y, trivial⟩⟩
theorem g_code_Decode_ac {b0 : List UInt8} {n1 : Int} {down2 : Int} {r : (List GValue) × Int} (H : g_code_Decode b0 n1 down2 = some r) : ACp Tryd.prog 24 [(AV.bytes b0), (AV.int n1), (AV.int down2)] (.tup [((fun q : List GValue => AV.lst (q.flatMap GValue.cs) q.length) r.1), (AV.int r.2)]) := ACp_pub (g_code_Decode_ac2 H) (fun _ _ hm => lent_tup ⟨lent_own hm rfl (fm_length (fun x => (GValue.len x)) r.1) (by decide), .same _, trivial⟩)

/-! chirographref.textOf -/
noncomputable def g_ref_textOf_l0 (s0 : List UInt8) : (List UInt8) × Int → Option (((List UInt8) × Int) ⊕ ((GValue × Int × Int) ⊕ Unit))
  | (t5_0, i6_0) => (if i6_0 < (s0.length : Int) then if 0 ≤ i6_0 ∧ i6_0 ≤ w64 (i6_0 + (1 : Int)) ∧ w64 (i6_0 + (1 : Int)) ≤ (s0.length : Int) then (show Option ((Unit ⊕ (GValue × Int × Int)) ⊕ Int) from (if (cut s0 i6_0 (w64 (i6_0 + (1 : Int)))) = [0] then (if w64 (i6_0 + (1 : Int)) = (s0.length : Int) then some (.inl (.inl ())) else if 0 ≤ w64 (i6_0 + (1 : Int)) ∧ w64 (i6_0 + (1 : Int)) < (s0.length : Int) then (if (lrd s0 ((w64 (i6_0 + (1 : Int))).toNat)) = (1 : UInt8) then (g_utf8_ValidString t5_0).bind fun r'4 => (if (!r'4) = true then some (.inl (.inr (GValue.zero, (0 : Int), (3 : Int)))) else some (.inl (.inr ({ { GValue.zero with Kind := (4 : Int) } with Text := t5_0 }, w64 ((w64 (i6_0 + (1 : Int))) + (2 : Int)), (0 : Int))))) else if 0 ≤ w64 (i6_0 + (1 : Int)) ∧ w64 (i6_0 + (1 : Int)) < (s0.length : Int) then (if (lrd s0 ((w64 (i6_0 + (1 : Int))).toNat)) ≠ (255 : UInt8) then some (.inl (.inr (GValue.zero, (0 : Int), (3 : Int)))) else some (.inr (w64 (i6_0 + (1 : Int))))) else none) else none) else some (.inr i6_0))).bind fun o'7 => match o'7 with | .inl (.inl y'5) => some (.inr (.inr ())) | .inl (.inr (y'6)) => some (.inr (.inl y'6)) | .inr j'1 => if t5_0.length + (cut s0 i6_0 (w64 (i6_0 + (1 : Int)))).length ≤ 9223372036854775807 then (if ((t5_0 ++ (cut s0 i6_0 (w64 (i6_0 + (1 : Int))))).length : Int) > (40 : Int) then some (.inr (.inl (GValue.zero, (0 : Int), (1 : Int)))) else some (.inl (t5_0 ++ (cut s0 i6_0 (w64 (i6_0 + (1 : Int)))), w64 (j'1 + (1 : Int))))) else none else none else some (.inr (.inr ())))
noncomputable def g_ref_textOf (s0 : List UInt8) : Option (GValue × Int × Int) :=
  (loopO (g_ref_textOf_l0 s0) ([], (0 : Int))).bind fun o'12 => match o'12 with | .inl y'13 => some y'13 | .inr (y'14) => some (GValue.zero, (0 : Int), (4 : Int))
set_option maxHeartbeats 4000000 in
set_option maxRecDepth 100000 in
theorem g_ref_textOf_ac {s0 : List UInt8} {r : GValue × Int × Int} (H : g_ref_textOf s0 = some r) : ACp Tryd.prog 76 [(AV.txt s0)] (.tup [(.agg (GValue.cs r.1)), (AV.int r.2.1), (AV.int r.2.2)]) := by
 refine ACp_of (AC2_of_body (vs := [.g (GValue.cs r.1), .i r.2.1, .i r.2.2]) Tryd.func76 Y Y (Nat.le_of_ble_eq_true Y) Y ?_) (fun _ => .same _)
 unfold g_ref_textOf at H
 refine as2 [(0, .t s0)] [] Y Y Y ?_
 refine sg [0, 1, 2] Y ?_
 refine r_op Y Y (MakeD.opD (u_alloc 2 Y in_24 one_24 zc_24) Y Y Y Y) ?_
 refine rp Y Y (p_asg Y Y) ?_
 refine rp Y Y (p_asg Y Y) ?_
 refine rz [(0, .t s0), (2, .q 2 (0))] [(2, .pure (GValue.cs GValue.zero))] Y Y Y ?_
 refine sg [0] Y ?_
 refine rp Y Y (p_asg Y Y) ?_
 refine rz [(0, .t s0), (2, .q 2 (0)), (5, .t [])] [(2, .pure (GValue.cs GValue.zero))] Y Y Y ?_
 refine AW2_seq ?_
 refine sg [0] Y ?_
 refine rp Y Y (p_asg Y Y) ?_
 refine rz [(0, .t s0), (2, .q 2 (0)), (5, .t []), (6, .i (0 : Int))] [(2, .pure (GValue.cs GValue.zero))] Y Y Y ?_
 refine AW2_block ?_
 refine as2 [(0, .t s0), (2, .q 2 (0)), (5, .t []), (6, .i (0 : Int))] [(2, .pure (GValue.cs GValue.zero))] Y Y Y ?_
 refine bindK H fun o'12 h14 H => ?_
 refine AW2_loopO (fun a'9 : (List UInt8) × Int => (⟨[(0, .t s0), (2, .q 2 (0)), (5, .t a'9.1), (6, .i a'9.2)], [(2, .pure (GValue.cs GValue.zero))], 52⟩ : TS)) (fun (o : (GValue × Int × Int) ⊕ Unit) e s' => match o with | .inl y'10 => e = Go.Exit.ret ∧ ResAll Tryd.prog s' [ResultVar.cell 2 24, ResultVar.tmp 3, ResultVar.tmp 4] [.g (GValue.cs y'10.1), .i y'10.2.1, .i y'10.2.2] ∧ HFits s' [] | .inr (y'11) => e = Go.Exit.exit 0 ∧ s' = (⟨[(2, .q 2 (0))], [(2, .pure (GValue.cs GValue.zero))], 52⟩ : TS)) h14 Y (fun a x hx => ?_) (fun e s' hs => ?_)
 ·clear H
  obtain ⟨t5_0, i6_0⟩ := a
  have H := hx
  clear hx
  unfold g_ref_textOf_l0 at H
  refine AW2_seq ?_
  refine sg [0, 1, 2, 3] Y ?_
  refine rp Y Y (p_move Y Y) ?_
  refine rp Y Y (p_move Y Y) ?_
  refine rp Y Y (p_lent Y Tryd.underlying9 Y) ?_
  refine rp Y Y (p_bin Y Y Y Y) ?_
  refine rz [(0, .t s0), (2, .q 2 (0)), (5, .t t5_0), (6, .i i6_0), (11, .b (decide (i6_0 < (s0.length : Int))))] [(2, .pure (GValue.cs GValue.zero))] Y Y Y ?_
  refine AW2_if (p := i6_0 < (s0.length : Int)) Y (fun h1 => ?_) (fun h1 => ?_)
  ·replace H := ite_then h1 H
   refine as2 [(0, .t s0), (2, .q 2 (0)), (5, .t t5_0), (6, .i i6_0)] [(2, .pure (GValue.cs GValue.zero))] Y Y Y ?_
   refine AW2_skip ?_
   refine AW2_seq ?_
   refine AW2_block ?_
   refine sg [0, 1, 2, 3, 4, 5] Y ?_
   refine rp Y Y (p_move Y Y) ?_
   refine rp Y Y (p_move Y Y) ?_
   refine rp Y Y (p_move Y Y) ?_
   refine rp Y Y (p_bin Y Y Y Y) ?_
   refine chkK H fun h2 H => ?_
   refine rp Y Y (u_cutt (a := i6_0) (b := w64 (i6_0 + (1 : Int))) Y Tryd.underlying9 Y (bT_i (show 0 ≤ i6_0 ∧ i6_0 ≤ w64 (i6_0 + (1 : Int)) ∧ w64 (i6_0 + (1 : Int)) ≤ (s0.length : Int) from h2).1 Y) (bT_i (Int.le_trans (show 0 ≤ i6_0 ∧ i6_0 ≤ w64 (i6_0 + (1 : Int)) ∧ w64 (i6_0 + (1 : Int)) ≤ (s0.length : Int) from h2).1 (show 0 ≤ i6_0 ∧ i6_0 ≤ w64 (i6_0 + (1 : Int)) ∧ w64 (i6_0 + (1 : Int)) ≤ (s0.length : Int) from h2).2.1) Y) (show 0 ≤ i6_0 ∧ i6_0 ≤ w64 (i6_0 + (1 : Int)) ∧ w64 (i6_0 + (1 : Int)) ≤ (s0.length : Int) from h2)) ?_
   refine rp Y Y (p_asg Y Y) ?_
   refine rz [(0, .t s0), (2, .q 2 (0)), (5, .t t5_0), (6, .i i6_0), (7, .t (cut s0 i6_0 (w64 (i6_0 + (1 : Int)))))] [(2, .pure (GValue.cs GValue.zero))] Y Y Y ?_
   refine AW2_seq ?_
   refine bindK H fun o'7 h3 H => ?_
   refine AW2_join (fun j'1 : Int => (⟨[(0, .t s0), (2, .q 2 (0)), (5, .t t5_0), (6, .i j'1), (7, .t (cut s0 i6_0 (w64 (i6_0 + (1 : Int)))))], [(2, .pure (GValue.cs GValue.zero))], 52⟩ : TS)) (fun (o : Unit ⊕ (GValue × Int × Int)) e s' => match o with | .inl y'2 => e = Go.Exit.exit 0 ∧ s' = (⟨[(2, .q 2 (0))], [(2, .pure (GValue.cs GValue.zero))], 52⟩ : TS) | .inr (y'3) => e = Go.Exit.ret ∧ ResAll Tryd.prog s' [ResultVar.cell 2 24, ResultVar.tmp 3, ResultVar.tmp 4] [.g (GValue.cs y'3.1), .i y'3.2.1, .i y'3.2.2] ∧ HFits s' []) (x := o'7) ?_ (fun j'1 hy => ?_) (fun z'8 e s' hy hs => ?_)
   ·clear H
    have H := h3
    clear h3
    refine sg [0, 1] Y ?_
    refine rp Y Y (p_move Y Y) ?_
    refine rp Y Y (p_seq Y Y Y) ?_
    refine rz [(0, .t s0), (2, .q 2 (0)), (5, .t t5_0), (6, .i i6_0), (7, .t (cut s0 i6_0 (w64 (i6_0 + (1 : Int))))), (20, .b (decide ((cut s0 i6_0 (w64 (i6_0 + (1 : Int)))) = [0])))] [(2, .pure (GValue.cs GValue.zero))] Y Y Y ?_
    refine AW2_if (p := (cut s0 i6_0 (w64 (i6_0 + (1 : Int)))) = [0]) Y (fun h4 => ?_) (fun h4 => ?_)
    ·replace H := ite_then h4 H
     refine sg [0, 1, 2] Y ?_
     refine rp Y Y (p_move Y Y) ?_
     refine rp Y Y (p_bin Y Y Y Y) ?_
     refine rp Y Y (p_asg Y Y) ?_
     refine rz [(0, .t s0), (2, .q 2 (0)), (5, .t t5_0), (6, .i (w64 (i6_0 + (1 : Int)))), (7, .t (cut s0 i6_0 (w64 (i6_0 + (1 : Int)))))] [(2, .pure (GValue.cs GValue.zero))] Y Y Y ?_
     refine AW2_seq ?_
     refine sg [0, 1, 2, 3] Y ?_
     refine rp Y Y (p_move Y Y) ?_
     refine rp Y Y (p_move Y Y) ?_
     refine rp Y Y (p_lent Y Tryd.underlying9 Y) ?_
     refine rp Y Y (p_ieq Y Y Y) ?_
     refine rz [(0, .t s0), (2, .q 2 (0)), (5, .t t5_0), (6, .i (w64 (i6_0 + (1 : Int)))), (7, .t (cut s0 i6_0 (w64 (i6_0 + (1 : Int))))), (26, .b (decide (w64 (i6_0 + (1 : Int)) = (s0.length : Int))))] [(2, .pure (GValue.cs GValue.zero))] Y Y Y ?_
     refine AW2_if (p := w64 (i6_0 + (1 : Int)) = (s0.length : Int)) Y (fun h5 => ?_) (fun h5 => ?_)
     ·replace H := ite_then h5 H
      refine as2 [(2, .q 2 (0))] [(2, .pure (GValue.cs GValue.zero))] Y Y Y ?_
      refine AW2_exit ?_
      refine thenQ2_exit ?_
      have hz := some_elim H
      subst hz
      exact ⟨Y, Y⟩
     ·replace H := ite_else h5 H
      refine as2 [(0, .t s0), (2, .q 2 (0)), (5, .t t5_0), (6, .i (w64 (i6_0 + (1 : Int)))), (7, .t (cut s0 i6_0 (w64 (i6_0 + (1 : Int)))))] [(2, .pure (GValue.cs GValue.zero))] Y Y Y ?_
      refine AW2_skip ?_
      refine AW2_seq ?_
      refine sg [0, 1, 2, 3] Y ?_
      refine rp Y Y (p_move Y Y) ?_
      refine rp Y Y (p_move Y Y) ?_
      refine chkK H fun h6 H => ?_
      refine rp Y Y (p_ixt Y Tryd.underlying9 Y Y (ixe h6) (lrd_get (ixn h6))) ?_
      refine rp Y Y (p_u8eq (a := (lrd s0 ((w64 (i6_0 + (1 : Int))).toNat))) (b := (1 : UInt8)) Y Y Y) ?_
      refine rz [(0, .t s0), (2, .q 2 (0)), (5, .t t5_0), (6, .i (w64 (i6_0 + (1 : Int)))), (7, .t (cut s0 i6_0 (w64 (i6_0 + (1 : Int))))), (30, .b (decide ((lrd s0 ((w64 (i6_0 + (1 : Int))).toNat)) = (1 : UInt8))))] [(2, .pure (GValue.cs GValue.zero))] Y Y Y ?_
      refine AW2_if (p := (lrd s0 ((w64 (i6_0 + (1 : Int))).toNat)) = (1 : UInt8)) Y (fun h7 => ?_) (fun h7 => ?_)
      ·replace H := ite_then h7 H
       refine AW2_seq ?_
       refine sg [0, 1, 2] Y ?_
       refine rp Y Y (p_move Y Y) ?_
       refine bindK H fun r'4 h8 H => ?_
       refine rp Y Y (p_callp Y Y Y Tryd.func40 Y Y (g_utf8_ValidString_ac h8) ⟨Y, trivial⟩) ?_
       refine rp Y Y (p_not Y Y) ?_
       refine rz [(2, .q 2 (0)), (5, .t t5_0), (6, .i (w64 (i6_0 + (1 : Int)))), (33, .b (!r'4))] [(2, .pure (GValue.cs GValue.zero))] Y Y Y ?_
       refine AW2_cond Y (fun h9 => ?_) (fun h9 => ?_)
       ·replace H := ite_then h9 H
        refine sg [0, 1, 2, 3] Y ?_
        refine rp Y Y (u_bld Y in_24 one_24 zc_24 pl_24 Y Y) ?_
        refine r_op Y Y (u_st Y Y Y Y Y in_24 (GValue.len GValue.zero) (nl (GValue.len GValue.zero)) (Upd.refl ((GValue.len GValue.zero).trans (GValue.len GValue.zero).symm))) ?_
        refine rp Y Y (p_asg Y Y) ?_
        refine rp Y Y (p_asg Y Y) ?_
        refine rz [(2, .q 2 (0)), (3, .i (0 : Int)), (4, .i (3 : Int))] [(2, .pure (GValue.cs GValue.zero))] Y Y Y ?_
        refine AW2_ret ?_
        have hz := some_elim H
        subst hz
        exact ⟨Y, ⟨res_cella Tryd.underlying24 Y in_24.sz Y (Sub.le (Sub.refl _) (GValue.len GValue.zero)) (by decide) (Sub.take (Sub.refl _) (GValue.len GValue.zero)), res_tmp (.same _), res_tmp (.same _), trivial⟩, trivial⟩
       ·replace H := ite_else (ne_true h9) H
        refine as2 [(2, .q 2 (0)), (5, .t t5_0), (6, .i (w64 (i6_0 + (1 : Int))))] [(2, .pure (GValue.cs GValue.zero))] Y Y Y ?_
        refine AW2_skip ?_
        refine sg [0, 1, 2, 3, 4, 5, 6] Y ?_
        refine rp Y Y (p_move Y Y) ?_
        refine rp Y Y (u_bld Y in_24 one_24 zc_24 pl_24 Y (af_cons Y Y (GValue.upd0 GValue.zero (4 : Int)) (af_cons Y Y (GValue.upd3 ((GValue.w0 GValue.zero (4 : Int))) t5_0) Y))) ?_
        refine rp Y Y (p_move Y Y) ?_
        refine rp Y Y (p_bin Y Y Y Y) ?_
        refine r_op Y Y (u_st Y Y Y Y Y in_24 (GValue.len ((GValue.w3 (GValue.w0 GValue.zero (4 : Int)) t5_0))) (nl (GValue.len GValue.zero)) (Upd.refl ((GValue.len ((GValue.w3 (GValue.w0 GValue.zero (4 : Int)) t5_0))).trans (GValue.len GValue.zero).symm))) ?_
        refine rp Y Y (p_asg Y Y) ?_
        refine rp Y Y (p_asg Y Y) ?_
        refine rz [(2, .q 2 (0)), (3, .i (w64 ((w64 (i6_0 + (1 : Int))) + (2 : Int)))), (4, .i (0 : Int))] [(2, .pure (GValue.cs ((GValue.w3 (GValue.w0 GValue.zero (4 : Int)) t5_0))))] Y Y Y ?_
        refine AW2_ret ?_
        have hz := some_elim H
        subst hz
        exact ⟨Y, ⟨res_cella Tryd.underlying24 Y in_24.sz Y (Sub.le (Sub.refl _) (GValue.len ((GValue.w3 (GValue.w0 GValue.zero (4 : Int)) t5_0)))) (by decide) (Sub.take (Sub.refl _) (GValue.len ((GValue.w3 (GValue.w0 GValue.zero (4 : Int)) t5_0)))), res_tmp (.same _), res_tmp (.same _), trivial⟩, trivial⟩
      ·replace H := ite_else h7 H
       refine as2 [(0, .t s0), (2, .q 2 (0)), (5, .t t5_0), (6, .i (w64 (i6_0 + (1 : Int)))), (7, .t (cut s0 i6_0 (w64 (i6_0 + (1 : Int)))))] [(2, .pure (GValue.cs GValue.zero))] Y Y Y ?_
       refine AW2_skip ?_
       refine sg [0, 1, 2, 3] Y ?_
       refine rp Y Y (p_move Y Y) ?_
       refine rp Y Y (p_move Y Y) ?_
       refine chkK H fun h10 H => ?_
       refine rp Y Y (p_ixt Y Tryd.underlying9 Y Y (ixe h10) (lrd_get (ixn h10))) ?_
       refine rp Y Y (p_u8ne (a := (lrd s0 ((w64 (i6_0 + (1 : Int))).toNat))) (b := (255 : UInt8)) Y Y Y) ?_
       refine rz [(0, .t s0), (2, .q 2 (0)), (5, .t t5_0), (6, .i (w64 (i6_0 + (1 : Int)))), (7, .t (cut s0 i6_0 (w64 (i6_0 + (1 : Int))))), (42, .b (decide ((lrd s0 ((w64 (i6_0 + (1 : Int))).toNat)) ≠ (255 : UInt8))))] [(2, .pure (GValue.cs GValue.zero))] Y Y Y ?_
       refine AW2_if (p := (lrd s0 ((w64 (i6_0 + (1 : Int))).toNat)) ≠ (255 : UInt8)) Y (fun h11 => ?_) (fun h11 => ?_)
       ·replace H := ite_then h11 H
        refine sg [0, 1, 2, 3] Y ?_
        refine rp Y Y (u_bld Y in_24 one_24 zc_24 pl_24 Y Y) ?_
        refine r_op Y Y (u_st Y Y Y Y Y in_24 (GValue.len GValue.zero) (nl (GValue.len GValue.zero)) (Upd.refl ((GValue.len GValue.zero).trans (GValue.len GValue.zero).symm))) ?_
        refine rp Y Y (p_asg Y Y) ?_
        refine rp Y Y (p_asg Y Y) ?_
        refine rz [(2, .q 2 (0)), (3, .i (0 : Int)), (4, .i (3 : Int))] [(2, .pure (GValue.cs GValue.zero))] Y Y Y ?_
        refine AW2_ret ?_
        have hz := some_elim H
        subst hz
        exact ⟨Y, ⟨res_cella Tryd.underlying24 Y in_24.sz Y (Sub.le (Sub.refl _) (GValue.len GValue.zero)) (by decide) (Sub.take (Sub.refl _) (GValue.len GValue.zero)), res_tmp (.same _), res_tmp (.same _), trivial⟩, trivial⟩
       ·replace H := ite_else h11 H
        refine as2 [(0, .t s0), (2, .q 2 (0)), (5, .t t5_0), (6, .i (w64 (i6_0 + (1 : Int)))), (7, .t (cut s0 i6_0 (w64 (i6_0 + (1 : Int)))))] [(2, .pure (GValue.cs GValue.zero))] Y Y Y ?_
        refine AW2_skip ?_
        have hz := some_elim H
        subst hz
        exact ⟨Y, Y⟩
    ·replace H := ite_else h4 H
     refine as2 [(0, .t s0), (2, .q 2 (0)), (5, .t t5_0), (6, .i i6_0), (7, .t (cut s0 i6_0 (w64 (i6_0 + (1 : Int)))))] [(2, .pure (GValue.cs GValue.zero))] Y Y Y ?_
     refine AW2_skip ?_
     have hz := some_elim H
     subst hz
     exact ⟨Y, Y⟩
   ·subst hy
    refine sg [0, 1, 2, 3] Y ?_
    refine rp Y Y (p_move Y Y) ?_
    refine rp Y Y (p_move Y Y) ?_
    refine chkK H fun h12 H => ?_
    refine rp Y Y (p_cat Y Y Y h12) ?_
    refine rp Y Y (p_asg Y Y) ?_
    refine rz [(0, .t s0), (2, .q 2 (0)), (5, .t (t5_0 ++ (cut s0 i6_0 (w64 (i6_0 + (1 : Int)))))), (6, .i j'1)] [(2, .pure (GValue.cs GValue.zero))] Y Y Y ?_
    refine sg [0, 1, 2] Y ?_
    refine rp Y Y (p_move Y Y) ?_
    refine rp Y Y (p_lent Y Tryd.underlying9 Y) ?_
    refine rp Y Y (p_bin Y Y Y Y) ?_
    refine rz [(0, .t s0), (2, .q 2 (0)), (5, .t (t5_0 ++ (cut s0 i6_0 (w64 (i6_0 + (1 : Int)))))), (6, .i j'1), (49, .b (decide (((t5_0 ++ (cut s0 i6_0 (w64 (i6_0 + (1 : Int))))).length : Int) > (40 : Int))))] [(2, .pure (GValue.cs GValue.zero))] Y Y Y ?_
    refine AW2_if (p := ((t5_0 ++ (cut s0 i6_0 (w64 (i6_0 + (1 : Int))))).length : Int) > (40 : Int)) Y (fun h13 => ?_) (fun h13 => ?_)
    ·replace H := ite_then h13 H
     refine sg [0, 1, 2, 3] Y ?_
     refine rp Y Y (u_bld Y in_24 one_24 zc_24 pl_24 Y Y) ?_
     refine r_op Y Y (u_st Y Y Y Y Y in_24 (GValue.len GValue.zero) (nl (GValue.len GValue.zero)) (Upd.refl ((GValue.len GValue.zero).trans (GValue.len GValue.zero).symm))) ?_
     refine rp Y Y (p_asg Y Y) ?_
     refine rp Y Y (p_asg Y Y) ?_
     refine rz [(2, .q 2 (0)), (3, .i (0 : Int)), (4, .i (1 : Int))] [(2, .pure (GValue.cs GValue.zero))] Y Y Y ?_
     refine AW2_ret ?_
     have hz := some_elim H
     subst hz
     exact ⟨Y, ⟨res_cella Tryd.underlying24 Y in_24.sz Y (Sub.le (Sub.refl _) (GValue.len GValue.zero)) (by decide) (Sub.take (Sub.refl _) (GValue.len GValue.zero)), res_tmp (.same _), res_tmp (.same _), trivial⟩, trivial⟩
    ·replace H := ite_else h13 H
     refine as2 [(0, .t s0), (2, .q 2 (0)), (5, .t (t5_0 ++ (cut s0 i6_0 (w64 (i6_0 + (1 : Int)))))), (6, .i j'1)] [(2, .pure (GValue.cs GValue.zero))] Y Y Y ?_
     refine AW2_skip ?_
     refine AW2_reg [0, 1, 2] Y ?_
     refine rp Y Y (p_move Y Y) ?_
     refine rp Y Y (p_bin Y Y Y Y) ?_
     refine rp Y Y (p_asg Y Y) ?_
     refine rz [(0, .t s0), (2, .q 2 (0)), (5, .t (t5_0 ++ (cut s0 i6_0 (w64 (i6_0 + (1 : Int)))))), (6, .i (w64 (j'1 + (1 : Int))))] [(2, .pure (GValue.cs GValue.zero))] Y Y Y ?_
     have hz := some_elim H
     subst hz
     exact ⟨Y, Y⟩
   ·subst hy
    rcases z'8 with y'5 | y'6
    ·obtain ⟨rfl, rfl⟩ := hs
     refine thenQ2_exit ?_
     refine blockQ2_pass (by decide) ?_
     refine thenQ2_exit ?_
     have hz := some_elim H
     subst hz
     exact ⟨Y, Y⟩
    ·obtain ⟨rfl, hs⟩ := hs
     have hz := some_elim H
     subst hz
     exact ⟨Y, hs.1, hs.2⟩
  ·replace H := ite_else h1 H
   refine as2 [(2, .q 2 (0))] [(2, .pure (GValue.cs GValue.zero))] Y Y Y ?_
   refine AW2_exit ?_
   refine thenQ2_exit ?_
   have hz := some_elim H
   subst hz
   exact ⟨Y, Y⟩
 ·rcases o'12 with y'13 | y'14
  ·obtain ⟨rfl, hs⟩ := hs
   refine ⟨by simp, ?_⟩
   have hz := some_elim H
   subst hz
   exact ⟨hs.1, hs.2⟩
  ·obtain ⟨rfl, rfl⟩ := hs
   refine ⟨by simp, ?_⟩
   refine blockQ2_exit ?_
   refine sg [0, 1, 2, 3] Y ?_
   refine rp Y Y (u_bld Y in_24 one_24 zc_24 pl_24 Y Y) ?_
   refine r_op Y Y (u_st Y Y Y Y Y in_24 (GValue.len GValue.zero) (nl (GValue.len GValue.zero)) (Upd.refl ((GValue.len GValue.zero).trans (GValue.len GValue.zero).symm))) ?_
   refine rp Y Y (p_asg Y Y) ?_
   refine rp Y Y (p_asg Y Y) ?_
   refine rz [(2, .q 2 (0)), (3, .i (0 : Int)), (4, .i (4 : Int))] [(2, .pure (GValue.cs GValue.zero))] Y Y Y ?_
   refine AW2_ret ?_
   have hz := some_elim H
   subst hz
   exact ⟨⟨res_cella Tryd.underlying24 Y in_24.sz Y (Sub.le (Sub.refl _) (GValue.len GValue.zero)) (by decide) (Sub.take (Sub.refl _) (GValue.len GValue.zero)), res_tmp (.same _), res_tmp (.same _), trivial⟩, trivial⟩

/-! chirographref.number -/
noncomputable def g_ref_number_l0 (s0 : List UInt8) : UInt64 × Int → Option ((UInt64 × Int) ⊕ (UInt64))
  | (n3_0, i4_0) => (if i4_0 < (s0.length : Int) then if 0 ≤ i4_0 ∧ i4_0 < (s0.length : Int) then some (.inl ((n3_0 * (256 : UInt64)) + ((lrd s0 i4_0.toNat).toUInt64), w64 (i4_0 + (1 : Int)))) else none else some (.inr n3_0))
noncomputable def g_ref_number (s0 : List UInt8) : Option (UInt64) :=
  (loopO (g_ref_number_l0 s0) ((0 : UInt64), (0 : Int))).bind fun y'4 => some y'4
set_option maxHeartbeats 4000000 in
set_option maxRecDepth 100000 in
theorem g_ref_number_ac {s0 : List UInt8} {r : UInt64} (H : g_ref_number s0 = some r) : ACp Tryd.prog 57 [(AV.txt s0)] (AV.u64 r) := by
 refine ACp_of (AC2_of_body (vs := [.p (AV.u64 r)]) Tryd.func57 Y Y (Nat.le_of_ble_eq_true Y) Y ?_) (fun _ => .same _)
 unfold g_ref_number at H
 refine as2 [(0, .t s0)] [] Y Y Y ?_
 refine sg [0] Y ?_
 refine rp Y Y (p_asg Y Y) ?_
 refine rz [(0, .t s0)] [] Y Y Y ?_
 refine sg [0] Y ?_
 refine rp Y Y (p_asg Y Y) ?_
 refine rz [(0, .t s0), (3, .p (AV.u64 (0 : UInt64)))] [] Y Y Y ?_
 refine AW2_seq ?_
 refine sg [0] Y ?_
 refine rp Y Y (p_asg Y Y) ?_
 refine rz [(0, .t s0), (3, .p (AV.u64 (0 : UInt64))), (4, .i (0 : Int))] [] Y Y Y ?_
 refine AW2_block ?_
 refine as2 [(0, .t s0), (3, .p (AV.u64 (0 : UInt64))), (4, .i (0 : Int))] [] Y Y Y ?_
 refine bindK H fun y'4 h3 H => ?_
 refine AW2_loopO (fun a'1 : UInt64 × Int => (⟨[(0, .t s0), (3, .p (AV.u64 a'1.1)), (4, .i a'1.2)], [], 19⟩ : TS)) (fun (y'2 : UInt64) e s' => e = Go.Exit.exit 0 ∧ s' = (⟨[(3, .p (AV.u64 y'2))], [], 19⟩ : TS)) h3 Y (fun a x hx => ?_) (fun e s' hs => ?_)
 ·clear H
  obtain ⟨n3_0, i4_0⟩ := a
  have H := hx
  clear hx
  unfold g_ref_number_l0 at H
  refine AW2_seq ?_
  refine sg [0, 1, 2, 3] Y ?_
  refine rp Y Y (p_move Y Y) ?_
  refine rp Y Y (p_move Y Y) ?_
  refine rp Y Y (p_lent Y Tryd.underlying9 Y) ?_
  refine rp Y Y (p_bin Y Y Y Y) ?_
  refine rz [(0, .t s0), (3, .p (AV.u64 n3_0)), (4, .i i4_0), (8, .b (decide (i4_0 < (s0.length : Int))))] [] Y Y Y ?_
  refine AW2_if (p := i4_0 < (s0.length : Int)) Y (fun h1 => ?_) (fun h1 => ?_)
  ·replace H := ite_then h1 H
   refine as2 [(0, .t s0), (3, .p (AV.u64 n3_0)), (4, .i i4_0)] [] Y Y Y ?_
   refine AW2_skip ?_
   refine AW2_seq ?_
   refine AW2_block ?_
   refine AW2_reg [0, 1, 2, 3, 4, 5, 6, 7] Y ?_
   refine rp Y Y (p_move Y Y) ?_
   refine rp Y Y (p_u64mul (a := n3_0) (b := (256 : UInt64)) Y Y Y) ?_
   refine rp Y Y (p_move Y Y) ?_
   refine rp Y Y (p_move Y Y) ?_
   refine chkK H fun h2 H => ?_
   refine rp Y Y (p_ixt Y Tryd.underlying9 Y Y (ixe h2) (lrd_get (ixn h2))) ?_
   refine rp Y Y (p_u8_u64 (a := (lrd s0 i4_0.toNat)) Y Tryd.underlying5 Tryd.underlying22 Y) ?_
   refine rp Y Y (p_u64add (a := n3_0 * (256 : UInt64)) (b := (lrd s0 i4_0.toNat).toUInt64) Y Y Y) ?_
   refine rp Y Y (p_asg Y Y) ?_
   refine rz [(0, .t s0), (3, .p (AV.u64 ((n3_0 * (256 : UInt64)) + ((lrd s0 i4_0.toNat).toUInt64)))), (4, .i i4_0)] [] Y Y Y ?_
   refine AW2_reg [0, 1, 2] Y ?_
   refine rp Y Y (p_move Y Y) ?_
   refine rp Y Y (p_bin Y Y Y Y) ?_
   refine rp Y Y (p_asg Y Y) ?_
   refine rz [(0, .t s0), (3, .p (AV.u64 ((n3_0 * (256 : UInt64)) + ((lrd s0 i4_0.toNat).toUInt64)))), (4, .i (w64 (i4_0 + (1 : Int))))] [] Y Y Y ?_
   have hz := some_elim H
   subst hz
   exact ⟨Y, Y⟩
  ·replace H := ite_else h1 H
   refine as2 [(3, .p (AV.u64 n3_0))] [] Y Y Y ?_
   refine AW2_exit ?_
   refine thenQ2_exit ?_
   have hz := some_elim H
   subst hz
   exact ⟨Y, Y⟩
 ·obtain ⟨rfl, rfl⟩ := hs
  refine ⟨by simp, ?_⟩
  refine blockQ2_exit ?_
  refine sg [0, 1] Y ?_
  refine rp Y Y (p_move Y Y) ?_
  refine rp Y Y (p_asg Y Y) ?_
  refine rz [(2, .p (AV.u64 y'4))] [] Y Y Y ?_
  refine AW2_ret ?_
  have hz := some_elim H
  subst hz
  exact ⟨⟨res_tmp (.same _), trivial⟩, trivial⟩

/-! chirographref.valueOf -/
noncomputable def g_ref_valueOf (s0 : List UInt8) : Option (GValue × Int × Int) :=
  (if s0 = [] then some (GValue.zero, (0 : Int), (4 : Int)) else if 0 < s0.length then (if (w64 (((lrd s0 0).toNat : Int) - (1 : Int)) < (0 : Int)) ∨ (w64 (((lrd s0 0).toNat : Int) - (1 : Int)) > (4 : Int)) then some (GValue.zero, (0 : Int), (3 : Int)) else (if w64 (((lrd s0 0).toNat : Int) - (1 : Int)) = (4 : Int) then if 0 ≤ (1 : Int) ∧ (1 : Int) ≤ (s0.length : Int) then (g_ref_textOf (cut s0 (1 : Int) (s0.length : Int))).bind fun r'1 => some (r'1.1, r'1.2.1, r'1.2.2) else none else if 0 ≤ w64 (((lrd s0 0).toNat : Int) - (1 : Int)) ∧ w64 (((lrd s0 0).toNat : Int) - (1 : Int)) < (([(0 : Int), (1 : Int), (8 : Int), (8 : Int), (0 : Int)] : List Int).length : Int) then letO ((lrd ([(0 : Int), (1 : Int), (8 : Int), (8 : Int), (0 : Int)] : List Int) ((w64 (((lrd s0 0).toNat : Int) - (1 : Int))).toNat))) fun n7'2 => (if (s0.length : Int) < w64 ((1 : Int) + n7'2) then some (GValue.zero, (0 : Int), (4 : Int)) else if 0 ≤ (1 : Int) ∧ (1 : Int) ≤ w64 ((1 : Int) + n7'2) ∧ w64 ((1 : Int) + n7'2) ≤ (s0.length : Int) then (g_ref_number (cut s0 (1 : Int) (w64 ((1 : Int) + n7'2)))).bind fun r'3 => letO ({ GValue.zero with Kind := w64 (((lrd s0 0).toNat : Int) - (1 : Int)) }) fun v9'4 => ((if w64 (((lrd s0 0).toNat : Int) - (1 : Int)) = (1 : Int) then some ({ v9'4 with Int_ := w64 (r'3.toNat : Int) }) else (if w64 (((lrd s0 0).toNat : Int) - (1 : Int)) = (2 : Int) then letO ({ v9'4 with Int_ := w64 ((r'3 - (9223372036854775808 : UInt64)).toNat : Int) }) fun v9'6 => some v9'6 else (if w64 (((lrd s0 0).toNat : Int) - (1 : Int)) = (3 : Int) then (if r'3 < (9223372036854775808 : UInt64) then letO ({ { v9'4 with Bits := r'3 - (9223372036854775808 : UInt64) } with Bits := ~~~ r'3 }) fun v9'7 => some v9'7 else some ({ v9'4 with Bits := r'3 - (9223372036854775808 : UInt64) })) else some v9'4)))).bind fun j'5 => (g_ref_ValueFault j'5).bind fun r'8 => (if r'8 ≠ (0 : Int) then some (GValue.zero, (0 : Int), (3 : Int)) else some (j'5, w64 ((1 : Int) + n7'2), (0 : Int))) else none) else none)) else none)
set_option maxHeartbeats 4000000 in
set_option maxRecDepth 100000 in
theorem g_ref_valueOf_ac {s0 : List UInt8} {r : GValue × Int × Int} (H : g_ref_valueOf s0 = some r) : ACp Tryd.prog 55 [(AV.txt s0)] (.tup [(.agg (GValue.cs r.1)), (AV.int r.2.1), (AV.int r.2.2)]) := by
 refine ACp_of (AC2_of_body (vs := [.g (GValue.cs r.1), .i r.2.1, .i r.2.2]) Tryd.func55 Y Y (Nat.le_of_ble_eq_true Y) Y ?_) (fun _ => .same _)
 unfold g_ref_valueOf at H
 refine as2 [(0, .t s0)] [] Y Y Y ?_
 refine sg [0, 1, 2] Y ?_
 refine r_op Y Y (MakeD.opD (u_alloc 2 Y in_24 one_24 zc_24) Y Y Y Y) ?_
 refine rp Y Y (p_asg Y Y) ?_
 refine rp Y Y (p_asg Y Y) ?_
 refine rz [(0, .t s0), (2, .q 2 (0))] [(2, .pure (GValue.cs GValue.zero))] Y Y Y ?_
 refine AW2_seq ?_
 refine sg [0, 1] Y ?_
 refine rp Y Y (p_move Y Y) ?_
 refine rp Y Y (p_seq Y Y Y) ?_
 refine rz [(0, .t s0), (2, .q 2 (0)), (11, .b (decide (s0 = [])))] [(2, .pure (GValue.cs GValue.zero))] Y Y Y ?_
 refine AW2_if (p := s0 = []) Y (fun h1 => ?_) (fun h1 => ?_)
 ·replace H := ite_then h1 H
  refine sg [0, 1, 2, 3] Y ?_
  refine rp Y Y (u_bld Y in_24 one_24 zc_24 pl_24 Y Y) ?_
  refine r_op Y Y (u_st Y Y Y Y Y in_24 (GValue.len GValue.zero) (nl (GValue.len GValue.zero)) (Upd.refl ((GValue.len GValue.zero).trans (GValue.len GValue.zero).symm))) ?_
  refine rp Y Y (p_asg Y Y) ?_
  refine rp Y Y (p_asg Y Y) ?_
  refine rz [(2, .q 2 (0)), (3, .i (0 : Int)), (4, .i (4 : Int))] [(2, .pure (GValue.cs GValue.zero))] Y Y Y ?_
  refine AW2_ret ?_
  have hz := some_elim H
  subst hz
  exact ⟨⟨res_cella Tryd.underlying24 Y in_24.sz Y (Sub.le (Sub.refl _) (GValue.len GValue.zero)) (by decide) (Sub.take (Sub.refl _) (GValue.len GValue.zero)), res_tmp (.same _), res_tmp (.same _), trivial⟩, trivial⟩
 ·replace H := ite_else h1 H
  refine as2 [(0, .t s0), (2, .q 2 (0))] [(2, .pure (GValue.cs GValue.zero))] Y Y Y ?_
  refine AW2_skip ?_
  refine sg [0, 1, 2, 3, 4] Y ?_
  refine rp Y Y (p_move Y Y) ?_
  refine chkK H fun h2 H => ?_
  refine rp Y Y (p_ixt Y Tryd.underlying9 Y Y Y (lrd_get h2)) ?_
  refine rp Y Y (p_ci Y Tryd.underlying5 Tryd.underlying3 Y (wrapu8i (lrd s0 0))) ?_
  refine rp Y Y (p_bin Y Y Y Y) ?_
  refine rp Y Y (p_asg Y Y) ?_
  refine rz [(0, .t s0), (2, .q 2 (0)), (5, .i (w64 (((lrd s0 0).toNat : Int) - (1 : Int))))] [(2, .pure (GValue.cs GValue.zero))] Y Y Y ?_
  refine sg [0, 1] Y ?_
  refine r_op Y Y (MakeD.opD (u_bs 17 Y Tryd.underlying101 in_3 Y one_3 (by decide) (by decide) Y Y Y) Y Y Y Y) ?_
  refine rp Y Y (p_asg Y Y) ?_
  refine RunW_st [(0, .t s0), (2, .q 2 (0)), (5, .i (w64 (((lrd s0 0).toNat : Int) - (1 : Int)))), (6, .c (.own 17 ([(0 : Int), (1 : Int), (8 : Int), (8 : Int), (0 : Int)] : List Int).length 1))] [(2, .pure (GValue.cs GValue.zero)), (17, .pure (([(0 : Int), (1 : Int), (8 : Int), (8 : Int), (0 : Int)] : List Int).map AV.int))] Y ⟨TLes.same _, TLes.same _, TLes.same _, TLes.own Y, trivial⟩ ⟨Y, Y, trivial⟩ ?_
  refine RunW_gho (Gho_ren 17 6 Y Y Y Y Y) ?_
  refine rz [(0, .t s0), (2, .q 2 (0)), (5, .i (w64 (((lrd s0 0).toNat : Int) - (1 : Int)))), (6, .c (.own 6 ([(0 : Int), (1 : Int), (8 : Int), (8 : Int), (0 : Int)] : List Int).length 1))] [(2, .pure (GValue.cs GValue.zero)), (6, .pure (([(0 : Int), (1 : Int), (8 : Int), (8 : Int), (0 : Int)] : List Int).map AV.int))] Y Y Y ?_
  refine AW2_seq ?_
  refine AW2_seq ?_
  refine AW2_mid (⟨[(0, .t s0), (2, .q 2 (0)), (5, .i (w64 (((lrd s0 0).toNat : Int) - (1 : Int)))), (6, .c (.own 6 ([(0 : Int), (1 : Int), (8 : Int), (8 : Int), (0 : Int)] : List Int).length 1)), (23, .b (decide ((w64 (((lrd s0 0).toNat : Int) - (1 : Int)) < (0 : Int)) ∨ (w64 (((lrd s0 0).toNat : Int) - (1 : Int)) > (4 : Int)))))], [(2, .pure (GValue.cs GValue.zero)), (6, .pure (([(0 : Int), (1 : Int), (8 : Int), (8 : Int), (0 : Int)] : List Int).map AV.int))], 79⟩ : TS) ?_ ?_
  ·refine AW2_reg [0, 1, 2, 3, 4, 5] Y ?_
   refine rp Y Y (p_move Y Y) ?_
   refine rp Y Y (p_bin Y Y Y Y) ?_
   refine rp Y Y (p_move Y Y) ?_
   refine (Classical.em (w64 (((lrd s0 0).toNat : Int) - (1 : Int)) < (0 : Int))).elim (fun h3 => ?_) (fun h3 => ?_)
   ·refine r_off Y Y Y Y (dT h3) Y Y ?_
    refine r_off Y Y Y Y (dT h3) Y Y ?_
    refine rp Y Y (p_pkt Y Y (dT h3) (tb (dT (p := (w64 (((lrd s0 0).toNat : Int) - (1 : Int)) < (0 : Int)) ∨ (w64 (((lrd s0 0).toNat : Int) - (1 : Int)) > (4 : Int))) (Or.inl h3)).symm)) ?_
    refine rs [(0, .t s0), (2, .q 2 (0)), (5, .i (w64 (((lrd s0 0).toNat : Int) - (1 : Int)))), (6, .c (.own 6 ([(0 : Int), (1 : Int), (8 : Int), (8 : Int), (0 : Int)] : List Int).length 1)), (23, .b (decide ((w64 (((lrd s0 0).toNat : Int) - (1 : Int)) < (0 : Int)) ∨ (w64 (((lrd s0 0).toNat : Int) - (1 : Int)) > (4 : Int)))))] [(2, .pure (GValue.cs GValue.zero)), (6, .pure (([(0 : Int), (1 : Int), (8 : Int), (8 : Int), (0 : Int)] : List Int).map AV.int))] Y Y Y ?_
    exact RunW_nil rfl
   ·refine r_on Y Y Y Y (dF h3) Y (PureD.opD (p_move Y Y)) ?_
    refine r_on Y Y Y Y (dF h3) Y (PureD.opD (p_bin Y Y Y Y)) ?_
    refine rp Y Y (p_pkf Y Y (dF h3) (tb ((or_l (p := w64 (((lrd s0 0).toNat : Int) - (1 : Int)) < (0 : Int)) (q := w64 (((lrd s0 0).toNat : Int) - (1 : Int)) > (4 : Int)) h3)))) ?_
    refine rs [(0, .t s0), (2, .q 2 (0)), (5, .i (w64 (((lrd s0 0).toNat : Int) - (1 : Int)))), (6, .c (.own 6 ([(0 : Int), (1 : Int), (8 : Int), (8 : Int), (0 : Int)] : List Int).length 1)), (23, .b (decide ((w64 (((lrd s0 0).toNat : Int) - (1 : Int)) < (0 : Int)) ∨ (w64 (((lrd s0 0).toNat : Int) - (1 : Int)) > (4 : Int)))))] [(2, .pure (GValue.cs GValue.zero)), (6, .pure (([(0 : Int), (1 : Int), (8 : Int), (8 : Int), (0 : Int)] : List Int).map AV.int))] Y Y Y ?_
    exact RunW_nil rfl
  ·refine AW2_if (p := (w64 (((lrd s0 0).toNat : Int) - (1 : Int)) < (0 : Int)) ∨ (w64 (((lrd s0 0).toNat : Int) - (1 : Int)) > (4 : Int))) Y (fun h4 => ?_) (fun h4 => ?_)
   ·replace H := ite_then h4 H
    refine sg [0, 1, 2, 3] Y ?_
    refine rp Y Y (u_bld Y in_24 one_24 zc_24 pl_24 Y Y) ?_
    refine r_op Y Y (u_st Y Y Y Y Y in_24 (GValue.len GValue.zero) (nl (GValue.len GValue.zero)) (Upd.refl ((GValue.len GValue.zero).trans (GValue.len GValue.zero).symm))) ?_
    refine rp Y Y (p_asg Y Y) ?_
    refine rp Y Y (p_asg Y Y) ?_
    refine rz [(2, .q 2 (0)), (3, .i (0 : Int)), (4, .i (3 : Int))] [(2, .pure (GValue.cs GValue.zero))] Y Y Y ?_
    refine AW2_ret ?_
    have hz := some_elim H
    subst hz
    exact ⟨⟨res_cella Tryd.underlying24 Y in_24.sz Y (Sub.le (Sub.refl _) (GValue.len GValue.zero)) (by decide) (Sub.take (Sub.refl _) (GValue.len GValue.zero)), res_tmp (.same _), res_tmp (.same _), trivial⟩, trivial⟩
   ·replace H := ite_else h4 H
    refine as2 [(0, .t s0), (2, .q 2 (0)), (5, .i (w64 (((lrd s0 0).toNat : Int) - (1 : Int)))), (6, .c (.own 6 ([(0 : Int), (1 : Int), (8 : Int), (8 : Int), (0 : Int)] : List Int).length 1))] [(2, .pure (GValue.cs GValue.zero)), (6, .pure (([(0 : Int), (1 : Int), (8 : Int), (8 : Int), (0 : Int)] : List Int).map AV.int))] Y Y Y ?_
    refine AW2_skip ?_
    refine AW2_seq ?_
    refine sg [0, 1] Y ?_
    refine rp Y Y (p_move Y Y) ?_
    refine rp Y Y (p_ieq Y Y Y) ?_
    refine rz [(0, .t s0), (2, .q 2 (0)), (5, .i (w64 (((lrd s0 0).toNat : Int) - (1 : Int)))), (6, .c (.own 6 ([(0 : Int), (1 : Int), (8 : Int), (8 : Int), (0 : Int)] : List Int).length 1)), (26, .b (decide (w64 (((lrd s0 0).toNat : Int) - (1 : Int)) = (4 : Int))))] [(2, .pure (GValue.cs GValue.zero)), (6, .pure (([(0 : Int), (1 : Int), (8 : Int), (8 : Int), (0 : Int)] : List Int).map AV.int))] Y Y Y ?_
    refine AW2_if (p := w64 (((lrd s0 0).toNat : Int) - (1 : Int)) = (4 : Int)) Y (fun h5 => ?_) (fun h5 => ?_)
    ·replace H := ite_then h5 H
     refine sg [0, 1, 2, 3, 4, 5, 6, 7, 8] Y ?_
     refine rp Y Y (p_move Y Y) ?_
     refine chkK H fun h6 H => ?_
     refine rp Y Y (u_cutt (a := (1 : Int)) (b := (s0.length : Int)) Y Tryd.underlying9 Y (bT_i (show 0 ≤ (1 : Int) ∧ (1 : Int) ≤ (s0.length : Int) ∧ (s0.length : Int) ≤ (s0.length : Int) from ⟨h6.1, h6.2, Int.le_refl _⟩).1 Y) (bT_len _) (show 0 ≤ (1 : Int) ∧ (1 : Int) ≤ (s0.length : Int) ∧ (s0.length : Int) ≤ (s0.length : Int) from ⟨h6.1, h6.2, Int.le_refl _⟩)) ?_
     refine bindK H fun r'1 h7 H => ?_
     refine rp Y Y (p_callp Y Y Y Tryd.func76 Y Y (g_ref_textOf_ac h7) ⟨Y, trivial⟩) ?_
     refine rp Y Y (p_ext Y Y Y Y) ?_
     refine rp Y Y (p_ext Y Y Y Y) ?_
     refine rp Y Y (p_ext Y Y Y Y) ?_
     refine r_op Y Y (u_st Y Y Y Y Y in_24 (GValue.len r'1.1) (nl (GValue.len GValue.zero)) (Upd.refl ((GValue.len r'1.1).trans (GValue.len GValue.zero).symm))) ?_
     refine rp Y Y (p_asg Y Y) ?_
     refine rp Y Y (p_asg Y Y) ?_
     refine rz [(2, .q 2 (0)), (3, .i r'1.2.1), (4, .i r'1.2.2)] [(2, .pure (GValue.cs r'1.1))] Y Y Y ?_
     refine AW2_ret ?_
     have hz := some_elim H
     subst hz
     exact ⟨⟨res_cella Tryd.underlying24 Y in_24.sz Y (Sub.le (Sub.refl _) (GValue.len r'1.1)) (by decide) (Sub.take (Sub.refl _) (GValue.len r'1.1)), res_tmp (.same _), res_tmp (.same _), trivial⟩, trivial⟩
    ·replace H := ite_else h5 H
     refine as2 [(0, .t s0), (2, .q 2 (0)), (5, .i (w64 (((lrd s0 0).toNat : Int) - (1 : Int)))), (6, .c (.own 6 ([(0 : Int), (1 : Int), (8 : Int), (8 : Int), (0 : Int)] : List Int).length 1))] [(2, .pure (GValue.cs GValue.zero)), (6, .pure (([(0 : Int), (1 : Int), (8 : Int), (8 : Int), (0 : Int)] : List Int).map AV.int))] Y Y Y ?_
     refine AW2_skip ?_
     refine sg [0, 1, 2, 3, 4] Y ?_
     refine rp Y Y (p_move Y Y) ?_
     refine rp Y Y (p_move Y Y) ?_
     refine chkK H fun h8 H => ?_
     refine rp Y Y (u_ixo Y Y Tryd.underlying101 in_3 Y Y (lne (ixn h8)) Y (ixe h8) (ixn h8)) ?_
     refine rp Y Y (u_ld Y Y Tryd.underlying3 Y Y ((Sub.refl _).trans (Sub.map default (ixn h8)))) ?_
     refine rp Y Y (p_asg Y Y) ?_
     refine rz [(0, .t s0), (2, .q 2 (0)), (5, .i (w64 (((lrd s0 0).toNat : Int) - (1 : Int)))), (7, .i (lrd ([(0 : Int), (1 : Int), (8 : Int), (8 : Int), (0 : Int)] : List Int) ((w64 (((lrd s0 0).toNat : Int) - (1 : Int))).toNat)))] [(2, .pure (GValue.cs GValue.zero))] Y Y Y ?_
     refine gen1 (fun n7'2 => (⟨[(0, .t s0), (2, .q 2 (0)), (5, .i (w64 (((lrd s0 0).toNat : Int) - (1 : Int)))), (7, .i n7'2)], [(2, .pure (GValue.cs GValue.zero))], 79⟩ : TS)) H ?_
     intro n7'2 H
     refine AW2_seq ?_
     refine sg [0, 1, 2, 3, 4] Y ?_
     refine rp Y Y (p_move Y Y) ?_
     refine rp Y Y (p_lent Y Tryd.underlying9 Y) ?_
     refine rp Y Y (p_move Y Y) ?_
     refine rp Y Y (p_bin Y Y Y Y) ?_
     refine rp Y Y (p_bin Y Y Y Y) ?_
     refine rz [(0, .t s0), (2, .q 2 (0)), (5, .i (w64 (((lrd s0 0).toNat : Int) - (1 : Int)))), (7, .i n7'2), (41, .b (decide ((s0.length : Int) < w64 ((1 : Int) + n7'2))))] [(2, .pure (GValue.cs GValue.zero))] Y Y Y ?_
     refine AW2_if (p := (s0.length : Int) < w64 ((1 : Int) + n7'2)) Y (fun h9 => ?_) (fun h9 => ?_)
     ·replace H := ite_then h9 H
      refine sg [0, 1, 2, 3] Y ?_
      refine rp Y Y (u_bld Y in_24 one_24 zc_24 pl_24 Y Y) ?_
      refine r_op Y Y (u_st Y Y Y Y Y in_24 (GValue.len GValue.zero) (nl (GValue.len GValue.zero)) (Upd.refl ((GValue.len GValue.zero).trans (GValue.len GValue.zero).symm))) ?_
      refine rp Y Y (p_asg Y Y) ?_
      refine rp Y Y (p_asg Y Y) ?_
      refine rz [(2, .q 2 (0)), (3, .i (0 : Int)), (4, .i (4 : Int))] [(2, .pure (GValue.cs GValue.zero))] Y Y Y ?_
      refine AW2_ret ?_
      have hz := some_elim H
      subst hz
      exact ⟨⟨res_cella Tryd.underlying24 Y in_24.sz Y (Sub.le (Sub.refl _) (GValue.len GValue.zero)) (by decide) (Sub.take (Sub.refl _) (GValue.len GValue.zero)), res_tmp (.same _), res_tmp (.same _), trivial⟩, trivial⟩
     ·replace H := ite_else h9 H
      refine as2 [(0, .t s0), (2, .q 2 (0)), (5, .i (w64 (((lrd s0 0).toNat : Int) - (1 : Int)))), (7, .i n7'2)] [(2, .pure (GValue.cs GValue.zero))] Y Y Y ?_
      refine AW2_skip ?_
      refine sg [0, 1, 2, 3, 4, 5] Y ?_
      refine rp Y Y (p_move Y Y) ?_
      refine rp Y Y (p_move Y Y) ?_
      refine rp Y Y (p_bin Y Y Y Y) ?_
      refine chkK H fun h10 H => ?_
      refine rp Y Y (u_cutt (a := (1 : Int)) (b := w64 ((1 : Int) + n7'2)) Y Tryd.underlying9 Y (bT_i (show 0 ≤ (1 : Int) ∧ (1 : Int) ≤ w64 ((1 : Int) + n7'2) ∧ w64 ((1 : Int) + n7'2) ≤ (s0.length : Int) from h10).1 Y) (bT_i (Int.le_trans (show 0 ≤ (1 : Int) ∧ (1 : Int) ≤ w64 ((1 : Int) + n7'2) ∧ w64 ((1 : Int) + n7'2) ≤ (s0.length : Int) from h10).1 (show 0 ≤ (1 : Int) ∧ (1 : Int) ≤ w64 ((1 : Int) + n7'2) ∧ w64 ((1 : Int) + n7'2) ≤ (s0.length : Int) from h10).2.1) Y) (show 0 ≤ (1 : Int) ∧ (1 : Int) ≤ w64 ((1 : Int) + n7'2) ∧ w64 ((1 : Int) + n7'2) ≤ (s0.length : Int) from h10)) ?_
      refine bindK H fun r'3 h11 H => ?_
      refine rp Y Y (p_callp Y Y Y Tryd.func57 Y Y (g_ref_number_ac h11) ⟨Y, trivial⟩) ?_
      refine rp Y Y (p_asg Y Y) ?_
      refine rz [(2, .q 2 (0)), (5, .i (w64 (((lrd s0 0).toNat : Int) - (1 : Int)))), (7, .i n7'2), (8, .p (AV.u64 r'3))] [(2, .pure (GValue.cs GValue.zero))] Y Y Y ?_
      refine sg [0, 1, 2, 3] Y ?_
      refine rp Y Y (p_move Y Y) ?_
      refine rp Y Y (u_bld Y in_24 one_24 zc_24 pl_24 Y (af_cons Y Y (GValue.upd0 GValue.zero (w64 (((lrd s0 0).toNat : Int) - (1 : Int)))) Y)) ?_
      refine r_op Y Y (MakeD.opD (u_alloc 9 Y in_24 one_24 zc_24) Y Y Y Y) ?_
      refine r_op Y Y (u_st Y Y Y Y Y in_24 (GValue.len ((GValue.w0 GValue.zero (w64 (((lrd s0 0).toNat : Int) - (1 : Int)))))) (nl (GValue.len GValue.zero)) (Upd.refl ((GValue.len ((GValue.w0 GValue.zero (w64 (((lrd s0 0).toNat : Int) - (1 : Int)))))).trans (GValue.len GValue.zero).symm))) ?_
      refine rz [(2, .q 2 (0)), (5, .i (w64 (((lrd s0 0).toNat : Int) - (1 : Int)))), (7, .i n7'2), (8, .p (AV.u64 r'3)), (9, .q 9 (0))] [(2, .pure (GValue.cs GValue.zero)), (9, .pure (GValue.cs ((GValue.w0 GValue.zero (w64 (((lrd s0 0).toNat : Int) - (1 : Int)))))))] Y Y Y ?_
      refine gen1 (fun v9'4 => (⟨[(2, .q 2 (0)), (5, .i (w64 (((lrd s0 0).toNat : Int) - (1 : Int)))), (7, .i n7'2), (8, .p (AV.u64 r'3)), (9, .q 9 (0))], [(2, .pure (GValue.cs GValue.zero)), (9, .pure (GValue.cs v9'4))], 79⟩ : TS)) H ?_
      intro v9'4 H
      refine AW2_seq ?_
      refine bindK H fun j'5 h12 H => ?_
      refine AW2_mid (⟨[(2, .q 2 (0)), (7, .i n7'2), (9, .q 9 (0))], [(2, .pure (GValue.cs GValue.zero)), (9, .pure (GValue.cs j'5))], 79⟩ : TS) ?_ ?_
      ·clear H
       have H := h12
       clear h12
       refine sg [0] Y ?_
       refine rp Y Y (p_move Y Y) ?_
       refine rz [(2, .q 2 (0)), (7, .i n7'2), (8, .p (AV.u64 r'3)), (9, .q 9 (0)), (50, .i (w64 (((lrd s0 0).toNat : Int) - (1 : Int))))] [(2, .pure (GValue.cs GValue.zero)), (9, .pure (GValue.cs v9'4))] Y Y Y ?_
       refine AW2_block ?_
       refine sg [0, 1] Y ?_
       refine rp Y Y (p_ieq Y Y Y) ?_
       refine rp Y Y (p_asg Y Y) ?_
       refine rz [(2, .q 2 (0)), (7, .i n7'2), (8, .p (AV.u64 r'3)), (9, .q 9 (0)), (50, .i (w64 (((lrd s0 0).toNat : Int) - (1 : Int)))), (51, .b (decide (w64 (((lrd s0 0).toNat : Int) - (1 : Int)) = (1 : Int))))] [(2, .pure (GValue.cs GValue.zero)), (9, .pure (GValue.cs v9'4))] Y Y Y ?_
       refine AW2_if (p := w64 (((lrd s0 0).toNat : Int) - (1 : Int)) = (1 : Int)) Y (fun h13 => ?_) (fun h13 => ?_)
       ·replace H := ite_then h13 H
        refine AW2_reg [0, 1, 2, 3] Y ?_
        refine rp Y Y (p_move Y Y) ?_
        refine rp Y Y (p_u64_i (a := r'3) Y Tryd.underlying22 Tryd.underlying3 Y) ?_
        refine rp Y Y (u_fa Y Y Tryd.underlying24 Y in_3 nz Y Y (nl (GValue.len v9'4))) ?_
        refine r_op Y Y (u_st Y Y Y Y Y in_3 Y (nl (GValue.len v9'4)) (Upd.trans (Sub.refl _) (GValue.upd1 v9'4 (w64 (r'3.toNat : Int))) (Upd.refl ((GValue.len ((GValue.w1 v9'4 (w64 (r'3.toNat : Int))))).trans (GValue.len v9'4).symm)))) ?_
        refine rz [(2, .q 2 (0)), (7, .i n7'2), (9, .q 9 (0))] [(2, .pure (GValue.cs GValue.zero)), (9, .pure (GValue.cs ((GValue.w1 v9'4 (w64 (r'3.toNat : Int))))))] Y Y Y ?_
        have hz := some_elim H
        subst hz
        exact rfl
       ·replace H := ite_else h13 H
        refine sg [0, 1] Y ?_
        refine rp Y Y (p_ieq Y Y Y) ?_
        refine rp Y Y (p_asg Y Y) ?_
        refine rz [(2, .q 2 (0)), (7, .i n7'2), (8, .p (AV.u64 r'3)), (9, .q 9 (0)), (50, .i (w64 (((lrd s0 0).toNat : Int) - (1 : Int)))), (56, .b (decide (w64 (((lrd s0 0).toNat : Int) - (1 : Int)) = (2 : Int))))] [(2, .pure (GValue.cs GValue.zero)), (9, .pure (GValue.cs v9'4))] Y Y Y ?_
        refine AW2_if (p := w64 (((lrd s0 0).toNat : Int) - (1 : Int)) = (2 : Int)) Y (fun h14 => ?_) (fun h14 => ?_)
        ·replace H := ite_then h14 H
         refine AW2_reg [0, 1, 2, 3, 4] Y ?_
         refine rp Y Y (p_move Y Y) ?_
         refine rp Y Y (p_u64sub (a := r'3) (b := (9223372036854775808 : UInt64)) Y Y Y) ?_
         refine rp Y Y (p_u64_i (a := r'3 - (9223372036854775808 : UInt64)) Y Tryd.underlying22 Tryd.underlying3 Y) ?_
         refine rp Y Y (u_fa Y Y Tryd.underlying24 Y in_3 nz Y Y (nl (GValue.len v9'4))) ?_
         refine r_op Y Y (u_st Y Y Y Y Y in_3 Y (nl (GValue.len v9'4)) (Upd.trans (Sub.refl _) (GValue.upd1 v9'4 (w64 ((r'3 - (9223372036854775808 : UInt64)).toNat : Int))) (Upd.refl ((GValue.len ((GValue.w1 v9'4 (w64 ((r'3 - (9223372036854775808 : UInt64)).toNat : Int))))).trans (GValue.len v9'4).symm)))) ?_
         refine rz [(2, .q 2 (0)), (7, .i n7'2), (9, .q 9 (0))] [(2, .pure (GValue.cs GValue.zero)), (9, .pure (GValue.cs ((GValue.w1 v9'4 (w64 ((r'3 - (9223372036854775808 : UInt64)).toNat : Int))))))] Y Y Y ?_
         refine gen1 (fun v9'6 => (⟨[(2, .q 2 (0)), (7, .i n7'2), (9, .q 9 (0))], [(2, .pure (GValue.cs GValue.zero)), (9, .pure (GValue.cs v9'6))], 79⟩ : TS)) H ?_
         intro v9'6 H
         have hz := some_elim H
         subst hz
         exact rfl
        ·replace H := ite_else h14 H
         refine sg [0, 1] Y ?_
         refine rp Y Y (p_ieq Y Y Y) ?_
         refine rp Y Y (p_asg Y Y) ?_
         refine rz [(2, .q 2 (0)), (7, .i n7'2), (8, .p (AV.u64 r'3)), (9, .q 9 (0)), (62, .b (decide (w64 (((lrd s0 0).toNat : Int) - (1 : Int)) = (3 : Int))))] [(2, .pure (GValue.cs GValue.zero)), (9, .pure (GValue.cs v9'4))] Y Y Y ?_
         refine AW2_if (p := w64 (((lrd s0 0).toNat : Int) - (1 : Int)) = (3 : Int)) Y (fun h15 => ?_) (fun h15 => ?_)
         ·replace H := ite_then h15 H
          refine sg [0, 1, 2, 3] Y ?_
          refine rp Y Y (p_move Y Y) ?_
          refine rp Y Y (p_u64sub (a := r'3) (b := (9223372036854775808 : UInt64)) Y Y Y) ?_
          refine rp Y Y (u_fa Y Y Tryd.underlying24 Y in_22 nz Y Y (nl (GValue.len v9'4))) ?_
          refine r_op Y Y (u_st Y Y Y Y Y in_22 Y (nl (GValue.len v9'4)) (Upd.trans (Sub.refl _) (GValue.upd2 v9'4 (r'3 - (9223372036854775808 : UInt64))) (Upd.refl ((GValue.len ((GValue.w2 v9'4 (r'3 - (9223372036854775808 : UInt64))))).trans (GValue.len v9'4).symm)))) ?_
          refine rz [(2, .q 2 (0)), (7, .i n7'2), (8, .p (AV.u64 r'3)), (9, .q 9 (0))] [(2, .pure (GValue.cs GValue.zero)), (9, .pure (GValue.cs ((GValue.w2 v9'4 (r'3 - (9223372036854775808 : UInt64))))))] Y Y Y ?_
          refine sg [0, 1] Y ?_
          refine rp Y Y (p_move Y Y) ?_
          refine rp Y Y (p_u64lt (a := r'3) (b := (9223372036854775808 : UInt64)) Y Y Y) ?_
          refine rz [(2, .q 2 (0)), (7, .i n7'2), (8, .p (AV.u64 r'3)), (9, .q 9 (0)), (68, .b (decide (r'3 < (9223372036854775808 : UInt64))))] [(2, .pure (GValue.cs GValue.zero)), (9, .pure (GValue.cs ((GValue.w2 v9'4 (r'3 - (9223372036854775808 : UInt64))))))] Y Y Y ?_
          refine AW2_if (p := r'3 < (9223372036854775808 : UInt64)) Y (fun h16 => ?_) (fun h16 => ?_)
          ·replace H := ite_then h16 H
           refine AW2_reg [0, 1, 2, 3] Y ?_
           refine rp Y Y (p_move Y Y) ?_
           refine rp Y Y (p_u64cpl Y Y) ?_
           refine rp Y Y (u_fa Y Y Tryd.underlying24 Y in_22 nz Y Y (ne_of_lt (n := 0) (Nat.lt_of_lt_of_eq (by decide) (Eq.symm (GValue.len ((GValue.w2 v9'4 (r'3 - (9223372036854775808 : UInt64))))))))) ?_
           refine r_op Y Y (u_st Y Y Y Y Y in_22 Y (ne_of_lt (n := 0) (Nat.lt_of_lt_of_eq (by decide) (Eq.symm (GValue.len ((GValue.w2 v9'4 (r'3 - (9223372036854775808 : UInt64)))))))) (Upd.trans (Sub.refl _) (GValue.upd2 ((GValue.w2 v9'4 (r'3 - (9223372036854775808 : UInt64)))) (~~~ r'3)) (Upd.refl ((GValue.len ((GValue.w2 (GValue.w2 v9'4 (r'3 - (9223372036854775808 : UInt64))) (~~~ r'3)))).trans (GValue.len ((GValue.w2 v9'4 (r'3 - (9223372036854775808 : UInt64))))).symm)))) ?_
           refine rz [(2, .q 2 (0)), (7, .i n7'2), (9, .q 9 (0))] [(2, .pure (GValue.cs GValue.zero)), (9, .pure (GValue.cs ((GValue.w2 (GValue.w2 v9'4 (r'3 - (9223372036854775808 : UInt64))) (~~~ r'3)))))] Y Y Y ?_
           refine gen1 (fun v9'7 => (⟨[(2, .q 2 (0)), (7, .i n7'2), (9, .q 9 (0))], [(2, .pure (GValue.cs GValue.zero)), (9, .pure (GValue.cs v9'7))], 79⟩ : TS)) H ?_
           intro v9'7 H
           have hz := some_elim H
           subst hz
           exact rfl
          ·replace H := ite_else h16 H
           refine as2 [(2, .q 2 (0)), (7, .i n7'2), (9, .q 9 (0))] [(2, .pure (GValue.cs GValue.zero)), (9, .pure (GValue.cs ((GValue.w2 v9'4 (r'3 - (9223372036854775808 : UInt64))))))] Y Y Y ?_
           refine AW2_skip ?_
           have hz := some_elim H
           subst hz
           exact rfl
         ·replace H := ite_else h15 H
          refine as2 [(2, .q 2 (0)), (7, .i n7'2), (9, .q 9 (0))] [(2, .pure (GValue.cs GValue.zero)), (9, .pure (GValue.cs v9'4))] Y Y Y ?_
          refine AW2_skip ?_
          have hz := some_elim H
          subst hz
          exact rfl
      ·refine AW2_seq ?_
       refine sg [0, 1, 2] Y ?_
       refine rp Y Y (u_lda Y Y Tryd.underlying24 Y in_24 Y (Nat.succ_pos _) (Sub.refl _) (GValue.len j'5)) ?_
       refine bindK H fun r'8 h17 H => ?_
       refine rp Y Y (p_callp Y Y Y Tryd.func15 Y Y (g_ref_ValueFault_ac h17) ⟨Y, trivial⟩) ?_
       refine rp Y Y (p_ine Y Y Y) ?_
       refine rz [(2, .q 2 (0)), (7, .i n7'2), (9, .q 9 (0)), (74, .b (decide (r'8 ≠ (0 : Int))))] [(2, .pure (GValue.cs GValue.zero)), (9, .pure (GValue.cs j'5))] Y Y Y ?_
       refine AW2_if (p := r'8 ≠ (0 : Int)) Y (fun h18 => ?_) (fun h18 => ?_)
       ·replace H := ite_then h18 H
        refine sg [0, 1, 2, 3] Y ?_
        refine rp Y Y (u_bld Y in_24 one_24 zc_24 pl_24 Y Y) ?_
        refine r_op Y Y (u_st Y Y Y Y Y in_24 (GValue.len GValue.zero) (nl (GValue.len GValue.zero)) (Upd.refl ((GValue.len GValue.zero).trans (GValue.len GValue.zero).symm))) ?_
        refine rp Y Y (p_asg Y Y) ?_
        refine rp Y Y (p_asg Y Y) ?_
        refine rz [(2, .q 2 (0)), (3, .i (0 : Int)), (4, .i (3 : Int))] [(2, .pure (GValue.cs GValue.zero))] Y Y Y ?_
        refine AW2_ret ?_
        have hz := some_elim H
        subst hz
        exact ⟨⟨res_cella Tryd.underlying24 Y in_24.sz Y (Sub.le (Sub.refl _) (GValue.len GValue.zero)) (by decide) (Sub.take (Sub.refl _) (GValue.len GValue.zero)), res_tmp (.same _), res_tmp (.same _), trivial⟩, trivial⟩
       ·replace H := ite_else h18 H
        refine as2 [(2, .q 2 (0)), (7, .i n7'2), (9, .q 9 (0))] [(2, .pure (GValue.cs GValue.zero)), (9, .pure (GValue.cs j'5))] Y Y Y ?_
        refine AW2_skip ?_
        refine sg [0, 1, 2, 3, 4, 5] Y ?_
        refine rp Y Y (u_lda Y Y Tryd.underlying24 Y in_24 Y (Nat.succ_pos _) (Sub.refl _) (GValue.len j'5)) ?_
        refine rp Y Y (p_move Y Y) ?_
        refine rp Y Y (p_bin Y Y Y Y) ?_
        refine r_op Y Y (u_st Y Y Y Y Y in_24 (GValue.len j'5) (nl (GValue.len GValue.zero)) (Upd.refl ((GValue.len j'5).trans (GValue.len GValue.zero).symm))) ?_
        refine rp Y Y (p_asg Y Y) ?_
        refine rp Y Y (p_asg Y Y) ?_
        refine rz [(2, .q 2 (0)), (3, .i (w64 ((1 : Int) + n7'2))), (4, .i (0 : Int))] [(2, .pure (GValue.cs j'5))] Y Y Y ?_
        refine AW2_ret ?_
        have hz := some_elim H
        subst hz
        exact ⟨⟨res_cella Tryd.underlying24 Y in_24.sz Y (Sub.le (Sub.refl _) (GValue.len j'5)) (by decide) (Sub.take (Sub.refl _) (GValue.len j'5)), res_tmp (.same _), res_tmp (.same _), trivial⟩, trivial⟩

/-! chirographref.RowOf -/
noncomputable def g_ref_RowOf_l0 (n1 : Int) (down2 : Int) : (List UInt8) × Int × (List GValue) → Option (((List UInt8) × Int × (List GValue)) ⊕ (((List GValue) × Int) ⊕ ((List UInt8) × (List GValue))))
  | (s8_0, i10_0, out9_0) => (if i10_0 < n1 then ((g_ref_downs down2 i10_0).bind fun r'2 => (if r'2 = true then (g_ref_flipped s8_0).bind fun r'3 => some r'3 else some s8_0)).bind fun j'1 => (g_ref_valueOf j'1).bind fun r'4 => (if r'4.2.2 ≠ (0 : Int) then some (.inr (.inl (([] : List GValue), r'4.2.2))) else if room (out9_0.length + ([r'4.1] : List GValue).length) 40 then if 0 ≤ r'4.2.1 ∧ r'4.2.1 ≤ (s8_0.length : Int) then some (.inl ((cut s8_0 r'4.2.1 (s8_0.length : Int)), w64 (i10_0 + (1 : Int)), out9_0 ++ ([r'4.1] : List GValue))) else none else none) else some (.inr (.inr (s8_0, out9_0))))
noncomputable def g_ref_RowOf (b0 : List UInt8) (n1 : Int) (down2 : Int) : Option ((List GValue) × Int) :=
  (if (n1 < (0 : Int)) ∨ (n1 > (5 : Int)) then some (([] : List GValue), (1 : Int)) else (loopO (g_ref_RowOf_l0 n1 down2) (b0, (0 : Int), ([] : List GValue))).bind fun o'8 => match o'8 with | .inl y'9 => some y'9 | .inr (y'10) => (if y'10.1 ≠ [] then some (([] : List GValue), (3 : Int)) else some (y'10.2, (0 : Int))))
set_option maxHeartbeats 4000000 in
set_option maxRecDepth 100000 in
theorem g_ref_RowOf_ac2 {b0 : List UInt8} {n1 : Int} {down2 : Int} {r : (List GValue) × Int} (H : g_ref_RowOf b0 n1 down2 = some r) : AC2 Tryd.prog 25 (pureT [(AV.bytes b0), (AV.int n1), (AV.int down2)]) [] (retV [.c (.own 6 r.1.length 4), .i r.2]) [(6, .pure (r.1.flatMap GValue.cs))] := by
 refine AC2_of_body (vs := [.c (.own 6 r.1.length 4), .i r.2]) Tryd.func25 Y Y (Nat.le_of_ble_eq_true Y) Y ?_
 unfold g_ref_RowOf at H
 refine as2 [(0, .y b0), (1, .i n1), (2, .i down2)] [] Y Y Y ?_
 refine sg [0, 1] Y ?_
 refine rp Y Y (p_asgn Y) ?_
 refine rp Y Y (p_asg Y Y) ?_
 refine rz [(0, .y b0), (1, .i n1), (2, .i down2)] [] Y Y Y ?_
 refine AW2_seq ?_
 refine AW2_seq ?_
 refine AW2_mid (⟨[(0, .y b0), (1, .i n1), (2, .i down2), (20, .b (decide ((n1 < (0 : Int)) ∨ (n1 > (5 : Int)))))], [], 53⟩ : TS) ?_ ?_
 ·refine AW2_reg [0, 1, 2, 3, 4, 5] Y ?_
  refine rp Y Y (p_move Y Y) ?_
  refine rp Y Y (p_bin Y Y Y Y) ?_
  refine rp Y Y (p_move Y Y) ?_
  refine (Classical.em (n1 < (0 : Int))).elim (fun h1 => ?_) (fun h1 => ?_)
  ·refine r_off Y Y Y Y (dT h1) Y Y ?_
   refine r_off Y Y Y Y (dT h1) Y Y ?_
   refine rp Y Y (p_pkt Y Y (dT h1) (tb (dT (p := (n1 < (0 : Int)) ∨ (n1 > (5 : Int))) (Or.inl h1)).symm)) ?_
   refine rs [(0, .y b0), (1, .i n1), (2, .i down2), (20, .b (decide ((n1 < (0 : Int)) ∨ (n1 > (5 : Int)))))] [] Y Y Y ?_
   exact RunW_nil rfl
  ·refine r_on Y Y Y Y (dF h1) Y (PureD.opD (p_move Y Y)) ?_
   refine r_on Y Y Y Y (dF h1) Y (PureD.opD (p_bin Y Y Y Y)) ?_
   refine rp Y Y (p_pkf Y Y (dF h1) (tb ((or_l (p := n1 < (0 : Int)) (q := n1 > (5 : Int)) h1)))) ?_
   refine rs [(0, .y b0), (1, .i n1), (2, .i down2), (20, .b (decide ((n1 < (0 : Int)) ∨ (n1 > (5 : Int)))))] [] Y Y Y ?_
   exact RunW_nil rfl
 ·refine AW2_if (p := (n1 < (0 : Int)) ∨ (n1 > (5 : Int))) Y (fun h2 => ?_) (fun h2 => ?_)
  ·replace H := ite_then h2 H
   refine sg [0, 1] Y ?_
   refine rp Y Y (p_asgn Y) ?_
   refine rp Y Y (p_asg Y Y) ?_
   refine rz [(6, .p .nil), (7, .i (1 : Int))] [] Y Y Y ?_
   refine as2 [(6, .p .nil), (7, .i (1 : Int))] [] Y Y Y ?_
   refine AW2_gho (Gho_own (d := 6) (b := 6) (z := 4) Y Y Y Y) ?_
   refine AW2_st [(6, .c (.own 6 ([] : List GValue).length 4)), (7, .i (1 : Int))] [(6, .pure (([] : List GValue).flatMap GValue.cs))] Y ⟨TLes.own Y, TLes.same _, trivial⟩ ⟨Y, trivial⟩ ?_
   refine AW2_ret ?_
   have hz := some_elim H
   subst hz
   exact ⟨⟨res_tmp (.same _), res_tmp (.same _), trivial⟩, ⟨Y, trivial⟩⟩
  ·replace H := ite_else h2 H
   refine as2 [(0, .y b0), (1, .i n1), (2, .i down2)] [] Y Y Y ?_
   refine AW2_skip ?_
   refine sg [0, 1, 2] Y ?_
   refine rp Y Y (p_move Y Y) ?_
   refine rp Y Y (p_cb Y Y Tryd.underlying33 Tryd.underlying5 Tryd.underlying9 Y) ?_
   refine rp Y Y (p_asg Y Y) ?_
   refine rz [(1, .i n1), (2, .i down2), (8, .t b0)] [] Y Y Y ?_
   refine sg [0] Y ?_
   refine rp Y Y (p_asgn Y) ?_
   refine rz [(1, .i n1), (2, .i down2), (8, .t b0), (9, .p .nil)] [] Y Y Y ?_
   refine AW2_seq ?_
   refine sg [0] Y ?_
   refine rp Y Y (p_asg Y Y) ?_
   refine rz [(1, .i n1), (2, .i down2), (8, .t b0), (9, .p .nil), (10, .i (0 : Int))] [] Y Y Y ?_
   refine AW2_block ?_
   refine as2 [(1, .i n1), (2, .i down2), (8, .t b0), (9, .p .nil), (10, .i (0 : Int))] [] Y Y Y ?_
   refine AW2_gho (Gho_own (d := 9) (b := 9) (z := 4) Y Y Y Y) ?_
   refine AW2_st [(1, .i n1), (2, .i down2), (8, .t b0), (9, .c (.own 9 ([] : List GValue).length 4)), (10, .i (0 : Int))] [(9, .pure (([] : List GValue).flatMap GValue.cs))] Y ⟨TLes.same _, TLes.same _, TLes.same _, TLes.own Y, TLes.same _, trivial⟩ ⟨Y, trivial⟩ ?_
   refine bindK H fun o'8 h12 H => ?_
   refine AW2_loopO (fun a'5 : (List UInt8) × Int × (List GValue) => (⟨[(1, .i n1), (2, .i down2), (8, .t a'5.1), (9, .c (.own 9 a'5.2.2.length 4)), (10, .i a'5.2.1)], [(9, .pure (a'5.2.2.flatMap GValue.cs))], 53⟩ : TS)) (fun (o : ((List GValue) × Int) ⊕ ((List UInt8) × (List GValue))) e s' => match o with | .inl y'6 => e = Go.Exit.ret ∧ ResAll Tryd.prog s' [ResultVar.tmp 6, ResultVar.tmp 7] [.c (.own 6 y'6.1.length 4), .i y'6.2] ∧ HFits s' [(6, .pure (y'6.1.flatMap GValue.cs))] | .inr (y'7) => e = Go.Exit.exit 0 ∧ s' = (⟨[(8, .t y'7.1), (9, .c (.own 9 y'7.2.length 4))], [(9, .pure (y'7.2.flatMap GValue.cs))], 53⟩ : TS)) h12 Y (fun a x hx => ?_) (fun e s' hs => ?_)
   ·clear H
    obtain ⟨s8_0, i10_0, out9_0⟩ := a
    have H := hx
    clear hx
    unfold g_ref_RowOf_l0 at H
    refine AW2_seq ?_
    refine sg [0, 1, 2] Y ?_
    refine rp Y Y (p_move Y Y) ?_
    refine rp Y Y (p_move Y Y) ?_
    refine rp Y Y (p_bin Y Y Y Y) ?_
    refine rz [(1, .i n1), (2, .i down2), (8, .t s8_0), (9, .c (.own 9 out9_0.length 4)), (10, .i i10_0), (25, .b (decide (i10_0 < n1)))] [(9, .pure (out9_0.flatMap GValue.cs))] Y Y Y ?_
    refine AW2_if (p := i10_0 < n1) Y (fun h3 => ?_) (fun h3 => ?_)
    ·replace H := ite_then h3 H
     refine as2 [(1, .i n1), (2, .i down2), (8, .t s8_0), (9, .c (.own 9 out9_0.length 4)), (10, .i i10_0)] [(9, .pure (out9_0.flatMap GValue.cs))] Y Y Y ?_
     refine AW2_skip ?_
     refine AW2_seq ?_
     refine AW2_block ?_
     refine sg [0, 1] Y ?_
     refine rp Y Y (p_move Y Y) ?_
     refine rp Y Y (p_asg Y Y) ?_
     refine rz [(1, .i n1), (2, .i down2), (8, .t s8_0), (9, .c (.own 9 out9_0.length 4)), (10, .i i10_0), (11, .t s8_0)] [(9, .pure (out9_0.flatMap GValue.cs))] Y Y Y ?_
     refine AW2_seq ?_
     refine bindK H fun j'1 h4 H => ?_
     refine AW2_mid (⟨[(1, .i n1), (2, .i down2), (8, .t s8_0), (9, .c (.own 9 out9_0.length 4)), (10, .i i10_0), (11, .t j'1)], [(9, .pure (out9_0.flatMap GValue.cs))], 53⟩ : TS) ?_ ?_
     ·clear H
      have H := h4
      clear h4
      refine sg [0, 1, 2] Y ?_
      refine rp Y Y (p_move Y Y) ?_
      refine rp Y Y (p_move Y Y) ?_
      refine bindK H fun r'2 h5 H => ?_
      refine rp Y Y (p_callp Y Y Y Tryd.func51 Y Y (g_ref_downs_ac h5) ⟨Y, Y, trivial⟩) ?_
      refine rz [(1, .i n1), (2, .i down2), (8, .t s8_0), (9, .c (.own 9 out9_0.length 4)), (10, .i i10_0), (11, .t s8_0), (31, .b r'2)] [(9, .pure (out9_0.flatMap GValue.cs))] Y Y Y ?_
      refine AW2_cond Y (fun h6 => ?_) (fun h6 => ?_)
      ·replace H := ite_then h6 H
       refine AW2_reg [0, 1, 2] Y ?_
       refine rp Y Y (p_move Y Y) ?_
       refine bindK H fun r'3 h7 H => ?_
       refine rp Y Y (p_callp Y Y Y Tryd.func52 Y Y (g_ref_flipped_ac h7) ⟨Y, trivial⟩) ?_
       refine rp Y Y (p_asg Y Y) ?_
       refine rz [(1, .i n1), (2, .i down2), (8, .t s8_0), (9, .c (.own 9 out9_0.length 4)), (10, .i i10_0), (11, .t r'3)] [(9, .pure (out9_0.flatMap GValue.cs))] Y Y Y ?_
       have hz := some_elim H
       subst hz
       exact rfl
      ·replace H := ite_else (ne_true h6) H
       refine as2 [(1, .i n1), (2, .i down2), (8, .t s8_0), (9, .c (.own 9 out9_0.length 4)), (10, .i i10_0), (11, .t s8_0)] [(9, .pure (out9_0.flatMap GValue.cs))] Y Y Y ?_
       refine AW2_skip ?_
       have hz := some_elim H
       subst hz
       exact rfl
     ·refine sg [0, 1, 2, 3, 4, 5, 6, 7, 8, 9] Y ?_
      refine rp Y Y (p_move Y Y) ?_
      refine bindK H fun r'4 h8 H => ?_
      refine rp Y Y (p_callp Y Y Y Tryd.func55 Y Y (g_ref_valueOf_ac h8) ⟨Y, trivial⟩) ?_
      refine rp Y Y (p_move Y Y) ?_
      refine rp Y Y (p_ext Y Y Y Y) ?_
      refine rp Y Y (p_ext Y Y Y Y) ?_
      refine rp Y Y (p_ext Y Y Y Y) ?_
      refine r_op Y Y (MakeD.opD (u_alloc 12 Y in_24 one_24 zc_24) Y Y Y Y) ?_
      refine r_op Y Y (u_st Y Y Y Y Y in_24 (GValue.len r'4.1) (nl (GValue.len GValue.zero)) (Upd.refl ((GValue.len r'4.1).trans (GValue.len GValue.zero).symm))) ?_
      refine rp Y Y (p_asg Y Y) ?_
      refine rp Y Y (p_asg Y Y) ?_
      refine rz [(1, .i n1), (2, .i down2), (8, .t s8_0), (9, .c (.own 9 out9_0.length 4)), (10, .i i10_0), (12, .q 12 (0)), (13, .i r'4.2.1), (14, .i r'4.2.2)] [(9, .pure (out9_0.flatMap GValue.cs)), (12, .pure (GValue.cs r'4.1))] Y Y Y ?_
      refine AW2_seq ?_
      refine sg [0, 1] Y ?_
      refine rp Y Y (p_move Y Y) ?_
      refine rp Y Y (p_ine Y Y Y) ?_
      refine rz [(1, .i n1), (2, .i down2), (8, .t s8_0), (9, .c (.own 9 out9_0.length 4)), (10, .i i10_0), (12, .q 12 (0)), (13, .i r'4.2.1), (14, .i r'4.2.2), (41, .b (decide (r'4.2.2 ≠ (0 : Int))))] [(9, .pure (out9_0.flatMap GValue.cs)), (12, .pure (GValue.cs r'4.1))] Y Y Y ?_
      refine AW2_if (p := r'4.2.2 ≠ (0 : Int)) Y (fun h9 => ?_) (fun h9 => ?_)
      ·replace H := ite_then h9 H
       refine sg [0, 1, 2] Y ?_
       refine rp Y Y (p_move Y Y) ?_
       refine rp Y Y (p_asgn Y) ?_
       refine rp Y Y (p_asg Y Y) ?_
       refine rz [(6, .p .nil), (7, .i r'4.2.2)] [] Y Y Y ?_
       refine as2 [(6, .p .nil), (7, .i r'4.2.2)] [] Y Y Y ?_
       refine AW2_gho (Gho_own (d := 6) (b := 6) (z := 4) Y Y Y Y) ?_
       refine AW2_st [(6, .c (.own 6 ([] : List GValue).length 4)), (7, .i r'4.2.2)] [(6, .pure (([] : List GValue).flatMap GValue.cs))] Y ⟨TLes.own Y, TLes.same _, trivial⟩ ⟨Y, trivial⟩ ?_
       refine AW2_ret ?_
       have hz := some_elim H
       subst hz
       exact ⟨Y, ⟨res_tmp (.same _), res_tmp (.same _), trivial⟩, ⟨Y, trivial⟩⟩
      ·replace H := ite_else h9 H
       refine as2 [(1, .i n1), (2, .i down2), (8, .t s8_0), (9, .c (.own 9 out9_0.length 4)), (10, .i i10_0), (12, .q 12 (0)), (13, .i r'4.2.1)] [(9, .pure (out9_0.flatMap GValue.cs)), (12, .pure (GValue.cs r'4.1))] Y Y Y ?_
       refine AW2_skip ?_
       refine sg [0, 1, 2, 3, 4] Y ?_
       refine rp Y Y (p_move Y Y) ?_
       refine rp Y Y (u_lda Y Y Tryd.underlying24 Y in_24 Y (Nat.succ_pos _) (Sub.refl _) (GValue.len r'4.1)) ?_
       refine r_op Y Y (MakeD.opD (u_bs 45 Y Tryd.underlying32 in_24 Y one_24 (by decide) (by decide) zc_24 Y (af_lit (g := GValue.cs) (fun x => (GValue.len x)) (GValue.len GValue.zero) [r'4.1])) Y Y Y Y) ?_
       refine chkK H fun h10 H => ?_
       refine r_op Y Y (u_app [9, 43] Y Y Y Y Tryd.underlying32 Tryd.underlying32 in_24 Y Y Y (fm_length (fun x => (GValue.len x)) out9_0) (by decide) (srcT_o Y Y (fm_length (fun x => (GValue.len x)) ([r'4.1] : List GValue)) (by decide)) (fm_length (fun x => (GValue.len x)) ([r'4.1] : List GValue)) h10 (by decide) Y Y (fapp GValue.cs out9_0 ([r'4.1] : List GValue)) (lapp out9_0 ([r'4.1] : List GValue))) ?_
       refine rp Y Y (p_asg Y Y) ?_
       refine rz [(1, .i n1), (2, .i down2), (8, .t s8_0), (9, .c (.own 9 (out9_0 ++ ([r'4.1] : List GValue)).length 4)), (10, .i i10_0), (13, .i r'4.2.1)] [(9, .pure ((out9_0 ++ ([r'4.1] : List GValue)).flatMap GValue.cs))] Y Y Y ?_
       refine AW2_reg [0, 1, 2, 3] Y ?_
       refine rp Y Y (p_move Y Y) ?_
       refine rp Y Y (p_move Y Y) ?_
       refine chkK H fun h11 H => ?_
       refine rp Y Y (u_cutt (a := r'4.2.1) (b := (s8_0.length : Int)) Y Tryd.underlying9 Y (bT_i (show 0 ≤ r'4.2.1 ∧ r'4.2.1 ≤ (s8_0.length : Int) ∧ (s8_0.length : Int) ≤ (s8_0.length : Int) from ⟨h11.1, h11.2, Int.le_refl _⟩).1 Y) (bT_len _) (show 0 ≤ r'4.2.1 ∧ r'4.2.1 ≤ (s8_0.length : Int) ∧ (s8_0.length : Int) ≤ (s8_0.length : Int) from ⟨h11.1, h11.2, Int.le_refl _⟩)) ?_
       refine rp Y Y (p_asg Y Y) ?_
       refine rz [(1, .i n1), (2, .i down2), (8, .t (cut s8_0 r'4.2.1 (s8_0.length : Int))), (9, .c (.own 9 (out9_0 ++ ([r'4.1] : List GValue)).length 4)), (10, .i i10_0)] [(9, .pure ((out9_0 ++ ([r'4.1] : List GValue)).flatMap GValue.cs))] Y Y Y ?_
       refine AW2_reg [0, 1, 2] Y ?_
       refine rp Y Y (p_move Y Y) ?_
       refine rp Y Y (p_bin Y Y Y Y) ?_
       refine rp Y Y (p_asg Y Y) ?_
       refine rz [(1, .i n1), (2, .i down2), (8, .t (cut s8_0 r'4.2.1 (s8_0.length : Int))), (9, .c (.own 9 (out9_0 ++ ([r'4.1] : List GValue)).length 4)), (10, .i (w64 (i10_0 + (1 : Int))))] [(9, .pure ((out9_0 ++ ([r'4.1] : List GValue)).flatMap GValue.cs))] Y Y Y ?_
       have hz := some_elim H
       subst hz
       exact ⟨Y, Y⟩
    ·replace H := ite_else h3 H
     refine as2 [(8, .t s8_0), (9, .c (.own 9 out9_0.length 4))] [(9, .pure (out9_0.flatMap GValue.cs))] Y Y Y ?_
     refine AW2_exit ?_
     refine thenQ2_exit ?_
     have hz := some_elim H
     subst hz
     exact ⟨Y, Y⟩
   ·rcases o'8 with y'9 | y'10
    ·obtain ⟨rfl, hs⟩ := hs
     refine ⟨by simp, ?_⟩
     have hz := some_elim H
     subst hz
     exact ⟨hs.1, hs.2⟩
    ·obtain ⟨rfl, rfl⟩ := hs
     refine ⟨by simp, ?_⟩
     refine blockQ2_exit ?_
     refine AW2_seq ?_
     refine sg [0, 1] Y ?_
     refine rp Y Y (p_move Y Y) ?_
     refine rp Y Y (p_sne Y Y Y) ?_
     refine rz [(9, .c (.own 9 y'10.2.length 4)), (51, .b (decide (y'10.1 ≠ [])))] [(9, .pure (y'10.2.flatMap GValue.cs))] Y Y Y ?_
     refine AW2_if (p := y'10.1 ≠ []) Y (fun h13 => ?_) (fun h13 => ?_)
     ·replace H := ite_then h13 H
      refine sg [0, 1] Y ?_
      refine rp Y Y (p_asgn Y) ?_
      refine rp Y Y (p_asg Y Y) ?_
      refine rz [(6, .p .nil), (7, .i (3 : Int))] [] Y Y Y ?_
      refine as2 [(6, .p .nil), (7, .i (3 : Int))] [] Y Y Y ?_
      refine AW2_gho (Gho_own (d := 6) (b := 6) (z := 4) Y Y Y Y) ?_
      refine AW2_st [(6, .c (.own 6 ([] : List GValue).length 4)), (7, .i (3 : Int))] [(6, .pure (([] : List GValue).flatMap GValue.cs))] Y ⟨TLes.own Y, TLes.same _, trivial⟩ ⟨Y, trivial⟩ ?_
      refine AW2_ret ?_
      have hz := some_elim H
      subst hz
      exact ⟨⟨res_tmp (.same _), res_tmp (.same _), trivial⟩, ⟨Y, trivial⟩⟩
     ·replace H := ite_else h13 H
      refine as2 [(9, .c (.own 9 y'10.2.length 4))] [(9, .pure (y'10.2.flatMap GValue.cs))] Y Y Y ?_
      refine AW2_skip ?_
      refine sg [0, 1, 2] Y ?_
      refine rp Y Y (p_move Y Y) ?_
      refine rp Y Y (p_asg Y Y) ?_
      refine rp Y Y (p_asg Y Y) ?_
      refine rs [(6, .c (.own 9 y'10.2.length 4)), (7, .i (0 : Int))] [(9, .pure (y'10.2.flatMap GValue.cs))] Y Y Y ?_
      refine RunW_gho (Gho_ren 9 6 Y Y Y Y Y) ?_
      refine rz [(6, .c (.own 6 y'10.2.length 4)), (7, .i (0 : Int))] [(6, .pure (y'10.2.flatMap GValue.cs))] Y Y Y ?_
      refine as2 [(6, .c (.own 6 y'10.2.length 4)), (7, .i (0 : Int))] [(6, .pure (y'10.2.flatMap GValue.cs))] Y Y Y ?_
      refine AW2_ret ?_
      have hz := some_elim H
      subst hz
      exact ⟨⟨res_tmp (.same _), res_tmp (.same _), trivial⟩, ⟨Y, trivial⟩⟩
theorem g_ref_RowOf_ac {b0 : List UInt8} {n1 : Int} {down2 : Int} {r : (List GValue) × Int} (H : g_ref_RowOf b0 n1 down2 = some r) : ACp Tryd.prog 25 [(AV.bytes b0), (AV.int n1), (AV.int down2)] (.tup [((fun q : List GValue => AV.lst (q.flatMap GValue.cs) q.length) r.1), (AV.int r.2)]) := ACp_pub (g_ref_RowOf_ac2 H) (fun _ _ hm => lent_tup ⟨lent_own hm rfl (fm_length (fun x => (GValue.len x)) r.1) (by decide), .same _, trivial⟩)
end Go.Proofs.YtfekkhinjdmcbaaDoor.VM
