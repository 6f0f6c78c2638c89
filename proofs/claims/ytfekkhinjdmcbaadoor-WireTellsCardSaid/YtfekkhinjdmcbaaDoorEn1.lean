/- Functions of the program, as they answer, and that their code comes to these answers. -/
import Derived.Test.YtfekkhinjdmcbaaDoorEn0
namespace Go.Proofs.YtfekkhinjdmcbaaDoor.VM
open Go Go.RowKit

theorem in_24 : Info Tryd.prog 24 4 40 (.agg #[.int .i64 0, .int .i64 0, .int .u64 0, .string ⟨#[]⟩]) := by unfold Info; kernel_rfl
theorem one_24 : (.agg #[.int .i64 0, .int .i64 0, .int .u64 0, .string ⟨#[]⟩] : Value).cells.all (·.oneCell') = true := by kernel_rfl
theorem zc_24 : ((.agg #[.int .i64 0, .int .i64 0, .int .u64 0, .string ⟨#[]⟩] : Value).cells.toList.map zcell) = GValue.cs GValue.zero := by rfl
theorem pl_24 : placesOf Tryd.prog 24 = some [(0, 1), (1, 1), (2, 1), (3, 1)] := by kernel_rfl
theorem eq_24 : EqT Tryd.prog 24 2 (fun x : GValue => .agg (GValue.cs x)) :=
  eqt_struct [fun a b => a.Kind = b.Kind, fun a b => a.Int_ = b.Int_, fun a b => a.Bits = b.Bits, fun a b => a.Text = b.Text] Tryd.underlying24 (by kernel_rfl) ⟨(FieldEq.more (fe_one (by decide) Tryd.underlying3 rfl (eqt_int Tryd.underlying3) (fun a => GValue.sub0 a)) (by decide : 1 ≤ 1)), (FieldEq.more (fe_one (by decide) Tryd.underlying3 rfl (eqt_int Tryd.underlying3) (fun a => GValue.sub1 a)) (by decide : 1 ≤ 1)), (FieldEq.more (fe_one (by decide) Tryd.underlying22 rfl (eqt_u64 Tryd.underlying22) (fun a => GValue.sub2 a)) (by decide : 1 ≤ 1)), (FieldEq.more (fe_one (by decide) Tryd.underlying9 rfl (eqt_txt Tryd.underlying9) (fun a => GValue.sub3 a)) (by decide : 1 ≤ 1)), trivial⟩ (fun a b => by
    cases a; cases b
    simp)
set_option maxRecDepth 100000 in
theorem ty_3 {d : Nat} {cs : List AV} (h : Typed Tryd.prog d 3 cs) : ∃ x : Int, cs = [(AV.int x)] ∧ okI x := match d, h with
  | 0, h => False.elim h
  | d + 1, h => ty_int Tryd.underlying3 h
set_option maxRecDepth 100000 in
theorem ty_22 {d : Nat} {cs : List AV} (h : Typed Tryd.prog d 22 cs) : ∃ x : UInt64, cs = [(AV.u64 x)] ∧ okA x := match d, h with
  | 0, h => False.elim h
  | d + 1, h => ty_u64 Tryd.underlying22 h
set_option maxRecDepth 100000 in
theorem ty_9 {d : Nat} {cs : List AV} (h : Typed Tryd.prog d 9 cs) : ∃ x : List UInt8, cs = [(AV.txt x)] ∧ okT x := match d, h with
  | 0, h => False.elim h
  | d + 1, h => ty_text Tryd.underlying9 h
def GValue.ok (x : GValue) : Prop := okI x.Kind ∧ okI x.Int_ ∧ okA x.Bits ∧ okT x.Text
set_option maxRecDepth 100000 in
theorem ty_24 {d : Nat} {cs : List AV} (h : Typed Tryd.prog d 24 cs) : ∃ x : GValue, cs = GValue.cs x ∧ GValue.ok x := match d, h with
  | 0, h => False.elim h
  | d + 1, h => by
    obtain ⟨es, rfl, hl, hf⟩ := ty_struct Tryd.underlying24 h
    match es, hl, hf with
    | [e0, e1, e2, e3], _, hf =>
    obtain ⟨x0, h0, q0⟩ := ty_3 (hf 0 _ e0 rfl rfl)
    obtain ⟨x1, h1, q1⟩ := ty_3 (hf 1 _ e1 rfl rfl)
    obtain ⟨x2, h2, q2⟩ := ty_22 (hf 2 _ e2 rfl rfl)
    obtain ⟨x3, h3, q3⟩ := ty_9 (hf 3 _ e3 rfl rfl)
    refine ⟨⟨x0, x1, x2, x3⟩, ?_, ⟨q0, q1, q2, q3⟩⟩
    rw [h0, h1, h2, h3]
    simp only [List.flatten_cons, List.flatten_nil, List.append_nil, GValue.cs]
set_option maxRecDepth 100000 in
theorem ty_32 {d : Nat} {cs : List AV} (h : Typed Tryd.prog d 32 cs) : ∃ x : List GValue, cs = [((fun q : List GValue => AV.lst (q.flatMap GValue.cs) q.length) x)] ∧ (okL 40 GValue.ok) x := match d, h with
  | 0, h => False.elim h
  | d + 1, h => ty_slicef (g := fun b : GValue => GValue.cs b) Tryd.underlying32 (bytes_of in_24) (fun _ hx => ty_24 hx) h

/-! code.Encode -/
noncomputable def g_code_Encode_l1 (down1 : Int) (t17_0 : Int) (r'2 : List UInt8) : Int × (List UInt8) → Option ((Int × (List UInt8)) ⊕ (((List UInt8))))
  | (t30_1, out6_1) => (if t30_1 < (r'2.length : Int) then if 0 ≤ t30_1 ∧ t30_1 < (r'2.length : Int) then (if 0 ≤ t17_0 then (if iand (ishr down1 t17_0.toNat) (1 : Int) = (1 : Int) then some (~~~ (lrd r'2 t30_1.toNat)) else some (lrd r'2 t30_1.toNat)) else none).bind fun j'3 => if room (out6_1.length + ([j'3] : List UInt8).length) 1 then some (.inl (w64 (t30_1 + (1 : Int)), out6_1 ++ ([j'3] : List UInt8))) else none else none else some (.inr out6_1))
noncomputable def g_code_Encode_l0 (row0 : List GValue) (down1 : Int) : Int × (List UInt8) → Option ((Int × (List UInt8)) ⊕ (((List UInt8) × Int) ⊕ ((List UInt8))))
  | (t17_0, out6_0) => (if t17_0 < (row0.length : Int) then if 0 ≤ t17_0 ∧ t17_0 < (row0.length : Int) then (g_value_Check (lrd row0 t17_0.toNat)).bind fun r'1 => (if r'1 ≠ (0 : Int) then some (.inr (.inl (([] : List UInt8), r'1))) else (g_code_one (lrd row0 t17_0.toNat)).bind fun r'2 => (loopO (g_code_Encode_l1 down1 t17_0 r'2) ((0 : Int), out6_0)).bind fun y'7 => some (.inl (w64 (t17_0 + (1 : Int)), y'7))) else none else some (.inr (.inr out6_0)))
noncomputable def g_code_Encode (row0 : List GValue) (down1 : Int) : Option ((List UInt8) × Int) :=
  (if (row0.length : Int) > (5 : Int) then some (([] : List UInt8), (1 : Int)) else (loopO (g_code_Encode_l0 row0 down1) ((0 : Int), ([] : List UInt8))).bind fun o'11 => match o'11 with | .inl y'12 => some y'12 | .inr (y'13) => some (y'13, (0 : Int)))
set_option maxHeartbeats 4000000 in
set_option maxRecDepth 100000 in
theorem g_code_Encode_ac2 {row0 : List GValue} {down1 : Int} {r : (List UInt8) × Int} (H : g_code_Encode row0 down1 = some r) : AC2 Tryd.prog 21 (pureT [((fun q : List GValue => AV.lst (q.flatMap GValue.cs) q.length) row0), (AV.int down1)]) [] (retV [.c (.own 4 r.1.length 1), .i r.2]) [(4, .pure (bcells r.1))] := by
 refine AC2_of_body (vs := [.c (.own 4 r.1.length 1), .i r.2]) Tryd.func21 Y Y (Nat.le_of_ble_eq_true Y) Y ?_
 unfold g_code_Encode at H
 refine as2 [(0, .p ((fun q : List GValue => AV.lst (q.flatMap GValue.cs) q.length) row0)), (1, .i down1)] [] Y Y Y ?_
 refine sg [0, 1] Y ?_
 refine rp Y Y (p_asgn Y) ?_
 refine rp Y Y (p_asg Y Y) ?_
 refine rz [(0, .p ((fun q : List GValue => AV.lst (q.flatMap GValue.cs) q.length) row0)), (1, .i down1)] [] Y Y Y ?_
 refine AW2_seq ?_
 refine sg [0, 1, 2] Y ?_
 refine rp Y Y (p_move Y Y) ?_
 refine rp Y Y (p_lenl Y Tryd.underlying32 Y Y) ?_
 refine rp Y Y (p_bin Y Y Y Y) ?_
 refine rz [(0, .p ((fun q : List GValue => AV.lst (q.flatMap GValue.cs) q.length) row0)), (1, .i down1), (14, .b (decide ((row0.length : Int) > (5 : Int))))] [] Y Y Y ?_
 refine AW2_if (p := (row0.length : Int) > (5 : Int)) Y (fun h1 => ?_) (fun h1 => ?_)
 ·replace H := ite_then h1 H
  refine sg [0, 1] Y ?_
  refine rp Y Y (p_asgn Y) ?_
  refine rp Y Y (p_asg Y Y) ?_
  refine rz [(4, .p .nil), (5, .i (1 : Int))] [] Y Y Y ?_
  refine as2 [(4, .p .nil), (5, .i (1 : Int))] [] Y Y Y ?_
  refine AW2_gho (Gho_own (d := 4) (b := 4) (z := 1) Y Y Y Y) ?_
  refine AW2_st [(4, .c (.own 4 ([] : List UInt8).length 1)), (5, .i (1 : Int))] [(4, .pure (bcells ([] : List UInt8)))] Y ⟨TLes.own Y, TLes.same _, trivial⟩ ⟨Y, trivial⟩ ?_
  refine AW2_ret ?_
  have hz := some_elim H
  subst hz
  exact ⟨⟨res_tmp (.same _), res_tmp (.same _), trivial⟩, ⟨Y, trivial⟩⟩
 ·replace H := ite_else h1 H
  refine as2 [(0, .p ((fun q : List GValue => AV.lst (q.flatMap GValue.cs) q.length) row0)), (1, .i down1)] [] Y Y Y ?_
  refine AW2_skip ?_
  refine sg [0] Y ?_
  refine rp Y Y (p_asgn Y) ?_
  refine rz [(0, .p ((fun q : List GValue => AV.lst (q.flatMap GValue.cs) q.length) row0)), (1, .i down1), (6, .p .nil)] [] Y Y Y ?_
  refine AW2_seq ?_
  refine sg [0, 1, 2] Y ?_
  refine rp Y Y (p_move Y Y) ?_
  refine rp Y Y (p_lenl Y Tryd.underlying32 Y Y) ?_
  refine rp Y Y (p_move Y Y) ?_
  refine rz [(1, .i down1), (6, .p .nil), (15, .p ((fun q : List GValue => AV.lst (q.flatMap GValue.cs) q.length) row0)), (16, .i (row0.length : Int)), (17, .i (0 : Int))] [] Y Y Y ?_
  refine AW2_block ?_
  refine as2 [(1, .i down1), (6, .p .nil), (15, .p ((fun q : List GValue => AV.lst (q.flatMap GValue.cs) q.length) row0)), (16, .i (row0.length : Int)), (17, .i (0 : Int))] [] Y Y Y ?_
  refine AW2_gho (Gho_own (d := 6) (b := 6) (z := 1) Y Y Y Y) ?_
  refine AW2_st [(1, .i down1), (6, .c (.own 6 ([] : List UInt8).length 1)), (15, .p ((fun q : List GValue => AV.lst (q.flatMap GValue.cs) q.length) row0)), (16, .i (row0.length : Int)), (17, .i (0 : Int))] [(6, .pure (bcells ([] : List UInt8)))] Y ⟨TLes.same _, TLes.own Y, TLes.same _, TLes.same _, TLes.same _, trivial⟩ ⟨Y, trivial⟩ ?_
  refine bindK H fun o'11 h14 H => ?_
  refine AW2_loopO (fun a'8 : Int × (List UInt8) => (⟨[(1, .i down1), (6, .c (.own 6 a'8.2.length 1)), (15, .p ((fun q : List GValue => AV.lst (q.flatMap GValue.cs) q.length) row0)), (16, .i (row0.length : Int)), (17, .i a'8.1)], [(6, .pure (bcells a'8.2))], 48⟩ : TS)) (fun (o : ((List UInt8) × Int) ⊕ ((List UInt8))) e s' => match o with | .inl y'9 => e = Go.Exit.ret ∧ ResAll Tryd.prog s' [ResultVar.tmp 4, ResultVar.tmp 5] [.c (.own 4 y'9.1.length 1), .i y'9.2] ∧ HFits s' [(4, .pure (bcells y'9.1))] | .inr (y'10) => e = Go.Exit.exit 0 ∧ s' = (⟨[(6, .c (.own 6 y'10.length 1))], [(6, .pure (bcells y'10))], 48⟩ : TS)) h14 Y (fun a x hx => ?_) (fun e s' hs => ?_)
  ·clear H
   obtain ⟨t17_0, out6_0⟩ := a
   have H := hx
   clear hx
   unfold g_code_Encode_l0 at H
   refine sg [0] Y ?_
   refine rp Y Y (p_bin Y Y Y Y) ?_
   refine rz [(1, .i down1), (6, .c (.own 6 out6_0.length 1)), (15, .p ((fun q : List GValue => AV.lst (q.flatMap GValue.cs) q.length) row0)), (16, .i (row0.length : Int)), (17, .i t17_0), (18, .b (decide (t17_0 < (row0.length : Int))))] [(6, .pure (bcells out6_0))] Y Y Y ?_
   refine AW2_seq ?_
   refine AW2_if (p := t17_0 < (row0.length : Int)) Y (fun h2 => ?_) (fun h2 => ?_)
   ·replace H := ite_then h2 H
    refine as2 [(1, .i down1), (6, .c (.own 6 out6_0.length 1)), (15, .p ((fun q : List GValue => AV.lst (q.flatMap GValue.cs) q.length) row0)), (16, .i (row0.length : Int)), (17, .i t17_0)] [(6, .pure (bcells out6_0))] Y Y Y ?_
    refine AW2_skip ?_
    refine AW2_seq ?_
    refine AW2_block ?_
    refine sg [0, 1, 2, 3, 4, 5] Y ?_
    refine rp Y Y (p_move Y Y) ?_
    refine chkK H fun h3 H => ?_
    refine rp Y Y (u_ixl Y Y Tryd.underlying32 in_24 Y Y (ixe h3) (ixn h3) (fne (fun x => (GValue.len x)) (by decide) (ixn h3))) ?_
    refine rp Y Y (u_lda Y Y Tryd.underlying24 Y in_24 Y (Nat.succ_pos _) (Sub.fm default (fun x => (GValue.len x)) (ixn h3)) (GValue.len (lrd row0 t17_0.toNat))) ?_
    refine r_op Y Y (MakeD.opD (u_alloc 8 Y in_24 one_24 zc_24) Y Y Y Y) ?_
    refine rp Y Y (p_asg Y Y) ?_
    refine r_op Y Y (u_st Y Y Y Y Y in_24 (GValue.len (lrd row0 t17_0.toNat)) (nl (GValue.len GValue.zero)) (Upd.refl ((GValue.len (lrd row0 t17_0.toNat)).trans (GValue.len GValue.zero).symm))) ?_
    refine rz [(1, .i down1), (6, .c (.own 6 out6_0.length 1)), (7, .i t17_0), (8, .q 8 (0)), (15, .p ((fun q : List GValue => AV.lst (q.flatMap GValue.cs) q.length) row0)), (16, .i (row0.length : Int)), (17, .i t17_0)] [(6, .pure (bcells out6_0)), (8, .pure (GValue.cs (lrd row0 t17_0.toNat)))] Y Y Y ?_
    refine AW2_seq ?_
    refine sg [0, 1, 2] Y ?_
    refine rp Y Y (u_lda Y Y Tryd.underlying24 Y in_24 Y (Nat.succ_pos _) (Sub.refl _) (GValue.len (lrd row0 t17_0.toNat))) ?_
    refine bindK H fun r'1 h4 H => ?_
    refine rp Y Y (p_callp Y Y Y Tryd.func14 Y Y (g_value_Check_ac h4) ⟨Y, trivial⟩) ?_
    refine rp Y Y (p_asg Y Y) ?_
    refine rz [(1, .i down1), (6, .c (.own 6 out6_0.length 1)), (7, .i t17_0), (8, .q 8 (0)), (9, .i r'1), (15, .p ((fun q : List GValue => AV.lst (q.flatMap GValue.cs) q.length) row0)), (16, .i (row0.length : Int)), (17, .i t17_0)] [(6, .pure (bcells out6_0)), (8, .pure (GValue.cs (lrd row0 t17_0.toNat)))] Y Y Y ?_
    refine sg [0, 1] Y ?_
    refine rp Y Y (p_move Y Y) ?_
    refine rp Y Y (p_ine Y Y Y) ?_
    refine rz [(1, .i down1), (6, .c (.own 6 out6_0.length 1)), (7, .i t17_0), (8, .q 8 (0)), (9, .i r'1), (15, .p ((fun q : List GValue => AV.lst (q.flatMap GValue.cs) q.length) row0)), (16, .i (row0.length : Int)), (17, .i t17_0), (25, .b (decide (r'1 ≠ (0 : Int))))] [(6, .pure (bcells out6_0)), (8, .pure (GValue.cs (lrd row0 t17_0.toNat)))] Y Y Y ?_
    refine AW2_if (p := r'1 ≠ (0 : Int)) Y (fun h5 => ?_) (fun h5 => ?_)
    ·replace H := ite_then h5 H
     refine sg [0, 1, 2] Y ?_
     refine rp Y Y (p_move Y Y) ?_
     refine rp Y Y (p_asgn Y) ?_
     refine rp Y Y (p_asg Y Y) ?_
     refine rz [(4, .p .nil), (5, .i r'1)] [] Y Y Y ?_
     refine as2 [(4, .p .nil), (5, .i r'1)] [] Y Y Y ?_
     refine AW2_gho (Gho_own (d := 4) (b := 4) (z := 1) Y Y Y Y) ?_
     refine AW2_st [(4, .c (.own 4 ([] : List UInt8).length 1)), (5, .i r'1)] [(4, .pure (bcells ([] : List UInt8)))] Y ⟨TLes.own Y, TLes.same _, trivial⟩ ⟨Y, trivial⟩ ?_
     refine AW2_ret ?_
     have hz := some_elim H
     subst hz
     exact ⟨Y, ⟨res_tmp (.same _), res_tmp (.same _), trivial⟩, ⟨Y, trivial⟩⟩
    ·replace H := ite_else h5 H
     refine as2 [(1, .i down1), (6, .c (.own 6 out6_0.length 1)), (7, .i t17_0), (8, .q 8 (0)), (15, .p ((fun q : List GValue => AV.lst (q.flatMap GValue.cs) q.length) row0)), (16, .i (row0.length : Int)), (17, .i t17_0)] [(6, .pure (bcells out6_0)), (8, .pure (GValue.cs (lrd row0 t17_0.toNat)))] Y Y Y ?_
     refine AW2_skip ?_
     refine sg [0, 1, 2, 3] Y ?_
     refine rp Y Y (u_lda Y Y Tryd.underlying24 Y in_24 Y (Nat.succ_pos _) (Sub.refl _) (GValue.len (lrd row0 t17_0.toNat))) ?_
     refine bindK H fun r'2 h6 H => ?_
     refine rp Y Y (p_callp Y Y Y Tryd.func49 Y Y (g_code_one_ac h6) ⟨Y, trivial⟩) ?_
     refine rp Y Y (p_lenl Y Tryd.underlying33 Y Y) ?_
     refine rp Y Y (p_move Y Y) ?_
     refine rz [(1, .i down1), (6, .c (.own 6 out6_0.length 1)), (7, .i t17_0), (15, .p ((fun q : List GValue => AV.lst (q.flatMap GValue.cs) q.length) row0)), (16, .i (row0.length : Int)), (17, .i t17_0), (28, .y r'2), (29, .i (r'2.length : Int)), (30, .i (0 : Int))] [(6, .pure (bcells out6_0))] Y Y Y ?_
     refine AW2_block ?_
     refine as2 [(1, .i down1), (6, .c (.own 6 out6_0.length 1)), (7, .i t17_0), (15, .p ((fun q : List GValue => AV.lst (q.flatMap GValue.cs) q.length) row0)), (16, .i (row0.length : Int)), (17, .i t17_0), (28, .y r'2), (29, .i (r'2.length : Int)), (30, .i (0 : Int))] [(6, .pure (bcells out6_0))] Y Y Y ?_
     refine bindK H fun y'7 h13 H => ?_
     refine AW2_loopO (fun a'4 : Int × (List UInt8) => (⟨[(1, .i down1), (6, .c (.own 6 a'4.2.length 1)), (7, .i t17_0), (15, .p ((fun q : List GValue => AV.lst (q.flatMap GValue.cs) q.length) row0)), (16, .i (row0.length : Int)), (17, .i t17_0), (28, .y r'2), (29, .i (r'2.length : Int)), (30, .i a'4.1)], [(6, .pure (bcells a'4.2))], 48⟩ : TS)) (fun (y'5 : ((List UInt8))) e s' => e = Go.Exit.exit 2 ∧ s' = (⟨[(1, .i down1), (6, .c (.own 6 y'5.length 1)), (15, .p ((fun q : List GValue => AV.lst (q.flatMap GValue.cs) q.length) row0)), (16, .i (row0.length : Int)), (17, .i t17_0)], [(6, .pure (bcells y'5))], 48⟩ : TS)) h13 Y (fun a x hx => ?_) (fun e s' hs => ?_)
     ·clear H
      obtain ⟨t30_1, out6_1⟩ := a
      have H := hx
      clear hx
      unfold g_code_Encode_l1 at H
      refine sg [0] Y ?_
      refine rp Y Y (p_bin Y Y Y Y) ?_
      refine rz [(1, .i down1), (6, .c (.own 6 out6_1.length 1)), (7, .i t17_0), (15, .p ((fun q : List GValue => AV.lst (q.flatMap GValue.cs) q.length) row0)), (16, .i (row0.length : Int)), (17, .i t17_0), (28, .y r'2), (29, .i (r'2.length : Int)), (30, .i t30_1), (31, .b (decide (t30_1 < (r'2.length : Int))))] [(6, .pure (bcells out6_1))] Y Y Y ?_
      refine AW2_seq ?_
      refine AW2_if (p := t30_1 < (r'2.length : Int)) Y (fun h7 => ?_) (fun h7 => ?_)
      ·replace H := ite_then h7 H
       refine as2 [(1, .i down1), (6, .c (.own 6 out6_1.length 1)), (7, .i t17_0), (15, .p ((fun q : List GValue => AV.lst (q.flatMap GValue.cs) q.length) row0)), (16, .i (row0.length : Int)), (17, .i t17_0), (28, .y r'2), (29, .i (r'2.length : Int)), (30, .i t30_1)] [(6, .pure (bcells out6_1))] Y Y Y ?_
       refine AW2_skip ?_
       refine AW2_seq ?_
       refine AW2_block ?_
       refine sg [0, 1, 2] Y ?_
       refine chkK H fun h8 H => ?_
       refine rp Y Y (u_ixl Y Y Tryd.underlying33 in_5 Y Y (ixe h8) (ixn h8) (lne (ixn h8))) ?_
       refine rp Y Y (u_ld Y Y Tryd.underlying5 Y Y (Sub.map default (ixn h8))) ?_
       refine rp Y Y (p_asg Y Y) ?_
       refine rz [(1, .i down1), (6, .c (.own 6 out6_1.length 1)), (7, .i t17_0), (11, .p (AV.b8 (lrd r'2 t30_1.toNat))), (15, .p ((fun q : List GValue => AV.lst (q.flatMap GValue.cs) q.length) row0)), (16, .i (row0.length : Int)), (17, .i t17_0), (28, .y r'2), (29, .i (r'2.length : Int)), (30, .i t30_1)] [(6, .pure (bcells out6_1))] Y Y Y ?_
       refine AW2_seq ?_
       refine bindK H fun j'3 h9 H => ?_
       refine AW2_mid (⟨[(1, .i down1), (6, .c (.own 6 out6_1.length 1)), (7, .i t17_0), (11, .p (AV.b8 j'3)), (15, .p ((fun q : List GValue => AV.lst (q.flatMap GValue.cs) q.length) row0)), (16, .i (row0.length : Int)), (17, .i t17_0), (28, .y r'2), (29, .i (r'2.length : Int)), (30, .i t30_1)], [(6, .pure (bcells out6_1))], 48⟩ : TS) ?_ ?_
       ·clear H
        have H := h9
        clear h9
        refine sg [0, 1, 2, 3, 4] Y ?_
        refine rp Y Y (p_move Y Y) ?_
        refine rp Y Y (p_move Y Y) ?_
        refine chkK H fun h10 H => ?_
        refine rp Y Y (p_ishr (n := t17_0.toNat) Y Y Y (Int.toNat_of_nonneg h10).symm) ?_
        refine rp Y Y (p_bin Y Y Y Y) ?_
        refine rp Y Y (p_ieq Y Y Y) ?_
        refine rz [(1, .i down1), (6, .c (.own 6 out6_1.length 1)), (7, .i t17_0), (11, .p (AV.b8 (lrd r'2 t30_1.toNat))), (15, .p ((fun q : List GValue => AV.lst (q.flatMap GValue.cs) q.length) row0)), (16, .i (row0.length : Int)), (17, .i t17_0), (28, .y r'2), (29, .i (r'2.length : Int)), (30, .i t30_1), (38, .b (decide (iand (ishr down1 t17_0.toNat) (1 : Int) = (1 : Int))))] [(6, .pure (bcells out6_1))] Y Y Y ?_
        refine AW2_if (p := iand (ishr down1 t17_0.toNat) (1 : Int) = (1 : Int)) Y (fun h11 => ?_) (fun h11 => ?_)
        ·replace H := ite_then h11 H
         refine AW2_reg [0, 1, 2] Y ?_
         refine rp Y Y (p_move Y Y) ?_
         refine rp Y Y (p_u8cpl Y Y) ?_
         refine rp Y Y (p_asg Y Y) ?_
         refine rz [(1, .i down1), (6, .c (.own 6 out6_1.length 1)), (7, .i t17_0), (11, .p (AV.b8 (~~~ (lrd r'2 t30_1.toNat)))), (15, .p ((fun q : List GValue => AV.lst (q.flatMap GValue.cs) q.length) row0)), (16, .i (row0.length : Int)), (17, .i t17_0), (28, .y r'2), (29, .i (r'2.length : Int)), (30, .i t30_1)] [(6, .pure (bcells out6_1))] Y Y Y ?_
         have hz := some_elim H
         subst hz
         exact rfl
        ·replace H := ite_else h11 H
         refine as2 [(1, .i down1), (6, .c (.own 6 out6_1.length 1)), (7, .i t17_0), (11, .p (AV.b8 (lrd r'2 t30_1.toNat))), (15, .p ((fun q : List GValue => AV.lst (q.flatMap GValue.cs) q.length) row0)), (16, .i (row0.length : Int)), (17, .i t17_0), (28, .y r'2), (29, .i (r'2.length : Int)), (30, .i t30_1)] [(6, .pure (bcells out6_1))] Y Y Y ?_
         refine AW2_skip ?_
         have hz := some_elim H
         subst hz
         exact rfl
       ·refine AW2_reg [0, 1, 2, 3, 4] Y ?_
        refine rp Y Y (p_move Y Y) ?_
        refine rp Y Y (p_move Y Y) ?_
        refine r_op Y Y (MakeD.opD (u_bs 43 Y Tryd.underlying33 in_5 Y one_5 (by decide) (by decide) Y Y Y) Y Y Y Y) ?_
        refine chkK H fun h12 H => ?_
        refine r_op Y Y (u_app [6, 41] Y Y Y Y Tryd.underlying33 Tryd.underlying33 in_5 Y Y Y (bl out6_1) (by decide) (srcT_o Y Y (bl ([j'3] : List UInt8)) (by decide)) (bl ([j'3] : List UInt8)) h12 (by decide) Y Y (bapp out6_1 ([j'3] : List UInt8)) (lapp out6_1 ([j'3] : List UInt8))) ?_
        refine rp Y Y (p_asg Y Y) ?_
        refine rz [(1, .i down1), (6, .c (.own 6 (out6_1 ++ ([j'3] : List UInt8)).length 1)), (7, .i t17_0), (15, .p ((fun q : List GValue => AV.lst (q.flatMap GValue.cs) q.length) row0)), (16, .i (row0.length : Int)), (17, .i t17_0), (28, .y r'2), (29, .i (r'2.length : Int)), (30, .i t30_1)] [(6, .pure (bcells (out6_1 ++ ([j'3] : List UInt8))))] Y Y Y ?_
        refine AW2_reg [0, 1] Y ?_
        refine rp Y Y (p_bin Y Y Y Y) ?_
        refine rp Y Y (p_move Y Y) ?_
        refine rz [(1, .i down1), (6, .c (.own 6 (out6_1 ++ ([j'3] : List UInt8)).length 1)), (7, .i t17_0), (15, .p ((fun q : List GValue => AV.lst (q.flatMap GValue.cs) q.length) row0)), (16, .i (row0.length : Int)), (17, .i t17_0), (28, .y r'2), (29, .i (r'2.length : Int)), (30, .i (w64 (t30_1 + (1 : Int))))] [(6, .pure (bcells (out6_1 ++ ([j'3] : List UInt8))))] Y Y Y ?_
        have hz := some_elim H
        subst hz
        exact ⟨Y, Y⟩
      ·replace H := ite_else h7 H
       refine as2 [(1, .i down1), (6, .c (.own 6 out6_1.length 1)), (15, .p ((fun q : List GValue => AV.lst (q.flatMap GValue.cs) q.length) row0)), (16, .i (row0.length : Int)), (17, .i t17_0)] [(6, .pure (bcells out6_1))] Y Y Y ?_
       refine AW2_exit ?_
       refine thenQ2_exit ?_
       have hz := some_elim H
       subst hz
       exact ⟨Y, Y⟩
     ·obtain ⟨rfl, rfl⟩ := hs
      refine ⟨by simp, ?_⟩
      refine blockQ2_exit ?_
      refine AW2_reg [0, 1] Y ?_
      refine rp Y Y (p_bin Y Y Y Y) ?_
      refine rp Y Y (p_move Y Y) ?_
      refine rz [(1, .i down1), (6, .c (.own 6 y'7.length 1)), (15, .p ((fun q : List GValue => AV.lst (q.flatMap GValue.cs) q.length) row0)), (16, .i (row0.length : Int)), (17, .i (w64 (t17_0 + (1 : Int))))] [(6, .pure (bcells y'7))] Y Y Y ?_
      have hz := some_elim H
      subst hz
      exact ⟨Y, Y⟩
   ·replace H := ite_else h2 H
    refine as2 [(6, .c (.own 6 out6_0.length 1))] [(6, .pure (bcells out6_0))] Y Y Y ?_
    refine AW2_exit ?_
    refine thenQ2_exit ?_
    have hz := some_elim H
    subst hz
    exact ⟨Y, Y⟩
  ·rcases o'11 with y'12 | y'13
   ·obtain ⟨rfl, hs⟩ := hs
    refine ⟨by simp, ?_⟩
    have hz := some_elim H
    subst hz
    exact ⟨hs.1, hs.2⟩
   ·obtain ⟨rfl, rfl⟩ := hs
    refine ⟨by simp, ?_⟩
    refine blockQ2_exit ?_
    refine sg [0, 1, 2] Y ?_
    refine rp Y Y (p_move Y Y) ?_
    refine rp Y Y (p_asg Y Y) ?_
    refine rp Y Y (p_asg Y Y) ?_
    refine rs [(4, .c (.own 6 y'13.length 1)), (5, .i (0 : Int))] [(6, .pure (bcells y'13))] Y Y Y ?_
    refine RunW_gho (Gho_ren 6 4 Y Y Y Y Y) ?_
    refine rz [(4, .c (.own 4 y'13.length 1)), (5, .i (0 : Int))] [(4, .pure (bcells y'13))] Y Y Y ?_
    refine as2 [(4, .c (.own 4 y'13.length 1)), (5, .i (0 : Int))] [(4, .pure (bcells y'13))] Y Y Y ?_
    refine AW2_ret ?_
    have hz := some_elim H
    subst hz
    exact ⟨⟨res_tmp (.same _), res_tmp (.same _), trivial⟩, ⟨Y, trivial⟩⟩
theorem g_code_Encode_ac {row0 : List GValue} {down1 : Int} {r : (List UInt8) × Int} (H : g_code_Encode row0 down1 = some r) : ACp Tryd.prog 21 [((fun q : List GValue => AV.lst (q.flatMap GValue.cs) q.length) row0), (AV.int down1)] (.tup [(AV.bytes r.1), (AV.int r.2)]) := ACp_pub (g_code_Encode_ac2 H) (fun _ _ hm => lent_tup ⟨lent_own hm rfl (bl r.1) (by decide), .same _, trivial⟩)

/-! chirographref.badReal -/
noncomputable def g_ref_badReal (b0 : UInt64) : Option (Bool) :=
  some (decide ((b0 = (9223372036854775808 : UInt64)) ∨ ((18437736874454810624 : UInt64) < shl_u64 b0 1)))
set_option maxHeartbeats 4000000 in
set_option maxRecDepth 100000 in
theorem g_ref_badReal_ac {b0 : UInt64} {r : Bool} (H : g_ref_badReal b0 = some r) : ACp Tryd.prog 41 [(AV.u64 b0)] (AV.bool r) := by
 refine ACp_of (AC2_of_body (vs := [.b r]) Tryd.func41 Y Y (Nat.le_of_ble_eq_true Y) Y ?_) (fun _ => .same _)
 unfold g_ref_badReal at H
 refine as2 [(0, .p (AV.u64 b0))] [] Y Y Y ?_
 refine sg [0] Y ?_
 refine rp Y Y (p_asg Y Y) ?_
 refine rz [(0, .p (AV.u64 b0))] [] Y Y Y ?_
 refine AW2_seq ?_
 refine AW2_mid (⟨[(2, .b (decide ((b0 = (9223372036854775808 : UInt64)) ∨ ((18437736874454810624 : UInt64) < shl_u64 b0 1))))], [], 10⟩ : TS) ?_ ?_
 ·refine AW2_reg [0, 1, 2, 3, 4, 5, 6, 7] Y ?_
  refine rp Y Y (p_move Y Y) ?_
  refine rp Y Y (p_u64eq (a := b0) (b := (9223372036854775808 : UInt64)) Y Y Y) ?_
  refine rp Y Y (p_move Y Y) ?_
  refine (Classical.em (b0 = (9223372036854775808 : UInt64))).elim (fun h1 => ?_) (fun h1 => ?_)
  ·refine r_off Y Y Y Y (dT h1) Y Y ?_
   refine r_off Y Y Y Y (dT h1) Y Y ?_
   refine r_off Y Y Y Y (dT h1) Y Y ?_
   refine rp Y Y (p_pkt Y Y (dT h1) (tb (dT (p := (b0 = (9223372036854775808 : UInt64)) ∨ ((18437736874454810624 : UInt64) < shl_u64 b0 1)) (Or.inl h1)).symm)) ?_
   refine rp Y Y (p_asg Y Y) ?_
   refine rs [(2, .b (decide ((b0 = (9223372036854775808 : UInt64)) ∨ ((18437736874454810624 : UInt64) < shl_u64 b0 1))))] [] Y Y Y ?_
   exact RunW_nil rfl
  ·refine r_on Y Y Y Y (dF h1) Y (PureD.opD (p_move Y Y)) ?_
   refine r_on Y Y Y Y (dF h1) Y (PureD.opD (p_u64shl (n := 1) Y Y Y Y)) ?_
   refine r_on Y Y Y Y (dF h1) Y (PureD.opD (p_u64gt (a := shl_u64 b0 1) (b := (18437736874454810624 : UInt64)) Y Y Y)) ?_
   refine rp Y Y (p_pkf Y Y (dF h1) (tb ((or_l (p := b0 = (9223372036854775808 : UInt64)) (q := (18437736874454810624 : UInt64) < shl_u64 b0 1) h1)))) ?_
   refine rp Y Y (p_asg Y Y) ?_
   refine rs [(2, .b (decide ((b0 = (9223372036854775808 : UInt64)) ∨ ((18437736874454810624 : UInt64) < shl_u64 b0 1))))] [] Y Y Y ?_
   exact RunW_nil rfl
 ·refine AW2_ret ?_
  have hz := some_elim H
  subst hz
  exact ⟨⟨res_tmp (.same _), trivial⟩, trivial⟩

/-! chirographref.ValueFault -/
noncomputable def g_ref_ValueFault (v0 : GValue) : Option (Int) :=
  (show Option (Int ⊕ GValue) from (if v0.Kind = (0 : Int) then some (.inr ({ GValue.zero with Kind := v0.Kind })) else ((if v0.Kind = (1 : Int) then some (decide (v0.Kind = (1 : Int))) else some (decide (v0.Kind = (2 : Int))))).bind fun j'2 => (if j'2 = true then some (.inr ({ { GValue.zero with Kind := v0.Kind } with Int_ := v0.Int_ })) else (if v0.Kind = (3 : Int) then some (.inr ({ { GValue.zero with Kind := v0.Kind } with Bits := v0.Bits })) else (if v0.Kind = (4 : Int) then some (.inr ({ { GValue.zero with Kind := v0.Kind } with Text := v0.Text })) else some (.inl (2 : Int))))))).bind fun o'12 => match o'12 with | .inl y'3 => some y'3 | .inr j'1 => (if (v0.Text.length : Int) > (40 : Int) then some (1 : Int) else ((if v0 ≠ j'1 then some true else (if v0.Kind = (1 : Int) then (if (1 : UInt64) < UInt64.ofInt v0.Int_ then some true else (if v0.Kind = (3 : Int) then (g_ref_badReal v0.Bits).bind fun r'5 => (if r'5 = true then some true else (g_utf8_ValidString v0.Text).bind fun r'6 => some (!r'6)) else (g_utf8_ValidString v0.Text).bind fun r'7 => some (!r'7))) else (if v0.Kind = (3 : Int) then (g_ref_badReal v0.Bits).bind fun r'8 => (if r'8 = true then some true else (g_utf8_ValidString v0.Text).bind fun r'9 => some (!r'9)) else (g_utf8_ValidString v0.Text).bind fun r'10 => some (!r'10))))).bind fun g'11 => (if g'11 = true then some (3 : Int) else some (0 : Int)))
set_option maxHeartbeats 4000000 in
set_option maxRecDepth 100000 in
theorem g_ref_ValueFault_ac {v0 : GValue} {r : Int} (H : g_ref_ValueFault v0 = some r) : ACp Tryd.prog 15 [(.agg (GValue.cs v0))] (AV.int r) := by
 refine ACp_of (AC2_of_body (vs := [.i r]) Tryd.func15 Y Y (Nat.le_of_ble_eq_true Y) Y ?_) (fun _ => .same _)
 unfold g_ref_ValueFault at H
 refine as2 [(0, .g (GValue.cs v0))] [] Y Y Y ?_
 refine sg [0, 1] Y ?_
 refine r_op Y Y (MakeD.opD (n_box 1 Y Y) Y Y Y Y) ?_
 refine rp Y Y (p_asg Y Y) ?_
 refine rz [(1, .q 1 (0))] [(1, .pure (GValue.cs v0))] Y Y Y ?_
 refine sg [0, 1, 2, 3, 4] Y ?_
 refine rp Y Y (u_fa Y Y Tryd.underlying24 Y in_3 nz Y Y (nl (GValue.len v0))) ?_
 refine rp Y Y (u_ld Y Y Tryd.underlying3 Y Y ((Sub.refl _).trans (GValue.sub0 v0))) ?_
 refine rp Y Y (u_bld Y in_24 one_24 zc_24 pl_24 Y (af_cons Y Y (GValue.upd0 GValue.zero v0.Kind) Y)) ?_
 refine r_op Y Y (MakeD.opD (u_alloc 3 Y in_24 one_24 zc_24) Y Y Y Y) ?_
 refine r_op Y Y (u_st Y Y Y Y Y in_24 (GValue.len ((GValue.w0 GValue.zero v0.Kind))) (nl (GValue.len GValue.zero)) (Upd.refl ((GValue.len ((GValue.w0 GValue.zero v0.Kind))).trans (GValue.len GValue.zero).symm))) ?_
 refine rz [(1, .q 1 (0)), (3, .q 3 (0))] [(1, .pure (GValue.cs v0)), (3, .pure (GValue.cs ((GValue.w0 GValue.zero v0.Kind))))] Y Y Y ?_
 refine AW2_seq ?_
 refine bindK H fun o'12 h1 H => ?_
 refine AW2_join (fun j'1 : GValue => (⟨[(1, .q 1 (0)), (3, .q 3 (0))], [(1, .pure (GValue.cs v0)), (3, .pure (GValue.cs j'1))], 61⟩ : TS)) (fun r e s' => e = Go.Exit.ret ∧ ResAll Tryd.prog s' [ResultVar.tmp 2] [.i r] ∧ HFits s' []) (x := o'12) ?_ (fun j'1 hy => ?_) (fun y'3 e s' hy hs => ?_)
 ·clear H
  have H := h1
  clear h1
  refine sg [0, 1] Y ?_
  refine rp Y Y (u_fa Y Y Tryd.underlying24 Y in_3 nz Y Y (nl (GValue.len v0))) ?_
  refine rp Y Y (u_ld Y Y Tryd.underlying3 Y Y ((Sub.refl _).trans (GValue.sub0 v0))) ?_
  refine rz [(1, .q 1 (0)), (3, .q 3 (0)), (8, .i v0.Kind)] [(1, .pure (GValue.cs v0)), (3, .pure (GValue.cs ((GValue.w0 GValue.zero v0.Kind))))] Y Y Y ?_
  refine AW2_block ?_
  refine sg [0, 1] Y ?_
  refine rp Y Y (p_ieq Y Y Y) ?_
  refine rp Y Y (p_asg Y Y) ?_
  refine rz [(1, .q 1 (0)), (3, .q 3 (0)), (8, .i v0.Kind), (9, .b (decide (v0.Kind = (0 : Int))))] [(1, .pure (GValue.cs v0)), (3, .pure (GValue.cs ((GValue.w0 GValue.zero v0.Kind))))] Y Y Y ?_
  refine AW2_if (p := v0.Kind = (0 : Int)) Y (fun h2 => ?_) (fun h2 => ?_)
  ·replace H := ite_then h2 H
   refine as2 [(1, .q 1 (0)), (3, .q 3 (0))] [(1, .pure (GValue.cs v0)), (3, .pure (GValue.cs ((GValue.w0 GValue.zero v0.Kind))))] Y Y Y ?_
   refine AW2_skip ?_
   have hz := some_elim H
   subst hz
   exact ⟨Y, Y⟩
  ·replace H := ite_else h2 H
   refine AW2_seq ?_
   refine bindK H fun j'2 h3 H => ?_
   refine AW2_mid (⟨[(1, .q 1 (0)), (3, .q 3 (0)), (8, .i v0.Kind), (11, .b j'2)], [(1, .pure (GValue.cs v0)), (3, .pure (GValue.cs ((GValue.w0 GValue.zero v0.Kind))))], 61⟩ : TS) ?_ ?_
   ·clear H
    have H := h3
    clear h3
    refine sg [0, 1] Y ?_
    refine rp Y Y (p_ieq Y Y Y) ?_
    refine rp Y Y (p_asg Y Y) ?_
    refine rz [(1, .q 1 (0)), (3, .q 3 (0)), (8, .i v0.Kind), (11, .b (decide (v0.Kind = (1 : Int))))] [(1, .pure (GValue.cs v0)), (3, .pure (GValue.cs ((GValue.w0 GValue.zero v0.Kind))))] Y Y Y ?_
    refine AW2_if (p := v0.Kind = (1 : Int)) Y (fun h4 => ?_) (fun h4 => ?_)
    ·replace H := ite_then h4 H
     refine AW2_skip ?_
     have hz := some_elim H
     subst hz
     exact rfl
    ·replace H := ite_else h4 H
     refine AW2_reg [0, 1] Y ?_
     refine rp Y Y (p_ieq Y Y Y) ?_
     refine rp Y Y (p_asg Y Y) ?_
     refine rz [(1, .q 1 (0)), (3, .q 3 (0)), (8, .i v0.Kind), (11, .b (decide (v0.Kind = (2 : Int))))] [(1, .pure (GValue.cs v0)), (3, .pure (GValue.cs ((GValue.w0 GValue.zero v0.Kind))))] Y Y Y ?_
     have hz := some_elim H
     subst hz
     exact rfl
   ·refine AW2_cond Y (fun h5 => ?_) (fun h5 => ?_)
    ·replace H := ite_then h5 H
     refine AW2_reg [0, 1, 2, 3] Y ?_
     refine rp Y Y (u_fa Y Y Tryd.underlying24 Y in_3 nz Y Y (nl (GValue.len v0))) ?_
     refine rp Y Y (u_ld Y Y Tryd.underlying3 Y Y ((Sub.refl _).trans (GValue.sub1 v0))) ?_
     refine rp Y Y (u_fa Y Y Tryd.underlying24 Y in_3 nz Y Y (nl (GValue.len ((GValue.w0 GValue.zero v0.Kind))))) ?_
     refine r_op Y Y (u_st Y Y Y Y Y in_3 Y (nl (GValue.len ((GValue.w0 GValue.zero v0.Kind)))) (Upd.trans (Sub.refl _) (GValue.upd1 ((GValue.w0 GValue.zero v0.Kind)) v0.Int_) (Upd.refl ((GValue.len ((GValue.w1 (GValue.w0 GValue.zero v0.Kind) v0.Int_))).trans (GValue.len ((GValue.w0 GValue.zero v0.Kind))).symm)))) ?_
     refine rz [(1, .q 1 (0)), (3, .q 3 (0))] [(1, .pure (GValue.cs v0)), (3, .pure (GValue.cs ((GValue.w1 (GValue.w0 GValue.zero v0.Kind) v0.Int_))))] Y Y Y ?_
     have hz := some_elim H
     subst hz
     exact ⟨Y, Y⟩
    ·replace H := ite_else (ne_true h5) H
     refine sg [0, 1] Y ?_
     refine rp Y Y (p_ieq Y Y Y) ?_
     refine rp Y Y (p_asg Y Y) ?_
     refine rz [(1, .q 1 (0)), (3, .q 3 (0)), (8, .i v0.Kind), (17, .b (decide (v0.Kind = (3 : Int))))] [(1, .pure (GValue.cs v0)), (3, .pure (GValue.cs ((GValue.w0 GValue.zero v0.Kind))))] Y Y Y ?_
     refine AW2_if (p := v0.Kind = (3 : Int)) Y (fun h6 => ?_) (fun h6 => ?_)
     ·replace H := ite_then h6 H
      refine AW2_reg [0, 1, 2, 3] Y ?_
      refine rp Y Y (u_fa Y Y Tryd.underlying24 Y in_22 nz Y Y (nl (GValue.len v0))) ?_
      refine rp Y Y (u_ld Y Y Tryd.underlying22 Y Y ((Sub.refl _).trans (GValue.sub2 v0))) ?_
      refine rp Y Y (u_fa Y Y Tryd.underlying24 Y in_22 nz Y Y (nl (GValue.len ((GValue.w0 GValue.zero v0.Kind))))) ?_
      refine r_op Y Y (u_st Y Y Y Y Y in_22 Y (nl (GValue.len ((GValue.w0 GValue.zero v0.Kind)))) (Upd.trans (Sub.refl _) (GValue.upd2 ((GValue.w0 GValue.zero v0.Kind)) v0.Bits) (Upd.refl ((GValue.len ((GValue.w2 (GValue.w0 GValue.zero v0.Kind) v0.Bits))).trans (GValue.len ((GValue.w0 GValue.zero v0.Kind))).symm)))) ?_
      refine rz [(1, .q 1 (0)), (3, .q 3 (0))] [(1, .pure (GValue.cs v0)), (3, .pure (GValue.cs ((GValue.w2 (GValue.w0 GValue.zero v0.Kind) v0.Bits))))] Y Y Y ?_
      have hz := some_elim H
      subst hz
      exact ⟨Y, Y⟩
     ·replace H := ite_else h6 H
      refine sg [0, 1] Y ?_
      refine rp Y Y (p_ieq Y Y Y) ?_
      refine rp Y Y (p_asg Y Y) ?_
      refine rz [(1, .q 1 (0)), (3, .q 3 (0)), (22, .b (decide (v0.Kind = (4 : Int))))] [(1, .pure (GValue.cs v0)), (3, .pure (GValue.cs ((GValue.w0 GValue.zero v0.Kind))))] Y Y Y ?_
      refine AW2_if (p := v0.Kind = (4 : Int)) Y (fun h7 => ?_) (fun h7 => ?_)
      ·replace H := ite_then h7 H
       refine AW2_reg [0, 1, 2, 3] Y ?_
       refine rp Y Y (u_fa Y Y Tryd.underlying24 Y in_9 nz Y Y (nl (GValue.len v0))) ?_
       refine rp Y Y (u_ld Y Y Tryd.underlying9 Y Y ((Sub.refl _).trans (GValue.sub3 v0))) ?_
       refine rp Y Y (u_fa Y Y Tryd.underlying24 Y in_9 nz Y Y (nl (GValue.len ((GValue.w0 GValue.zero v0.Kind))))) ?_
       refine r_op Y Y (u_st Y Y Y Y Y in_9 Y (nl (GValue.len ((GValue.w0 GValue.zero v0.Kind)))) (Upd.trans (Sub.refl _) (GValue.upd3 ((GValue.w0 GValue.zero v0.Kind)) v0.Text) (Upd.refl ((GValue.len ((GValue.w3 (GValue.w0 GValue.zero v0.Kind) v0.Text))).trans (GValue.len ((GValue.w0 GValue.zero v0.Kind))).symm)))) ?_
       refine rz [(1, .q 1 (0)), (3, .q 3 (0))] [(1, .pure (GValue.cs v0)), (3, .pure (GValue.cs ((GValue.w3 (GValue.w0 GValue.zero v0.Kind) v0.Text))))] Y Y Y ?_
       have hz := some_elim H
       subst hz
       exact ⟨Y, Y⟩
      ·replace H := ite_else h7 H
       refine sg [0] Y ?_
       refine rp Y Y (p_asg Y Y) ?_
       refine rz [(2, .i (2 : Int))] [] Y Y Y ?_
       refine AW2_ret ?_
       have hz := some_elim H
       subst hz
       exact ⟨Y, ⟨res_tmp (.same _), trivial⟩, trivial⟩
 ·subst hy
  refine AW2_seq ?_
  refine sg [0, 1, 2, 3] Y ?_
  refine rp Y Y (u_fa Y Y Tryd.underlying24 Y in_9 nz Y Y (nl (GValue.len v0))) ?_
  refine rp Y Y (u_ld Y Y Tryd.underlying9 Y Y ((Sub.refl _).trans (GValue.sub3 v0))) ?_
  refine rp Y Y (p_lent Y Tryd.underlying9 Y) ?_
  refine rp Y Y (p_bin Y Y Y Y) ?_
  refine rz [(1, .q 1 (0)), (3, .q 3 (0)), (30, .b (decide ((v0.Text.length : Int) > (40 : Int))))] [(1, .pure (GValue.cs v0)), (3, .pure (GValue.cs j'1))] Y Y Y ?_
  refine AW2_if (p := (v0.Text.length : Int) > (40 : Int)) Y (fun h8 => ?_) (fun h8 => ?_)
  ·replace H := ite_then h8 H
   refine sg [0] Y ?_
   refine rp Y Y (p_asg Y Y) ?_
   refine rz [(2, .i (1 : Int))] [] Y Y Y ?_
   refine AW2_ret ?_
   have hz := some_elim H
   subst hz
   exact ⟨⟨res_tmp (.same _), trivial⟩, trivial⟩
  ·replace H := ite_else h8 H
   refine as2 [(1, .q 1 (0)), (3, .q 3 (0))] [(1, .pure (GValue.cs v0)), (3, .pure (GValue.cs j'1))] Y Y Y ?_
   refine AW2_skip ?_
   refine AW2_seq ?_
   refine AW2_seq ?_
   refine bindK H fun g'11 h23 H => ?_
   refine AW2_mid (⟨[(60, .b g'11)], [], 61⟩ : TS) ?_ ?_
   ·clear H
    have H := h23
    clear h23
    refine AW2_reg [0, 1, 2, 3, 4, 5, 6, 7, 8, 9, 10, 11, 12, 13, 14, 15, 16, 17, 18, 19, 20, 21, 22, 23, 24, 25, 26, 27, 28, 29] Y ?_
    refine rp Y Y (u_lda Y Y Tryd.underlying24 Y in_24 Y (Nat.succ_pos _) (Sub.refl _) (GValue.len v0)) ?_
    refine rp Y Y (u_lda Y Y Tryd.underlying24 Y in_24 Y (Nat.succ_pos _) (Sub.refl _) (GValue.len j'1)) ?_
    refine rp Y Y (p_nea (a := v0) (b := j'1) Y eq_24 Y (by kernel_rfl) Y Y) ?_
    refine rp Y Y (p_move Y Y) ?_
    refine (Classical.em (v0 ≠ j'1)).elim (fun h10 => ?_) (fun h10 => ?_)
    ·replace H := ite_then h10 H
     refine r_off Y Y Y Y (dT h10) Y Y ?_
     refine r_off Y Y Y Y (dT h10) Y Y ?_
     refine r_off Y Y Y Y (dT h10) Y Y ?_
     refine r_off Y Y Y Y (dT h10) Y Y ?_
     refine r_off2 Y Y Y Y Y Y ?_
     refine r_off2 Y Y Y Y Y Y ?_
     refine r_off2 Y Y Y Y Y Y ?_
     refine r_off2 Y Y Y Y Y Y ?_
     refine r_off Y Y Y Y (dT h10) Y Y ?_
     refine rp Y Y (p_pkt Y Y (dT h10) (.same _)) ?_
     refine rp Y Y (p_move Y Y) ?_
     refine r_off Y Y Y Y Y Y Y ?_
     refine r_off Y Y Y Y Y Y Y ?_
     refine r_off Y Y Y Y Y Y Y ?_
     refine r_off Y Y Y Y Y Y Y ?_
     refine r_off2 Y Y Y Y Y Y ?_
     refine r_off2 Y Y Y Y Y Y ?_
     refine r_off2 Y Y Y Y Y Y ?_
     refine r_off Y Y Y Y Y Y Y ?_
     refine rp Y Y (p_pkt Y Y Y (.same _)) ?_
     refine rp Y Y (p_move Y Y) ?_
     refine r_off Y Y Y Y Y Y Y ?_
     refine r_off Y Y Y Y Y Y Y ?_
     refine r_off Y Y Y Y Y Y Y ?_
     refine r_off Y Y Y Y Y Y Y ?_
     refine rp Y Y (p_pkt Y Y Y (.same _)) ?_
     refine rs [(60, .b true)] [] Y Y Y ?_
     have hz := some_elim H
     subst hz
     exact RunW_nil rfl
    ·replace H := ite_else h10 H
     refine r_on Y Y Y Y (dF h10) Y (PureD.opD (u_fa Y Y Tryd.underlying24 Y in_3 nz Y Y (nl (GValue.len v0)))) ?_
     refine r_on Y Y Y Y (dF h10) Y (PureD.opD (u_ld Y Y Tryd.underlying3 Y Y ((Sub.refl _).trans (GValue.sub0 v0)))) ?_
     refine r_on Y Y Y Y (dF h10) Y (PureD.opD (p_ieq Y Y Y)) ?_
     refine r_on Y Y Y Y (dF h10) Y (PureD.opD (p_move Y Y)) ?_
     refine (Classical.em (v0.Kind = (1 : Int))).elim (fun h11 => ?_) (fun h11 => ?_)
     ·replace H := ite_then h11 H
      refine r_on Y Y Y Y (dT h11) Y (PureD.opD (u_fa Y Y Tryd.underlying24 Y in_3 nz Y Y (nl (GValue.len v0)))) ?_
      refine r_on Y Y Y Y (dT h11) Y (PureD.opD (u_ld Y Y Tryd.underlying3 Y Y ((Sub.refl _).trans (GValue.sub1 v0)))) ?_
      refine r_on Y Y Y Y (dT h11) Y (PureD.opD (p_i_u64 Y Tryd.underlying3 Tryd.underlying64 Y)) ?_
      refine r_on Y Y Y Y (dT h11) Y (PureD.opD (p_u64gt (a := UInt64.ofInt v0.Int_) (b := (1 : UInt64)) Y Y Y)) ?_
      refine r_on Y Y Y Y (dF h10) Y (PureD.opD (p_pkt Y Y (dT h11) (.same _))) ?_
      refine rp Y Y (p_pkf Y Y (dF h10) (.same _)) ?_
      refine rp Y Y (p_move Y Y) ?_
      refine (Classical.em ((1 : UInt64) < UInt64.ofInt v0.Int_)).elim (fun h12 => ?_) (fun h12 => ?_)
      ·replace H := ite_then h12 H
       refine r_off Y Y Y Y (dT h12) Y Y ?_
       refine r_off Y Y Y Y (dT h12) Y Y ?_
       refine r_off Y Y Y Y (dT h12) Y Y ?_
       refine r_off Y Y Y Y (dT h12) Y Y ?_
       refine r_off2 Y Y Y Y Y Y ?_
       refine r_off2 Y Y Y Y Y Y ?_
       refine r_off2 Y Y Y Y Y Y ?_
       refine r_off Y Y Y Y (dT h12) Y Y ?_
       refine rp Y Y (p_pkt Y Y (dT h12) (.same _)) ?_
       refine rp Y Y (p_move Y Y) ?_
       refine r_off Y Y Y Y Y Y Y ?_
       refine r_off Y Y Y Y Y Y Y ?_
       refine r_off Y Y Y Y Y Y Y ?_
       refine r_off Y Y Y Y Y Y Y ?_
       refine rp Y Y (p_pkt Y Y Y (.same _)) ?_
       refine rs [(60, .b true)] [] Y Y Y ?_
       have hz := some_elim H
       subst hz
       exact RunW_nil rfl
      ·replace H := ite_else h12 H
       refine r_on Y Y Y Y (dF h12) Y (PureD.opD (u_fa Y Y Tryd.underlying24 Y in_3 nz Y Y (nl (GValue.len v0)))) ?_
       refine r_on Y Y Y Y (dF h12) Y (PureD.opD (u_ld Y Y Tryd.underlying3 Y Y ((Sub.refl _).trans (GValue.sub0 v0)))) ?_
       refine r_on Y Y Y Y (dF h12) Y (PureD.opD (p_ieq Y Y Y)) ?_
       refine r_on Y Y Y Y (dF h12) Y (PureD.opD (p_move Y Y)) ?_
       refine (Classical.em (v0.Kind = (3 : Int))).elim (fun h13 => ?_) (fun h13 => ?_)
       ·replace H := ite_then h13 H
        refine r_on Y Y Y Y (dT h13) Y (PureD.opD (u_fa Y Y Tryd.underlying24 Y in_22 nz Y Y (nl (GValue.len v0)))) ?_
        refine r_on Y Y Y Y (dT h13) Y (PureD.opD (u_ld Y Y Tryd.underlying22 Y Y ((Sub.refl _).trans (GValue.sub2 v0)))) ?_
        refine bindK H fun r'5 h14 H => ?_
        refine r_on Y Y Y Y (dT h13) Y (PureD.opD (p_callp Y Y Y Tryd.func41 Y Y (g_ref_badReal_ac h14) ⟨Y, trivial⟩)) ?_
        refine r_on Y Y Y Y (dF h12) Y (PureD.opD (p_pkt Y Y (dT h13) (.same _))) ?_
        refine rp Y Y (p_pkf Y Y (dF h12) (.same _)) ?_
        refine rp Y Y (p_move Y Y) ?_
        refine (Classical.em (r'5 = true)).elim (fun h15 => ?_) (fun h15 => ?_)
        ·replace H := ite_then h15 H
         refine r_off Y Y Y Y h15 Y Y ?_
         refine r_off Y Y Y Y h15 Y Y ?_
         refine r_off Y Y Y Y h15 Y Y ?_
         refine r_off Y Y Y Y h15 Y Y ?_
         refine rp Y Y (p_pkt Y Y h15 (.same _)) ?_
         refine rs [(60, .b true)] [] Y Y Y ?_
         have hz := some_elim H
         subst hz
         exact RunW_nil rfl
        ·replace H := ite_else h15 H
         refine r_on Y Y Y Y (bfalse h15) Y (PureD.opD (u_fa Y Y Tryd.underlying24 Y in_9 nz Y Y (nl (GValue.len v0)))) ?_
         refine r_on Y Y Y Y (bfalse h15) Y (PureD.opD (u_ld Y Y Tryd.underlying9 Y Y ((Sub.refl _).trans (GValue.sub3 v0)))) ?_
         refine bindK H fun r'6 h16 H => ?_
         refine r_on Y Y Y Y (bfalse h15) Y (PureD.opD (p_callp Y Y Y Tryd.func40 Y Y (g_utf8_ValidString_ac h16) ⟨Y, trivial⟩)) ?_
         refine r_on Y Y Y Y (bfalse h15) Y (PureD.opD (p_not Y Y)) ?_
         refine rp Y Y (p_pkf Y Y (bfalse h15) (.same _)) ?_
         refine rs [(60, .b (!r'6))] [] Y Y Y ?_
         have hz := some_elim H
         subst hz
         exact RunW_nil rfl
       ·replace H := ite_else h13 H
        refine r_off Y Y Y Y (dF h13) Y Y ?_
        refine r_off Y Y Y Y (dF h13) Y Y ?_
        refine r_off Y Y Y Y (dF h13) Y Y ?_
        refine r_on Y Y Y Y (dF h12) Y (PureD.opD (p_pkf Y Y (dF h13) (.same _))) ?_
        refine rp Y Y (p_pkf Y Y (dF h12) (.same _)) ?_
        refine rp Y Y (p_move Y Y) ?_
        refine r_on Y Y Y Y (bfalse (by decide)) Y (PureD.opD (u_fa Y Y Tryd.underlying24 Y in_9 nz Y Y (nl (GValue.len v0)))) ?_
        refine r_on Y Y Y Y (bfalse (by decide)) Y (PureD.opD (u_ld Y Y Tryd.underlying9 Y Y ((Sub.refl _).trans (GValue.sub3 v0)))) ?_
        refine bindK H fun r'7 h17 H => ?_
        refine r_on Y Y Y Y (bfalse (by decide)) Y (PureD.opD (p_callp Y Y Y Tryd.func40 Y Y (g_utf8_ValidString_ac h17) ⟨Y, trivial⟩)) ?_
        refine r_on Y Y Y Y (bfalse (by decide)) Y (PureD.opD (p_not Y Y)) ?_
        refine rp Y Y (p_pkf Y Y (bfalse (by decide)) (.same _)) ?_
        refine rs [(60, .b (!r'7))] [] Y Y Y ?_
        have hz := some_elim H
        subst hz
        exact RunW_nil rfl
     ·replace H := ite_else h11 H
      refine r_off Y Y Y Y (dF h11) Y Y ?_
      refine r_off Y Y Y Y (dF h11) Y Y ?_
      refine r_off Y Y Y Y (dF h11) Y Y ?_
      refine r_off Y Y Y Y (dF h11) Y Y ?_
      refine r_on Y Y Y Y (dF h10) Y (PureD.opD (p_pkf Y Y (dF h11) (.same _))) ?_
      refine rp Y Y (p_pkf Y Y (dF h10) (.same _)) ?_
      refine rp Y Y (p_move Y Y) ?_
      refine r_on Y Y Y Y (bfalse (by decide)) Y (PureD.opD (u_fa Y Y Tryd.underlying24 Y in_3 nz Y Y (nl (GValue.len v0)))) ?_
      refine r_on Y Y Y Y (bfalse (by decide)) Y (PureD.opD (u_ld Y Y Tryd.underlying3 Y Y ((Sub.refl _).trans (GValue.sub0 v0)))) ?_
      refine r_on Y Y Y Y (bfalse (by decide)) Y (PureD.opD (p_ieq Y Y Y)) ?_
      refine r_on Y Y Y Y (bfalse (by decide)) Y (PureD.opD (p_move Y Y)) ?_
      refine (Classical.em (v0.Kind = (3 : Int))).elim (fun h18 => ?_) (fun h18 => ?_)
      ·replace H := ite_then h18 H
       refine r_on Y Y Y Y (dT h18) Y (PureD.opD (u_fa Y Y Tryd.underlying24 Y in_22 nz Y Y (nl (GValue.len v0)))) ?_
       refine r_on Y Y Y Y (dT h18) Y (PureD.opD (u_ld Y Y Tryd.underlying22 Y Y ((Sub.refl _).trans (GValue.sub2 v0)))) ?_
       refine bindK H fun r'8 h19 H => ?_
       refine r_on Y Y Y Y (dT h18) Y (PureD.opD (p_callp Y Y Y Tryd.func41 Y Y (g_ref_badReal_ac h19) ⟨Y, trivial⟩)) ?_
       refine r_on Y Y Y Y (bfalse (by decide)) Y (PureD.opD (p_pkt Y Y (dT h18) (.same _))) ?_
       refine rp Y Y (p_pkf Y Y (bfalse (by decide)) (.same _)) ?_
       refine rp Y Y (p_move Y Y) ?_
       refine (Classical.em (r'8 = true)).elim (fun h20 => ?_) (fun h20 => ?_)
       ·replace H := ite_then h20 H
        refine r_off Y Y Y Y h20 Y Y ?_
        refine r_off Y Y Y Y h20 Y Y ?_
        refine r_off Y Y Y Y h20 Y Y ?_
        refine r_off Y Y Y Y h20 Y Y ?_
        refine rp Y Y (p_pkt Y Y h20 (.same _)) ?_
        refine rs [(60, .b true)] [] Y Y Y ?_
        have hz := some_elim H
        subst hz
        exact RunW_nil rfl
       ·replace H := ite_else h20 H
        refine r_on Y Y Y Y (bfalse h20) Y (PureD.opD (u_fa Y Y Tryd.underlying24 Y in_9 nz Y Y (nl (GValue.len v0)))) ?_
        refine r_on Y Y Y Y (bfalse h20) Y (PureD.opD (u_ld Y Y Tryd.underlying9 Y Y ((Sub.refl _).trans (GValue.sub3 v0)))) ?_
        refine bindK H fun r'9 h21 H => ?_
        refine r_on Y Y Y Y (bfalse h20) Y (PureD.opD (p_callp Y Y Y Tryd.func40 Y Y (g_utf8_ValidString_ac h21) ⟨Y, trivial⟩)) ?_
        refine r_on Y Y Y Y (bfalse h20) Y (PureD.opD (p_not Y Y)) ?_
        refine rp Y Y (p_pkf Y Y (bfalse h20) (.same _)) ?_
        refine rs [(60, .b (!r'9))] [] Y Y Y ?_
        have hz := some_elim H
        subst hz
        exact RunW_nil rfl
      ·replace H := ite_else h18 H
       refine r_off Y Y Y Y (dF h18) Y Y ?_
       refine r_off Y Y Y Y (dF h18) Y Y ?_
       refine r_off Y Y Y Y (dF h18) Y Y ?_
       refine r_on Y Y Y Y (bfalse (by decide)) Y (PureD.opD (p_pkf Y Y (dF h18) (.same _))) ?_
       refine rp Y Y (p_pkf Y Y (bfalse (by decide)) (.same _)) ?_
       refine rp Y Y (p_move Y Y) ?_
       refine r_on Y Y Y Y (bfalse (by decide)) Y (PureD.opD (u_fa Y Y Tryd.underlying24 Y in_9 nz Y Y (nl (GValue.len v0)))) ?_
       refine r_on Y Y Y Y (bfalse (by decide)) Y (PureD.opD (u_ld Y Y Tryd.underlying9 Y Y ((Sub.refl _).trans (GValue.sub3 v0)))) ?_
       refine bindK H fun r'10 h22 H => ?_
       refine r_on Y Y Y Y (bfalse (by decide)) Y (PureD.opD (p_callp Y Y Y Tryd.func40 Y Y (g_utf8_ValidString_ac h22) ⟨Y, trivial⟩)) ?_
       refine r_on Y Y Y Y (bfalse (by decide)) Y (PureD.opD (p_not Y Y)) ?_
       refine rp Y Y (p_pkf Y Y (bfalse (by decide)) (.same _)) ?_
       refine rs [(60, .b (!r'10))] [] Y Y Y ?_
       have hz := some_elim H
       subst hz
       exact RunW_nil rfl
   ·refine AW2_cond Y (fun h24 => ?_) (fun h24 => ?_)
    ·replace H := ite_then h24 H
     refine sg [0] Y ?_
     refine rp Y Y (p_asg Y Y) ?_
     refine rz [(2, .i (3 : Int))] [] Y Y Y ?_
     refine AW2_ret ?_
     have hz := some_elim H
     subst hz
     exact ⟨⟨res_tmp (.same _), trivial⟩, trivial⟩
    ·replace H := ite_else (ne_true h24) H
     refine as2 [] [] Y Y Y ?_
     refine AW2_skip ?_
     refine sg [0] Y ?_
     refine rp Y Y (p_asg Y Y) ?_
     refine rz [(2, .i (0 : Int))] [] Y Y Y ?_
     refine AW2_ret ?_
     have hz := some_elim H
     subst hz
     exact ⟨⟨res_tmp (.same _), trivial⟩, trivial⟩
 ·subst hy
  obtain ⟨rfl, hs⟩ := hs
  have hz := some_elim H
  subst hz
  exact ⟨hs.1, hs.2⟩

/-! chirographref.faults -/
noncomputable def g_ref_faults_l0 (l0 : List GValue) : Int → Option (Int ⊕ (Int ⊕ Unit))
  | t8_0 => (if t8_0 < (l0.length : Int) then if 0 ≤ t8_0 ∧ t8_0 < (l0.length : Int) then (g_ref_ValueFault (lrd l0 t8_0.toNat)).bind fun r'1 => (if r'1 ≠ (0 : Int) then some (.inr (.inl r'1)) else some (.inl (w64 (t8_0 + (1 : Int))))) else none else some (.inr (.inr ())))
noncomputable def g_ref_faults (l0 : List GValue) : Option (Int) :=
  (loopO (g_ref_faults_l0 l0) (0 : Int)).bind fun o'5 => match o'5 with | .inl y'6 => some y'6 | .inr (y'7) => some (0 : Int)
set_option maxHeartbeats 4000000 in
set_option maxRecDepth 100000 in
theorem g_ref_faults_ac {l0 : List GValue} {r : Int} (H : g_ref_faults l0 = some r) : ACp Tryd.prog 44 [((fun q : List GValue => AV.lst (q.flatMap GValue.cs) q.length) l0)] (AV.int r) := by
 refine ACp_of (AC2_of_body (vs := [.i r]) Tryd.func44 Y Y (Nat.le_of_ble_eq_true Y) Y ?_) (fun _ => .same _)
 unfold g_ref_faults at H
 refine as2 [(0, .p ((fun q : List GValue => AV.lst (q.flatMap GValue.cs) q.length) l0))] [] Y Y Y ?_
 refine sg [0] Y ?_
 refine rp Y Y (p_asg Y Y) ?_
 refine rz [(0, .p ((fun q : List GValue => AV.lst (q.flatMap GValue.cs) q.length) l0))] [] Y Y Y ?_
 refine AW2_seq ?_
 refine sg [0, 1, 2] Y ?_
 refine rp Y Y (p_move Y Y) ?_
 refine rp Y Y (p_lenl Y Tryd.underlying32 Y Y) ?_
 refine rp Y Y (p_move Y Y) ?_
 refine rz [(6, .p ((fun q : List GValue => AV.lst (q.flatMap GValue.cs) q.length) l0)), (7, .i (l0.length : Int)), (8, .i (0 : Int))] [] Y Y Y ?_
 refine AW2_block ?_
 refine as2 [(6, .p ((fun q : List GValue => AV.lst (q.flatMap GValue.cs) q.length) l0)), (7, .i (l0.length : Int)), (8, .i (0 : Int))] [] Y Y Y ?_
 refine bindK H fun o'5 h5 H => ?_
 refine AW2_loopO (fun a'2 : Int => (⟨[(6, .p ((fun q : List GValue => AV.lst (q.flatMap GValue.cs) q.length) l0)), (7, .i (l0.length : Int)), (8, .i a'2)], [], 18⟩ : TS)) (fun (o : Int ⊕ Unit) e s' => match o with | .inl y'3 => e = Go.Exit.ret ∧ ResAll Tryd.prog s' [ResultVar.tmp 2] [.i y'3] ∧ HFits s' [] | .inr (y'4) => e = Go.Exit.exit 0 ∧ s' = (⟨[], [], 18⟩ : TS)) h5 Y (fun t8_0 x hx => ?_) (fun e s' hs => ?_)
 ·clear H
  have H := hx
  clear hx
  unfold g_ref_faults_l0 at H
  refine sg [0] Y ?_
  refine rp Y Y (p_bin Y Y Y Y) ?_
  refine rz [(6, .p ((fun q : List GValue => AV.lst (q.flatMap GValue.cs) q.length) l0)), (7, .i (l0.length : Int)), (8, .i t8_0), (9, .b (decide (t8_0 < (l0.length : Int))))] [] Y Y Y ?_
  refine AW2_seq ?_
  refine AW2_if (p := t8_0 < (l0.length : Int)) Y (fun h1 => ?_) (fun h1 => ?_)
  ·replace H := ite_then h1 H
   refine as2 [(6, .p ((fun q : List GValue => AV.lst (q.flatMap GValue.cs) q.length) l0)), (7, .i (l0.length : Int)), (8, .i t8_0)] [] Y Y Y ?_
   refine AW2_skip ?_
   refine AW2_seq ?_
   refine AW2_block ?_
   refine sg [0, 1, 2, 3] Y ?_
   refine chkK H fun h2 H => ?_
   refine rp Y Y (u_ixl Y Y Tryd.underlying32 in_24 Y Y (ixe h2) (ixn h2) (fne (fun x => (GValue.len x)) (by decide) (ixn h2))) ?_
   refine rp Y Y (u_lda Y Y Tryd.underlying24 Y in_24 Y (Nat.succ_pos _) (Sub.fm default (fun x => (GValue.len x)) (ixn h2)) (GValue.len (lrd l0 t8_0.toNat))) ?_
   refine r_op Y Y (MakeD.opD (u_alloc 4 Y in_24 one_24 zc_24) Y Y Y Y) ?_
   refine r_op Y Y (u_st Y Y Y Y Y in_24 (GValue.len (lrd l0 t8_0.toNat)) (nl (GValue.len GValue.zero)) (Upd.refl ((GValue.len (lrd l0 t8_0.toNat)).trans (GValue.len GValue.zero).symm))) ?_
   refine rz [(4, .q 4 (0)), (6, .p ((fun q : List GValue => AV.lst (q.flatMap GValue.cs) q.length) l0)), (7, .i (l0.length : Int)), (8, .i t8_0)] [(4, .pure (GValue.cs (lrd l0 t8_0.toNat)))] Y Y Y ?_
   refine sg [0, 1, 2] Y ?_
   refine rp Y Y (u_lda Y Y Tryd.underlying24 Y in_24 Y (Nat.succ_pos _) (Sub.refl _) (GValue.len (lrd l0 t8_0.toNat))) ?_
   refine bindK H fun r'1 h3 H => ?_
   refine rp Y Y (p_callp Y Y Y Tryd.func15 Y Y (g_ref_ValueFault_ac h3) ⟨Y, trivial⟩) ?_
   refine rp Y Y (p_asg Y Y) ?_
   refine rz [(5, .i r'1), (6, .p ((fun q : List GValue => AV.lst (q.flatMap GValue.cs) q.length) l0)), (7, .i (l0.length : Int)), (8, .i t8_0)] [] Y Y Y ?_
   refine sg [0, 1] Y ?_
   refine rp Y Y (p_move Y Y) ?_
   refine rp Y Y (p_ine Y Y Y) ?_
   refine rz [(5, .i r'1), (6, .p ((fun q : List GValue => AV.lst (q.flatMap GValue.cs) q.length) l0)), (7, .i (l0.length : Int)), (8, .i t8_0), (15, .b (decide (r'1 ≠ (0 : Int))))] [] Y Y Y ?_
   refine AW2_if (p := r'1 ≠ (0 : Int)) Y (fun h4 => ?_) (fun h4 => ?_)
   ·replace H := ite_then h4 H
    refine sg [0, 1] Y ?_
    refine rp Y Y (p_move Y Y) ?_
    refine rp Y Y (p_asg Y Y) ?_
    refine rz [(2, .i r'1)] [] Y Y Y ?_
    refine AW2_ret ?_
    have hz := some_elim H
    subst hz
    exact ⟨Y, ⟨res_tmp (.same _), trivial⟩, trivial⟩
   ·replace H := ite_else h4 H
    refine as2 [(6, .p ((fun q : List GValue => AV.lst (q.flatMap GValue.cs) q.length) l0)), (7, .i (l0.length : Int)), (8, .i t8_0)] [] Y Y Y ?_
    refine AW2_skip ?_
    refine AW2_reg [0, 1] Y ?_
    refine rp Y Y (p_bin Y Y Y Y) ?_
    refine rp Y Y (p_move Y Y) ?_
    refine rz [(6, .p ((fun q : List GValue => AV.lst (q.flatMap GValue.cs) q.length) l0)), (7, .i (l0.length : Int)), (8, .i (w64 (t8_0 + (1 : Int))))] [] Y Y Y ?_
    have hz := some_elim H
    subst hz
    exact ⟨Y, Y⟩
  ·replace H := ite_else h1 H
   refine as2 [] [] Y Y Y ?_
   refine AW2_exit ?_
   refine thenQ2_exit ?_
   have hz := some_elim H
   subst hz
   exact ⟨Y, Y⟩
 ·rcases o'5 with y'6 | y'7
  ·obtain ⟨rfl, hs⟩ := hs
   refine ⟨by simp, ?_⟩
   have hz := some_elim H
   subst hz
   exact ⟨hs.1, hs.2⟩
  ·obtain ⟨rfl, rfl⟩ := hs
   refine ⟨by simp, ?_⟩
   refine blockQ2_exit ?_
   refine sg [0] Y ?_
   refine rp Y Y (p_asg Y Y) ?_
   refine rz [(2, .i (0 : Int))] [] Y Y Y ?_
   refine AW2_ret ?_
   have hz := some_elim H
   subst hz
   exact ⟨⟨res_tmp (.same _), trivial⟩, trivial⟩

/-! chirographref.big -/
noncomputable def g_ref_big_l0 (size1 : Int) : UInt64 × (List UInt8) × Int → Option ((UInt64 × (List UInt8) × Int) ⊕ (((List UInt8))))
  | (n0_0, s5_0, t7_0) => (if t7_0 < size1 then if ([n0_0.toUInt8] : List UInt8).length + s5_0.length ≤ 9223372036854775807 then some (.inl (shr_u64 n0_0 8, ([n0_0.toUInt8] : List UInt8) ++ s5_0, w64 (t7_0 + (1 : Int)))) else none else some (.inr s5_0))
noncomputable def g_ref_big (n0 : UInt64) (size1 : Int) : Option ((List UInt8)) :=
  (loopO (g_ref_big_l0 size1) (n0, [], (0 : Int))).bind fun y'4 => some y'4
set_option maxHeartbeats 4000000 in
set_option maxRecDepth 100000 in
theorem g_ref_big_ac {n0 : UInt64} {size1 : Int} {r : (List UInt8)} (H : g_ref_big n0 size1 = some r) : ACp Tryd.prog 56 [(AV.u64 n0), (AV.int size1)] (AV.txt r) := by
 refine ACp_of (AC2_of_body (vs := [.t r]) Tryd.func56 Y Y (Nat.le_of_ble_eq_true Y) Y ?_) (fun _ => .same _)
 unfold g_ref_big at H
 refine as2 [(0, .p (AV.u64 n0)), (1, .i size1)] [] Y Y Y ?_
 refine sg [0] Y ?_
 refine rp Y Y (p_asg Y Y) ?_
 refine rz [(0, .p (AV.u64 n0)), (1, .i size1)] [] Y Y Y ?_
 refine sg [0] Y ?_
 refine rp Y Y (p_asg Y Y) ?_
 refine rz [(0, .p (AV.u64 n0)), (1, .i size1), (5, .t [])] [] Y Y Y ?_
 refine AW2_seq ?_
 refine sg [0, 1] Y ?_
 refine rp Y Y (p_move Y Y) ?_
 refine rp Y Y (p_move Y Y) ?_
 refine rz [(0, .p (AV.u64 n0)), (5, .t []), (6, .i size1), (7, .i (0 : Int))] [] Y Y Y ?_
 refine AW2_block ?_
 refine as2 [(0, .p (AV.u64 n0)), (5, .t []), (6, .i size1), (7, .i (0 : Int))] [] Y Y Y ?_
 refine bindK H fun y'4 h3 H => ?_
 refine AW2_loopO (fun a'1 : UInt64 × (List UInt8) × Int => (⟨[(0, .p (AV.u64 a'1.1)), (5, .t a'1.2.1), (6, .i size1), (7, .i a'1.2.2)], [], 19⟩ : TS)) (fun (y'2 : ((List UInt8))) e s' => e = Go.Exit.exit 0 ∧ s' = (⟨[(5, .t y'2)], [], 19⟩ : TS)) h3 Y (fun a x hx => ?_) (fun e s' hs => ?_)
 ·clear H
  obtain ⟨n0_0, s5_0, t7_0⟩ := a
  have H := hx
  clear hx
  unfold g_ref_big_l0 at H
  refine sg [0] Y ?_
  refine rp Y Y (p_bin Y Y Y Y) ?_
  refine rz [(0, .p (AV.u64 n0_0)), (5, .t s5_0), (6, .i size1), (7, .i t7_0), (8, .b (decide (t7_0 < size1)))] [] Y Y Y ?_
  refine AW2_seq ?_
  refine AW2_if (p := t7_0 < size1) Y (fun h1 => ?_) (fun h1 => ?_)
  ·replace H := ite_then h1 H
   refine as2 [(0, .p (AV.u64 n0_0)), (5, .t s5_0), (6, .i size1), (7, .i t7_0)] [] Y Y Y ?_
   refine AW2_skip ?_
   refine AW2_seq ?_
   refine AW2_block ?_
   refine sg [0, 1, 2, 3, 4, 5, 6] Y ?_
   refine rp Y Y (p_move Y Y) ?_
   refine rp Y Y (p_u64_u8 (a := n0_0) Y Tryd.underlying22 Tryd.underlying5 Y) ?_
   refine r_op Y Y (MakeD.opD (u_bs 11 Y Tryd.underlying33 in_5 Y one_5 (by decide) (by decide) Y Y Y) Y Y Y Y) ?_
   refine rp Y Y (p_cbo (bs := ([n0_0.toUInt8] : List UInt8)) Y Y Tryd.underlying33 Tryd.underlying5 Tryd.underlying9 Y Y) ?_
   refine rp Y Y (p_move Y Y) ?_
   refine chkK H fun h2 H => ?_
   refine rp Y Y (p_cat Y Y Y h2) ?_
   refine rp Y Y (p_asg Y Y) ?_
   refine rz [(0, .p (AV.u64 n0_0)), (5, .t (([n0_0.toUInt8] : List UInt8) ++ s5_0)), (6, .i size1), (7, .i t7_0)] [] Y Y Y ?_
   refine AW2_reg [0, 1, 2] Y ?_
   refine rp Y Y (p_move Y Y) ?_
   refine rp Y Y (p_u64shr (n := 8) Y Y Y Y) ?_
   refine rp Y Y (p_asg Y Y) ?_
   refine rz [(0, .p (AV.u64 (shr_u64 n0_0 8))), (5, .t (([n0_0.toUInt8] : List UInt8) ++ s5_0)), (6, .i size1), (7, .i t7_0)] [] Y Y Y ?_
   refine AW2_reg [0, 1] Y ?_
   refine rp Y Y (p_bin Y Y Y Y) ?_
   refine rp Y Y (p_move Y Y) ?_
   refine rz [(0, .p (AV.u64 (shr_u64 n0_0 8))), (5, .t (([n0_0.toUInt8] : List UInt8) ++ s5_0)), (6, .i size1), (7, .i (w64 (t7_0 + (1 : Int))))] [] Y Y Y ?_
   have hz := some_elim H
   subst hz
   exact ⟨Y, Y⟩
  ·replace H := ite_else h1 H
   refine as2 [(5, .t s5_0)] [] Y Y Y ?_
   refine AW2_exit ?_
   refine thenQ2_exit ?_
   have hz := some_elim H
   subst hz
   exact ⟨Y, Y⟩
 ·obtain ⟨rfl, rfl⟩ := hs
  refine ⟨by simp, ?_⟩
  refine blockQ2_exit ?_
  refine sg [0, 1] Y ?_
  refine rp Y Y (p_move Y Y) ?_
  refine rp Y Y (p_asg Y Y) ?_
  refine rz [(4, .t y'4)] [] Y Y Y ?_
  refine AW2_ret ?_
  have hz := some_elim H
  subst hz
  exact ⟨⟨res_tmp (.same _), trivial⟩, trivial⟩

/-! chirographref.risen -/
noncomputable def g_ref_risen (b0 : UInt64) : Option (UInt64) :=
  (if b0 < (9223372036854775808 : UInt64) then some (b0 + (9223372036854775808 : UInt64)) else some (~~~ b0))
set_option maxHeartbeats 4000000 in
set_option maxRecDepth 100000 in
theorem g_ref_risen_ac {b0 : UInt64} {r : UInt64} (H : g_ref_risen b0 = some r) : ACp Tryd.prog 69 [(AV.u64 b0)] (AV.u64 r) := by
 refine ACp_of (AC2_of_body (vs := [.p (AV.u64 r)]) Tryd.func69 Y Y (Nat.le_of_ble_eq_true Y) Y ?_) (fun _ => .same _)
 unfold g_ref_risen at H
 refine as2 [(0, .p (AV.u64 b0))] [] Y Y Y ?_
 refine sg [0] Y ?_
 refine rp Y Y (p_asg Y Y) ?_
 refine rz [(0, .p (AV.u64 b0))] [] Y Y Y ?_
 refine AW2_seq ?_
 refine sg [0, 1] Y ?_
 refine rp Y Y (p_move Y Y) ?_
 refine rp Y Y (p_u64lt (a := b0) (b := (9223372036854775808 : UInt64)) Y Y Y) ?_
 refine rz [(0, .p (AV.u64 b0)), (4, .b (decide (b0 < (9223372036854775808 : UInt64))))] [] Y Y Y ?_
 refine AW2_if (p := b0 < (9223372036854775808 : UInt64)) Y (fun h1 => ?_) (fun h1 => ?_)
 ·replace H := ite_then h1 H
  refine sg [0, 1, 2] Y ?_
  refine rp Y Y (p_move Y Y) ?_
  refine rp Y Y (p_u64add (a := b0) (b := (9223372036854775808 : UInt64)) Y Y Y) ?_
  refine rp Y Y (p_asg Y Y) ?_
  refine rz [(2, .p (AV.u64 (b0 + (9223372036854775808 : UInt64))))] [] Y Y Y ?_
  refine AW2_ret ?_
  have hz := some_elim H
  subst hz
  exact ⟨⟨res_tmp (.same _), trivial⟩, trivial⟩
 ·replace H := ite_else h1 H
  refine as2 [(0, .p (AV.u64 b0))] [] Y Y Y ?_
  refine AW2_skip ?_
  refine sg [0, 1, 2] Y ?_
  refine rp Y Y (p_move Y Y) ?_
  refine rp Y Y (p_u64cpl Y Y) ?_
  refine rp Y Y (p_asg Y Y) ?_
  refine rz [(2, .p (AV.u64 (~~~ b0)))] [] Y Y Y ?_
  refine AW2_ret ?_
  have hz := some_elim H
  subst hz
  exact ⟨⟨res_tmp (.same _), trivial⟩, trivial⟩

/-! chirographref.valueBytes -/
noncomputable def g_ref_valueBytes (v0 : GValue) : Option ((List UInt8)) :=
  (if v0.Kind = (1 : Int) then if [2].length + ([UInt8.ofInt v0.Int_] : List UInt8).length ≤ 9223372036854775807 then some ([2] ++ ([UInt8.ofInt v0.Int_] : List UInt8)) else none else (if v0.Kind = (2 : Int) then (g_ref_big ((UInt64.ofInt v0.Int_) + (9223372036854775808 : UInt64)) (8 : Int)).bind fun r'1 => if [3].length + r'1.length ≤ 9223372036854775807 then some ([3] ++ r'1) else none else (if v0.Kind = (3 : Int) then (g_ref_risen v0.Bits).bind fun r'2 => (g_ref_big r'2 (8 : Int)).bind fun r'3 => if [4].length + r'3.length ≤ 9223372036854775807 then some ([4] ++ r'3) else none else (if v0.Kind = (4 : Int) then (g_strings_ReplaceAll v0.Text [0] [0, 255]).bind fun r'4 => if [5].length + r'4.length ≤ 9223372036854775807 then if ([5] ++ r'4).length + [0, 1].length ≤ 9223372036854775807 then some (([5] ++ r'4) ++ [0, 1]) else none else none else some [1]))))
set_option maxHeartbeats 4000000 in
set_option maxRecDepth 100000 in
theorem g_ref_valueBytes_ac {v0 : GValue} {r : (List UInt8)} (H : g_ref_valueBytes v0 = some r) : ACp Tryd.prog 50 [(.agg (GValue.cs v0))] (AV.txt r) := by
 refine ACp_of (AC2_of_body (vs := [.t r]) Tryd.func50 Y Y (Nat.le_of_ble_eq_true Y) Y ?_) (fun _ => .same _)
 unfold g_ref_valueBytes at H
 refine as2 [(0, .g (GValue.cs v0))] [] Y Y Y ?_
 refine sg [0, 1] Y ?_
 refine r_op Y Y (MakeD.opD (n_box 1 Y Y) Y Y Y Y) ?_
 refine rp Y Y (p_asg Y Y) ?_
 refine rz [(1, .q 1 (0))] [(1, .pure (GValue.cs v0))] Y Y Y ?_
 refine AW2_seq ?_
 refine sg [0, 1] Y ?_
 refine rp Y Y (u_fa Y Y Tryd.underlying24 Y in_3 nz Y Y (nl (GValue.len v0))) ?_
 refine rp Y Y (u_ld Y Y Tryd.underlying3 Y Y ((Sub.refl _).trans (GValue.sub0 v0))) ?_
 refine rz [(1, .q 1 (0)), (4, .i v0.Kind)] [(1, .pure (GValue.cs v0))] Y Y Y ?_
 refine AW2_block ?_
 refine sg [0, 1] Y ?_
 refine rp Y Y (p_ieq Y Y Y) ?_
 refine rp Y Y (p_asg Y Y) ?_
 refine rz [(1, .q 1 (0)), (4, .i v0.Kind), (5, .b (decide (v0.Kind = (1 : Int))))] [(1, .pure (GValue.cs v0))] Y Y Y ?_
 refine AW2_if (p := v0.Kind = (1 : Int)) Y (fun h1 => ?_) (fun h1 => ?_)
 ·replace H := ite_then h1 H
  refine sg [0, 1, 2, 3, 4, 5, 6] Y ?_
  refine rp Y Y (u_fa Y Y Tryd.underlying24 Y in_3 nz Y Y (nl (GValue.len v0))) ?_
  refine rp Y Y (u_ld Y Y Tryd.underlying3 Y Y ((Sub.refl _).trans (GValue.sub1 v0))) ?_
  refine rp Y Y (p_i_u8 Y Tryd.underlying3 Tryd.underlying5 Y) ?_
  refine r_op Y Y (MakeD.opD (u_bs 10 Y Tryd.underlying33 in_5 Y one_5 (by decide) (by decide) Y Y Y) Y Y Y Y) ?_
  refine rp Y Y (p_cbo (bs := ([UInt8.ofInt v0.Int_] : List UInt8)) Y Y Tryd.underlying33 Tryd.underlying5 Tryd.underlying9 Y Y) ?_
  refine chkK H fun h2 H => ?_
  refine rp Y Y (p_cat Y Y Y h2) ?_
  refine rp Y Y (p_asg Y Y) ?_
  refine rz [(2, .t ([2] ++ ([UInt8.ofInt v0.Int_] : List UInt8)))] [] Y Y Y ?_
  refine AW2_ret ?_
  have hz := some_elim H
  subst hz
  exact ⟨⟨res_tmp (.same _), trivial⟩, trivial⟩
 ·replace H := ite_else h1 H
  refine sg [0, 1] Y ?_
  refine rp Y Y (p_ieq Y Y Y) ?_
  refine rp Y Y (p_asg Y Y) ?_
  refine rz [(1, .q 1 (0)), (4, .i v0.Kind), (13, .b (decide (v0.Kind = (2 : Int))))] [(1, .pure (GValue.cs v0))] Y Y Y ?_
  refine AW2_if (p := v0.Kind = (2 : Int)) Y (fun h3 => ?_) (fun h3 => ?_)
  ·replace H := ite_then h3 H
   refine sg [0, 1, 2, 3, 4, 5, 6] Y ?_
   refine rp Y Y (u_fa Y Y Tryd.underlying24 Y in_3 nz Y Y (nl (GValue.len v0))) ?_
   refine rp Y Y (u_ld Y Y Tryd.underlying3 Y Y ((Sub.refl _).trans (GValue.sub1 v0))) ?_
   refine rp Y Y (p_i_u64 Y Tryd.underlying3 Tryd.underlying22 Y) ?_
   refine rp Y Y (p_u64add (a := UInt64.ofInt v0.Int_) (b := (9223372036854775808 : UInt64)) Y Y Y) ?_
   refine bindK H fun r'1 h4 H => ?_
   refine rp Y Y (p_callp Y Y Y Tryd.func56 Y Y (g_ref_big_ac h4) ⟨Y, Y, trivial⟩) ?_
   refine chkK H fun h5 H => ?_
   refine rp Y Y (p_cat Y Y Y h5) ?_
   refine rp Y Y (p_asg Y Y) ?_
   refine rz [(2, .t ([3] ++ r'1))] [] Y Y Y ?_
   refine AW2_ret ?_
   have hz := some_elim H
   subst hz
   exact ⟨⟨res_tmp (.same _), trivial⟩, trivial⟩
  ·replace H := ite_else h3 H
   refine sg [0, 1] Y ?_
   refine rp Y Y (p_ieq Y Y Y) ?_
   refine rp Y Y (p_asg Y Y) ?_
   refine rz [(1, .q 1 (0)), (4, .i v0.Kind), (21, .b (decide (v0.Kind = (3 : Int))))] [(1, .pure (GValue.cs v0))] Y Y Y ?_
   refine AW2_if (p := v0.Kind = (3 : Int)) Y (fun h6 => ?_) (fun h6 => ?_)
   ·replace H := ite_then h6 H
    refine sg [0, 1, 2, 3, 4, 5] Y ?_
    refine rp Y Y (u_fa Y Y Tryd.underlying24 Y in_22 nz Y Y (nl (GValue.len v0))) ?_
    refine rp Y Y (u_ld Y Y Tryd.underlying22 Y Y ((Sub.refl _).trans (GValue.sub2 v0))) ?_
    refine bindK H fun r'2 h7 H => ?_
    refine rp Y Y (p_callp Y Y Y Tryd.func69 Y Y (g_ref_risen_ac h7) ⟨Y, trivial⟩) ?_
    refine bindK H fun r'3 h8 H => ?_
    refine rp Y Y (p_callp Y Y Y Tryd.func56 Y Y (g_ref_big_ac h8) ⟨Y, Y, trivial⟩) ?_
    refine chkK H fun h9 H => ?_
    refine rp Y Y (p_cat Y Y Y h9) ?_
    refine rp Y Y (p_asg Y Y) ?_
    refine rz [(2, .t ([4] ++ r'3))] [] Y Y Y ?_
    refine AW2_ret ?_
    have hz := some_elim H
    subst hz
    exact ⟨⟨res_tmp (.same _), trivial⟩, trivial⟩
   ·replace H := ite_else h6 H
    refine sg [0, 1] Y ?_
    refine rp Y Y (p_ieq Y Y Y) ?_
    refine rp Y Y (p_asg Y Y) ?_
    refine rz [(1, .q 1 (0)), (28, .b (decide (v0.Kind = (4 : Int))))] [(1, .pure (GValue.cs v0))] Y Y Y ?_
    refine AW2_if (p := v0.Kind = (4 : Int)) Y (fun h10 => ?_) (fun h10 => ?_)
    ·replace H := ite_then h10 H
     refine sg [0, 1, 2, 3, 4, 5] Y ?_
     refine rp Y Y (u_fa Y Y Tryd.underlying24 Y in_9 nz Y Y (nl (GValue.len v0))) ?_
     refine rp Y Y (u_ld Y Y Tryd.underlying9 Y Y ((Sub.refl _).trans (GValue.sub3 v0))) ?_
     refine bindK H fun r'4 h11 H => ?_
     refine rp Y Y (p_callp Y Y Y Tryd.func73 Y Y (g_strings_ReplaceAll_ac h11) ⟨Y, Y, Y, trivial⟩) ?_
     refine chkK H fun h12 H => ?_
     refine rp Y Y (p_cat Y Y Y h12) ?_
     refine chkK H fun h13 H => ?_
     refine rp Y Y (p_cat Y Y Y h13) ?_
     refine rp Y Y (p_asg Y Y) ?_
     refine rz [(2, .t (([5] ++ r'4) ++ [0, 1]))] [] Y Y Y ?_
     refine AW2_ret ?_
     have hz := some_elim H
     subst hz
     exact ⟨⟨res_tmp (.same _), trivial⟩, trivial⟩
    ·replace H := ite_else h10 H
     refine as2 [] [] Y Y Y ?_
     refine AW2_skip ?_
     refine sg [0] Y ?_
     refine rp Y Y (p_asg Y Y) ?_
     refine rz [(2, .t [1])] [] Y Y Y ?_
     refine AW2_ret ?_
     have hz := some_elim H
     subst hz
     exact ⟨⟨res_tmp (.same _), trivial⟩, trivial⟩

/-! chirographref.downs -/
noncomputable def g_ref_downs (down0 : Int) (i1 : Int) : Option (Bool) :=
  if 0 ≤ i1 then some (decide (iand down0 (ishl (1 : Int) i1.toNat) ≠ (0 : Int))) else none
set_option maxHeartbeats 4000000 in
set_option maxRecDepth 100000 in
theorem g_ref_downs_ac {down0 : Int} {i1 : Int} {r : Bool} (H : g_ref_downs down0 i1 = some r) : ACp Tryd.prog 51 [(AV.int down0), (AV.int i1)] (AV.bool r) := by
 refine ACp_of (AC2_of_body (vs := [.b r]) Tryd.func51 Y Y (Nat.le_of_ble_eq_true Y) Y ?_) (fun _ => .same _)
 unfold g_ref_downs at H
 refine as2 [(0, .i down0), (1, .i i1)] [] Y Y Y ?_
 refine sg [0] Y ?_
 refine rp Y Y (p_asg Y Y) ?_
 refine rz [(0, .i down0), (1, .i i1)] [] Y Y Y ?_
 refine sg [0, 1, 2, 3, 4, 5] Y ?_
 refine rp Y Y (p_move Y Y) ?_
 refine rp Y Y (p_move Y Y) ?_
 refine chkK H fun h1 H => ?_
 refine rp Y Y (p_ishl (n := i1.toNat) Y Y Y (Int.toNat_of_nonneg h1).symm) ?_
 refine rp Y Y (p_bin Y Y Y Y) ?_
 refine rp Y Y (p_ine Y Y Y) ?_
 refine rp Y Y (p_asg Y Y) ?_
 refine rz [(4, .b (decide (iand down0 (ishl (1 : Int) i1.toNat) ≠ (0 : Int))))] [] Y Y Y ?_
 refine AW2_ret ?_
 have hz := some_elim H
 subst hz
 exact ⟨⟨res_tmp (.same _), trivial⟩, trivial⟩

/-! chirographref.flipped -/
noncomputable def g_ref_flipped_l0 (s0 : List UInt8) : Int × (List UInt8) → Option ((Int × (List UInt8)) ⊕ (((List UInt8))))
  | (t9_0, b3_0) => (if t9_0 < (s0.length : Int) then if 0 ≤ t9_0 ∧ t9_0 < (b3_0.length : Int) then if 0 ≤ t9_0 ∧ t9_0 < (b3_0.length : Int) then some (.inl (w64 (t9_0 + (1 : Int)), (b3_0.set t9_0.toNat ((255 : UInt8) - (lrd b3_0 t9_0.toNat))))) else none else none else some (.inr b3_0))
noncomputable def g_ref_flipped (s0 : List UInt8) : Option ((List UInt8)) :=
  (loopO (g_ref_flipped_l0 s0) ((0 : Int), s0)).bind fun y'4 => some y'4
set_option maxHeartbeats 4000000 in
set_option maxRecDepth 100000 in
theorem g_ref_flipped_ac {s0 : List UInt8} {r : (List UInt8)} (H : g_ref_flipped s0 = some r) : ACp Tryd.prog 52 [(AV.txt s0)] (AV.txt r) := by
 refine ACp_of (AC2_of_body (vs := [.t r]) Tryd.func52 Y Y (Nat.le_of_ble_eq_true Y) Y ?_) (fun _ => .same _)
 unfold g_ref_flipped at H
 refine as2 [(0, .t s0)] [] Y Y Y ?_
 refine sg [0] Y ?_
 refine rp Y Y (p_asg Y Y) ?_
 refine rz [(0, .t s0)] [] Y Y Y ?_
 refine sg [0, 1, 2] Y ?_
 refine rp Y Y (p_move Y Y) ?_
 refine r_op Y Y (MakeD.opD (n_sb 6 Y Tryd.underlying9 Tryd.underlying33 Tryd.underlying5 Y) Y Y Y Y) ?_
 refine rp Y Y (p_asg Y Y) ?_
 refine rs [(3, .c (.own 6 s0.length 1))] [(6, .pure (bcells s0))] Y Y Y ?_
 refine RunW_gho (Gho_ren 6 3 Y Y Y Y Y) ?_
 refine rz [(3, .c (.own 3 s0.length 1))] [(3, .pure (bcells s0))] Y Y Y ?_
 refine AW2_seq ?_
 refine sg [0, 1, 2] Y ?_
 refine rp Y Y (p_move Y Y) ?_
 refine rp Y Y (p_leno Y Tryd.underlying33 Y Y Y (bl s0) (by decide)) ?_
 refine rp Y Y (p_move Y Y) ?_
 refine rz [(3, .c (.own 3 s0.length 1)), (8, .i (s0.length : Int)), (9, .i (0 : Int))] [(3, .pure (bcells s0))] Y Y Y ?_
 refine AW2_block ?_
 refine as2 [(3, .c (.own 3 s0.length 1)), (8, .i (s0.length : Int)), (9, .i (0 : Int))] [(3, .pure (bcells s0))] Y Y Y ?_
 refine bindK H fun y'4 h4 H => ?_
 refine AW2_loopO (fun a'1 : Int × (List UInt8) => (⟨[(3, .c (.own 3 a'1.2.length 1)), (8, .i (s0.length : Int)), (9, .i a'1.1)], [(3, .pure (bcells a'1.2))], 23⟩ : TS)) (fun (y'2 : ((List UInt8))) e s' => e = Go.Exit.exit 0 ∧ s' = (⟨[(3, .c (.own 3 y'2.length 1))], [(3, .pure (bcells y'2))], 23⟩ : TS)) h4 Y (fun a x hx => ?_) (fun e s' hs => ?_)
 ·clear H
  obtain ⟨t9_0, b3_0⟩ := a
  have H := hx
  clear hx
  unfold g_ref_flipped_l0 at H
  refine sg [0] Y ?_
  refine rp Y Y (p_bin Y Y Y Y) ?_
  refine rz [(3, .c (.own 3 b3_0.length 1)), (8, .i (s0.length : Int)), (9, .i t9_0), (10, .b (decide (t9_0 < (s0.length : Int))))] [(3, .pure (bcells b3_0))] Y Y Y ?_
  refine AW2_seq ?_
  refine AW2_if (p := t9_0 < (s0.length : Int)) Y (fun h1 => ?_) (fun h1 => ?_)
  ·replace H := ite_then h1 H
   refine as2 [(3, .c (.own 3 b3_0.length 1)), (8, .i (s0.length : Int)), (9, .i t9_0)] [(3, .pure (bcells b3_0))] Y Y Y ?_
   refine AW2_skip ?_
   refine AW2_seq ?_
   refine AW2_block ?_
   refine sg [0, 1] Y ?_
   refine rp Y Y (p_move Y Y) ?_
   refine rp Y Y (p_asg Y Y) ?_
   refine rz [(3, .c (.own 3 b3_0.length 1)), (4, .i t9_0), (8, .i (s0.length : Int)), (9, .i t9_0)] [(3, .pure (bcells b3_0))] Y Y Y ?_
   refine AW2_reg [0, 1, 2, 3, 4, 5, 6, 7, 8] Y ?_
   refine rp Y Y (p_move Y Y) ?_
   refine rp Y Y (p_move Y Y) ?_
   refine rp Y Y (p_move Y Y) ?_
   refine rp Y Y (p_move Y Y) ?_
   refine chkK H fun h2 H => ?_
   refine rp Y Y (u_ixo Y Y Tryd.underlying33 in_5 Y Y (lne (ixn h2)) Y (ixe h2) (ixn h2)) ?_
   refine rp Y Y (u_ld Y Y Tryd.underlying5 Y Y ((Sub.refl _).trans (Sub.map default (ixn h2)))) ?_
   refine rp Y Y (p_u8sub (a := (255 : UInt8)) (b := (lrd b3_0 t9_0.toNat)) Y Y Y) ?_
   refine chkK H fun h3 H => ?_
   refine rp Y Y (u_ixo Y Y Tryd.underlying33 in_5 Y Y (lne (ixn h3)) Y (ixe h3) (ixn h3)) ?_
   refine r_op Y Y (u_st Y Y Y Y Y in_5 Y (lne (ixn h3)) (Upd.trans (Sub.refl _) (Upd.map (ixn h3)) (Upd.refl (by simp [bcells_length])))) ?_
   refine RunW_st [(3, .c (.own 3 (b3_0.set t9_0.toNat ((255 : UInt8) - (lrd b3_0 t9_0.toNat))).length 1)), (8, .i (s0.length : Int)), (9, .i t9_0)] [(3, .pure (bcells (b3_0.set t9_0.toNat ((255 : UInt8) - (lrd b3_0 t9_0.toNat)))))] Y ⟨TLes.own (by simp only [List.length_set]), TLes.same _, TLes.same _, trivial⟩ ⟨Y, trivial⟩ ?_
   refine RunW_nil ?_
   refine AW2_reg [0, 1] Y ?_
   refine rp Y Y (p_bin Y Y Y Y) ?_
   refine rp Y Y (p_move Y Y) ?_
   refine rz [(3, .c (.own 3 (b3_0.set t9_0.toNat ((255 : UInt8) - (lrd b3_0 t9_0.toNat))).length 1)), (8, .i (s0.length : Int)), (9, .i (w64 (t9_0 + (1 : Int))))] [(3, .pure (bcells (b3_0.set t9_0.toNat ((255 : UInt8) - (lrd b3_0 t9_0.toNat)))))] Y Y Y ?_
   have hz := some_elim H
   subst hz
   exact ⟨Y, Y⟩
  ·replace H := ite_else h1 H
   refine as2 [(3, .c (.own 3 b3_0.length 1))] [(3, .pure (bcells b3_0))] Y Y Y ?_
   refine AW2_exit ?_
   refine thenQ2_exit ?_
   have hz := some_elim H
   subst hz
   exact ⟨Y, Y⟩
 ·obtain ⟨rfl, rfl⟩ := hs
  refine ⟨by simp, ?_⟩
  refine blockQ2_exit ?_
  refine sg [0, 1, 2] Y ?_
  refine rp Y Y (p_move Y Y) ?_
  refine rp Y Y (p_cbo (bs := y'4) Y Y Tryd.underlying33 Tryd.underlying5 Tryd.underlying9 Y Y) ?_
  refine rp Y Y (p_asg Y Y) ?_
  refine rz [(2, .t y'4)] [] Y Y Y ?_
  refine AW2_ret ?_
  have hz := some_elim H
  subst hz
  exact ⟨⟨res_tmp (.same _), trivial⟩, trivial⟩

/-! chirographref.RowBytes -/
noncomputable def g_ref_RowBytes_l0 (row0 : List GValue) (down1 : Int) : (List UInt8) × Int → Option (((List UInt8) × Int) ⊕ (((List UInt8))))
  | (s7_0, t21_0) => (if t21_0 < (row0.length : Int) then if 0 ≤ t21_0 ∧ t21_0 < (row0.length : Int) then (g_ref_valueBytes (lrd row0 t21_0.toNat)).bind fun r'2 => ((g_ref_downs down1 t21_0).bind fun r'4 => (if r'4 = true then (g_ref_flipped r'2).bind fun r'5 => some r'5 else some r'2)).bind fun j'3 => if s7_0.length + j'3.length ≤ 9223372036854775807 then some (.inl (s7_0 ++ j'3, w64 (t21_0 + (1 : Int)))) else none else none else some (.inr s7_0))
noncomputable def g_ref_RowBytes (row0 : List GValue) (down1 : Int) : Option ((List UInt8) × Int) :=
  (if (row0.length : Int) > (5 : Int) then some (([] : List UInt8), (1 : Int)) else (g_ref_faults row0).bind fun r'1 => (if r'1 ≠ (0 : Int) then some (([] : List UInt8), r'1) else (loopO (g_ref_RowBytes_l0 row0 down1) ([], (0 : Int))).bind fun y'9 => some (y'9, (0 : Int))))
set_option maxHeartbeats 4000000 in
set_option maxRecDepth 100000 in
theorem g_ref_RowBytes_ac2 {row0 : List GValue} {down1 : Int} {r : (List UInt8) × Int} (H : g_ref_RowBytes row0 down1 = some r) : AC2 Tryd.prog 22 (pureT [((fun q : List GValue => AV.lst (q.flatMap GValue.cs) q.length) row0), (AV.int down1)]) [] (retV [.c (.own 4 r.1.length 1), .i r.2]) [(4, .pure (bcells r.1))] := by
 refine AC2_of_body (vs := [.c (.own 4 r.1.length 1), .i r.2]) Tryd.func22 Y Y (Nat.le_of_ble_eq_true Y) Y ?_
 unfold g_ref_RowBytes at H
 refine as2 [(0, .p ((fun q : List GValue => AV.lst (q.flatMap GValue.cs) q.length) row0)), (1, .i down1)] [] Y Y Y ?_
 refine sg [0, 1] Y ?_
 refine rp Y Y (p_asgn Y) ?_
 refine rp Y Y (p_asg Y Y) ?_
 refine rz [(0, .p ((fun q : List GValue => AV.lst (q.flatMap GValue.cs) q.length) row0)), (1, .i down1)] [] Y Y Y ?_
 refine AW2_seq ?_
 refine sg [0, 1, 2] Y ?_
 refine rp Y Y (p_move Y Y) ?_
 refine rp Y Y (p_lenl Y Tryd.underlying32 Y Y) ?_
 refine rp Y Y (p_bin Y Y Y Y) ?_
 refine rz [(0, .p ((fun q : List GValue => AV.lst (q.flatMap GValue.cs) q.length) row0)), (1, .i down1), (13, .b (decide ((row0.length : Int) > (5 : Int))))] [] Y Y Y ?_
 refine AW2_if (p := (row0.length : Int) > (5 : Int)) Y (fun h1 => ?_) (fun h1 => ?_)
 ·replace H := ite_then h1 H
  refine sg [0, 1] Y ?_
  refine rp Y Y (p_asgn Y) ?_
  refine rp Y Y (p_asg Y Y) ?_
  refine rz [(4, .p .nil), (5, .i (1 : Int))] [] Y Y Y ?_
  refine as2 [(4, .p .nil), (5, .i (1 : Int))] [] Y Y Y ?_
  refine AW2_gho (Gho_own (d := 4) (b := 4) (z := 1) Y Y Y Y) ?_
  refine AW2_st [(4, .c (.own 4 ([] : List UInt8).length 1)), (5, .i (1 : Int))] [(4, .pure (bcells ([] : List UInt8)))] Y ⟨TLes.own Y, TLes.same _, trivial⟩ ⟨Y, trivial⟩ ?_
  refine AW2_ret ?_
  have hz := some_elim H
  subst hz
  exact ⟨⟨res_tmp (.same _), res_tmp (.same _), trivial⟩, ⟨Y, trivial⟩⟩
 ·replace H := ite_else h1 H
  refine as2 [(0, .p ((fun q : List GValue => AV.lst (q.flatMap GValue.cs) q.length) row0)), (1, .i down1)] [] Y Y Y ?_
  refine AW2_skip ?_
  refine AW2_seq ?_
  refine sg [0, 1, 2] Y ?_
  refine rp Y Y (p_move Y Y) ?_
  refine bindK H fun r'1 h2 H => ?_
  refine rp Y Y (p_callp Y Y Y Tryd.func44 Y Y (g_ref_faults_ac h2) ⟨Y, trivial⟩) ?_
  refine rp Y Y (p_asg Y Y) ?_
  refine rz [(0, .p ((fun q : List GValue => AV.lst (q.flatMap GValue.cs) q.length) row0)), (1, .i down1), (6, .i r'1)] [] Y Y Y ?_
  refine sg [0, 1] Y ?_
  refine rp Y Y (p_move Y Y) ?_
  refine rp Y Y (p_ine Y Y Y) ?_
  refine rz [(0, .p ((fun q : List GValue => AV.lst (q.flatMap GValue.cs) q.length) row0)), (1, .i down1), (6, .i r'1), (17, .b (decide (r'1 ≠ (0 : Int))))] [] Y Y Y ?_
  refine AW2_if (p := r'1 ≠ (0 : Int)) Y (fun h3 => ?_) (fun h3 => ?_)
  ·replace H := ite_then h3 H
   refine sg [0, 1, 2] Y ?_
   refine rp Y Y (p_move Y Y) ?_
   refine rp Y Y (p_asgn Y) ?_
   refine rp Y Y (p_asg Y Y) ?_
   refine rz [(4, .p .nil), (5, .i r'1)] [] Y Y Y ?_
   refine as2 [(4, .p .nil), (5, .i r'1)] [] Y Y Y ?_
   refine AW2_gho (Gho_own (d := 4) (b := 4) (z := 1) Y Y Y Y) ?_
   refine AW2_st [(4, .c (.own 4 ([] : List UInt8).length 1)), (5, .i r'1)] [(4, .pure (bcells ([] : List UInt8)))] Y ⟨TLes.own Y, TLes.same _, trivial⟩ ⟨Y, trivial⟩ ?_
   refine AW2_ret ?_
   have hz := some_elim H
   subst hz
   exact ⟨⟨res_tmp (.same _), res_tmp (.same _), trivial⟩, ⟨Y, trivial⟩⟩
  ·replace H := ite_else h3 H
   refine as2 [(0, .p ((fun q : List GValue => AV.lst (q.flatMap GValue.cs) q.length) row0)), (1, .i down1)] [] Y Y Y ?_
   refine AW2_skip ?_
   refine sg [0] Y ?_
   refine rp Y Y (p_asg Y Y) ?_
   refine rz [(0, .p ((fun q : List GValue => AV.lst (q.flatMap GValue.cs) q.length) row0)), (1, .i down1), (7, .t [])] [] Y Y Y ?_
   refine AW2_seq ?_
   refine sg [0, 1, 2] Y ?_
   refine rp Y Y (p_move Y Y) ?_
   refine rp Y Y (p_lenl Y Tryd.underlying32 Y Y) ?_
   refine rp Y Y (p_move Y Y) ?_
   refine rz [(1, .i down1), (7, .t []), (19, .p ((fun q : List GValue => AV.lst (q.flatMap GValue.cs) q.length) row0)), (20, .i (row0.length : Int)), (21, .i (0 : Int))] [] Y Y Y ?_
   refine AW2_block ?_
   refine as2 [(1, .i down1), (7, .t []), (19, .p ((fun q : List GValue => AV.lst (q.flatMap GValue.cs) q.length) row0)), (20, .i (row0.length : Int)), (21, .i (0 : Int))] [] Y Y Y ?_
   refine bindK H fun y'9 h12 H => ?_
   refine AW2_loopO (fun a'6 : (List UInt8) × Int => (⟨[(1, .i down1), (7, .t a'6.1), (19, .p ((fun q : List GValue => AV.lst (q.flatMap GValue.cs) q.length) row0)), (20, .i (row0.length : Int)), (21, .i a'6.2)], [], 39⟩ : TS)) (fun (y'7 : ((List UInt8))) e s' => e = Go.Exit.exit 0 ∧ s' = (⟨[(7, .t y'7)], [], 39⟩ : TS)) h12 Y (fun a x hx => ?_) (fun e s' hs => ?_)
   ·clear H
    obtain ⟨s7_0, t21_0⟩ := a
    have H := hx
    clear hx
    unfold g_ref_RowBytes_l0 at H
    refine sg [0] Y ?_
    refine rp Y Y (p_bin Y Y Y Y) ?_
    refine rz [(1, .i down1), (7, .t s7_0), (19, .p ((fun q : List GValue => AV.lst (q.flatMap GValue.cs) q.length) row0)), (20, .i (row0.length : Int)), (21, .i t21_0), (22, .b (decide (t21_0 < (row0.length : Int))))] [] Y Y Y ?_
    refine AW2_seq ?_
    refine AW2_if (p := t21_0 < (row0.length : Int)) Y (fun h4 => ?_) (fun h4 => ?_)
    ·replace H := ite_then h4 H
     refine as2 [(1, .i down1), (7, .t s7_0), (19, .p ((fun q : List GValue => AV.lst (q.flatMap GValue.cs) q.length) row0)), (20, .i (row0.length : Int)), (21, .i t21_0)] [] Y Y Y ?_
     refine AW2_skip ?_
     refine AW2_seq ?_
     refine AW2_block ?_
     refine sg [0, 1, 2, 3, 4, 5] Y ?_
     refine rp Y Y (p_move Y Y) ?_
     refine chkK H fun h5 H => ?_
     refine rp Y Y (u_ixl Y Y Tryd.underlying32 in_24 Y Y (ixe h5) (ixn h5) (fne (fun x => (GValue.len x)) (by decide) (ixn h5))) ?_
     refine rp Y Y (u_lda Y Y Tryd.underlying24 Y in_24 Y (Nat.succ_pos _) (Sub.fm default (fun x => (GValue.len x)) (ixn h5)) (GValue.len (lrd row0 t21_0.toNat))) ?_
     refine r_op Y Y (MakeD.opD (u_alloc 9 Y in_24 one_24 zc_24) Y Y Y Y) ?_
     refine rp Y Y (p_asg Y Y) ?_
     refine r_op Y Y (u_st Y Y Y Y Y in_24 (GValue.len (lrd row0 t21_0.toNat)) (nl (GValue.len GValue.zero)) (Upd.refl ((GValue.len (lrd row0 t21_0.toNat)).trans (GValue.len GValue.zero).symm))) ?_
     refine rz [(1, .i down1), (7, .t s7_0), (8, .i t21_0), (9, .q 9 (0)), (19, .p ((fun q : List GValue => AV.lst (q.flatMap GValue.cs) q.length) row0)), (20, .i (row0.length : Int)), (21, .i t21_0)] [(9, .pure (GValue.cs (lrd row0 t21_0.toNat)))] Y Y Y ?_
     refine sg [0, 1, 2] Y ?_
     refine rp Y Y (u_lda Y Y Tryd.underlying24 Y in_24 Y (Nat.succ_pos _) (Sub.refl _) (GValue.len (lrd row0 t21_0.toNat))) ?_
     refine bindK H fun r'2 h6 H => ?_
     refine rp Y Y (p_callp Y Y Y Tryd.func50 Y Y (g_ref_valueBytes_ac h6) ⟨Y, trivial⟩) ?_
     refine rp Y Y (p_asg Y Y) ?_
     refine rz [(1, .i down1), (7, .t s7_0), (8, .i t21_0), (10, .t r'2), (19, .p ((fun q : List GValue => AV.lst (q.flatMap GValue.cs) q.length) row0)), (20, .i (row0.length : Int)), (21, .i t21_0)] [] Y Y Y ?_
     refine AW2_seq ?_
     refine bindK H fun j'3 h7 H => ?_
     refine AW2_mid (⟨[(1, .i down1), (7, .t s7_0), (10, .t j'3), (19, .p ((fun q : List GValue => AV.lst (q.flatMap GValue.cs) q.length) row0)), (20, .i (row0.length : Int)), (21, .i t21_0)], [], 39⟩ : TS) ?_ ?_
     ·clear H
      have H := h7
      clear h7
      refine sg [0, 1, 2] Y ?_
      refine rp Y Y (p_move Y Y) ?_
      refine rp Y Y (p_move Y Y) ?_
      refine bindK H fun r'4 h8 H => ?_
      refine rp Y Y (p_callp Y Y Y Tryd.func51 Y Y (g_ref_downs_ac h8) ⟨Y, Y, trivial⟩) ?_
      refine rz [(1, .i down1), (7, .t s7_0), (10, .t r'2), (19, .p ((fun q : List GValue => AV.lst (q.flatMap GValue.cs) q.length) row0)), (20, .i (row0.length : Int)), (21, .i t21_0), (30, .b r'4)] [] Y Y Y ?_
      refine AW2_cond Y (fun h9 => ?_) (fun h9 => ?_)
      ·replace H := ite_then h9 H
       refine AW2_reg [0, 1, 2] Y ?_
       refine rp Y Y (p_move Y Y) ?_
       refine bindK H fun r'5 h10 H => ?_
       refine rp Y Y (p_callp Y Y Y Tryd.func52 Y Y (g_ref_flipped_ac h10) ⟨Y, trivial⟩) ?_
       refine rp Y Y (p_asg Y Y) ?_
       refine rz [(1, .i down1), (7, .t s7_0), (10, .t r'5), (19, .p ((fun q : List GValue => AV.lst (q.flatMap GValue.cs) q.length) row0)), (20, .i (row0.length : Int)), (21, .i t21_0)] [] Y Y Y ?_
       have hz := some_elim H
       subst hz
       exact rfl
      ·replace H := ite_else (ne_true h9) H
       refine as2 [(1, .i down1), (7, .t s7_0), (10, .t r'2), (19, .p ((fun q : List GValue => AV.lst (q.flatMap GValue.cs) q.length) row0)), (20, .i (row0.length : Int)), (21, .i t21_0)] [] Y Y Y ?_
       refine AW2_skip ?_
       have hz := some_elim H
       subst hz
       exact rfl
     ·refine AW2_reg [0, 1, 2, 3] Y ?_
      refine rp Y Y (p_move Y Y) ?_
      refine rp Y Y (p_move Y Y) ?_
      refine chkK H fun h11 H => ?_
      refine rp Y Y (p_cat Y Y Y h11) ?_
      refine rp Y Y (p_asg Y Y) ?_
      refine rz [(1, .i down1), (7, .t (s7_0 ++ j'3)), (19, .p ((fun q : List GValue => AV.lst (q.flatMap GValue.cs) q.length) row0)), (20, .i (row0.length : Int)), (21, .i t21_0)] [] Y Y Y ?_
      refine AW2_reg [0, 1] Y ?_
      refine rp Y Y (p_bin Y Y Y Y) ?_
      refine rp Y Y (p_move Y Y) ?_
      refine rz [(1, .i down1), (7, .t (s7_0 ++ j'3)), (19, .p ((fun q : List GValue => AV.lst (q.flatMap GValue.cs) q.length) row0)), (20, .i (row0.length : Int)), (21, .i (w64 (t21_0 + (1 : Int))))] [] Y Y Y ?_
      have hz := some_elim H
      subst hz
      exact ⟨Y, Y⟩
    ·replace H := ite_else h4 H
     refine as2 [(7, .t s7_0)] [] Y Y Y ?_
     refine AW2_exit ?_
     refine thenQ2_exit ?_
     have hz := some_elim H
     subst hz
     exact ⟨Y, Y⟩
   ·obtain ⟨rfl, rfl⟩ := hs
    refine ⟨by simp, ?_⟩
    refine blockQ2_exit ?_
    refine sg [0, 1, 2, 3] Y ?_
    refine rp Y Y (p_move Y Y) ?_
    refine r_op Y Y (MakeD.opD (n_sb 38 Y Tryd.underlying9 Tryd.underlying33 Tryd.underlying5 Y) Y Y Y Y) ?_
    refine rp Y Y (p_asg Y Y) ?_
    refine rp Y Y (p_asg Y Y) ?_
    refine rs [(4, .c (.own 38 y'9.length 1)), (5, .i (0 : Int))] [(38, .pure (bcells y'9))] Y Y Y ?_
    refine RunW_gho (Gho_ren 38 4 Y Y Y Y Y) ?_
    refine rz [(4, .c (.own 4 y'9.length 1)), (5, .i (0 : Int))] [(4, .pure (bcells y'9))] Y Y Y ?_
    refine as2 [(4, .c (.own 4 y'9.length 1)), (5, .i (0 : Int))] [(4, .pure (bcells y'9))] Y Y Y ?_
    refine AW2_ret ?_
    have hz := some_elim H
    subst hz
    exact ⟨⟨res_tmp (.same _), res_tmp (.same _), trivial⟩, ⟨Y, trivial⟩⟩
theorem g_ref_RowBytes_ac {row0 : List GValue} {down1 : Int} {r : (List UInt8) × Int} (H : g_ref_RowBytes row0 down1 = some r) : ACp Tryd.prog 22 [((fun q : List GValue => AV.lst (q.flatMap GValue.cs) q.length) row0), (AV.int down1)] (.tup [(AV.bytes r.1), (AV.int r.2)]) := ACp_pub (g_ref_RowBytes_ac2 H) (fun _ _ hm => lent_tup ⟨lent_own hm rfl (bl r.1) (by decide), .same _, trivial⟩)

/-! chirographlaw.sameBytes -/
noncomputable def g_law_sameBytes (a0 : List UInt8) (b1 : List UInt8) : Option (Bool) :=
  some (decide (a0 = b1))
set_option maxHeartbeats 4000000 in
set_option maxRecDepth 100000 in
theorem g_law_sameBytes_ac {a0 : List UInt8} {b1 : List UInt8} {r : Bool} (H : g_law_sameBytes a0 b1 = some r) : ACp Tryd.prog 23 [(AV.bytes a0), (AV.bytes b1)] (AV.bool r) := by
 refine ACp_of (AC2_of_body (vs := [.b r]) Tryd.func23 Y Y (Nat.le_of_ble_eq_true Y) Y ?_) (fun _ => .same _)
 unfold g_law_sameBytes at H
 refine as2 [(0, .y a0), (1, .y b1)] [] Y Y Y ?_
 refine sg [0] Y ?_
 refine rp Y Y (p_asg Y Y) ?_
 refine rz [(0, .y a0), (1, .y b1)] [] Y Y Y ?_
 refine sg [0, 1, 2, 3, 4, 5] Y ?_
 refine rp Y Y (p_move Y Y) ?_
 refine rp Y Y (p_cb Y Y Tryd.underlying33 Tryd.underlying5 Tryd.underlying9 Y) ?_
 refine rp Y Y (p_move Y Y) ?_
 refine rp Y Y (p_cb Y Y Tryd.underlying33 Tryd.underlying5 Tryd.underlying9 Y) ?_
 refine rp Y Y (p_seq Y Y Y) ?_
 refine rp Y Y (p_asg Y Y) ?_
 refine rz [(4, .b (decide (a0 = b1)))] [] Y Y Y ?_
 refine AW2_ret ?_
 have hz := some_elim H
 subst hz
 exact ⟨⟨res_tmp (.same _), trivial⟩, trivial⟩

/-! chirographlaw.CodeEncodes -/
noncomputable def g_law_CodeEncodes (row0 : List GValue) (down1 : Int) : Option (Bool) :=
  (g_code_Encode row0 down1).bind fun r'1 => (g_ref_RowBytes row0 down1).bind fun r'2 => ((if r'1.2 = r'2.2 then (g_law_sameBytes r'1.1 r'2.1).bind fun r'4 => some r'4 else some false)).bind fun g'5 => some g'5
set_option maxHeartbeats 4000000 in
set_option maxRecDepth 100000 in
theorem g_law_CodeEncodes_ac {row0 : List GValue} {down1 : Int} {r : Bool} (H : g_law_CodeEncodes row0 down1 = some r) : ACp Tryd.prog 7 [((fun q : List GValue => AV.lst (q.flatMap GValue.cs) q.length) row0), (AV.int down1)] (AV.bool r) := by
 refine ACp_of (AC2_of_body (vs := [.b r]) Tryd.func7 Y Y (Nat.le_of_ble_eq_true Y) Y ?_) (fun _ => .same _)
 unfold g_law_CodeEncodes at H
 refine as2 [(0, .p ((fun q : List GValue => AV.lst (q.flatMap GValue.cs) q.length) row0)), (1, .i down1)] [] Y Y Y ?_
 refine sg [0] Y ?_
 refine rp Y Y (p_asg Y Y) ?_
 refine rz [(0, .p ((fun q : List GValue => AV.lst (q.flatMap GValue.cs) q.length) row0)), (1, .i down1)] [] Y Y Y ?_
 refine sg [0, 1, 2, 3, 4, 5, 6, 7] Y ?_
 refine rp Y Y (p_move Y Y) ?_
 refine rp Y Y (p_move Y Y) ?_
 refine bindK H fun r'1 h1 H => ?_
 refine rp Y Y (p_callp Y Y Y Tryd.func21 Y Y (g_code_Encode_ac h1) ⟨Y, Y, trivial⟩) ?_
 refine rp Y Y (p_move Y Y) ?_
 refine rp Y Y (p_ext Y Y Y Y) ?_
 refine rp Y Y (p_ext Y Y Y Y) ?_
 refine rp Y Y (p_asg Y Y) ?_
 refine rp Y Y (p_asg Y Y) ?_
 refine rz [(0, .p ((fun q : List GValue => AV.lst (q.flatMap GValue.cs) q.length) row0)), (1, .i down1), (5, .y r'1.1), (6, .i r'1.2)] [] Y Y Y ?_
 refine sg [0, 1, 2, 3, 4, 5, 6, 7] Y ?_
 refine rp Y Y (p_move Y Y) ?_
 refine rp Y Y (p_move Y Y) ?_
 refine bindK H fun r'2 h2 H => ?_
 refine rp Y Y (p_callp Y Y Y Tryd.func22 Y Y (g_ref_RowBytes_ac h2) ⟨Y, Y, trivial⟩) ?_
 refine rp Y Y (p_move Y Y) ?_
 refine rp Y Y (p_ext Y Y Y Y) ?_
 refine rp Y Y (p_ext Y Y Y Y) ?_
 refine rp Y Y (p_asg Y Y) ?_
 refine rp Y Y (p_asg Y Y) ?_
 refine rz [(5, .y r'1.1), (6, .i r'1.2), (7, .y r'2.1), (8, .i r'2.2)] [] Y Y Y ?_
 refine AW2_seq ?_
 refine bindK H fun g'5 h6 H => ?_
 refine AW2_mid (⟨[(4, .b g'5)], [], 29⟩ : TS) ?_ ?_
 ·clear H
  have H := h6
  clear h6
  refine AW2_reg [0, 1, 2, 3, 4, 5, 6, 7, 8] Y ?_
  refine rp Y Y (p_move Y Y) ?_
  refine rp Y Y (p_move Y Y) ?_
  refine rp Y Y (p_ieq Y Y Y) ?_
  refine rp Y Y (p_move Y Y) ?_
  refine (Classical.em (r'1.2 = r'2.2)).elim (fun h4 => ?_) (fun h4 => ?_)
  ·replace H := ite_then h4 H
   refine r_on Y Y Y Y (dT h4) Y (PureD.opD (p_move Y Y)) ?_
   refine r_on Y Y Y Y (dT h4) Y (PureD.opD (p_move Y Y)) ?_
   refine bindK H fun r'4 h5 H => ?_
   refine r_on Y Y Y Y (dT h4) Y (PureD.opD (p_callp Y Y Y Tryd.func23 Y Y (g_law_sameBytes_ac h5) ⟨Y, Y, trivial⟩)) ?_
   refine rp Y Y (p_pkt Y Y (dT h4) (.same _)) ?_
   refine rp Y Y (p_asg Y Y) ?_
   refine rs [(4, .b r'4)] [] Y Y Y ?_
   have hz := some_elim H
   subst hz
   exact RunW_nil rfl
  ·replace H := ite_else h4 H
   refine r_off Y Y Y Y (dF h4) Y Y ?_
   refine r_off Y Y Y Y (dF h4) Y Y ?_
   refine r_off Y Y Y Y (dF h4) Y Y ?_
   refine rp Y Y (p_pkf Y Y (dF h4) (.same _)) ?_
   refine rp Y Y (p_asg Y Y) ?_
   refine rs [(4, .b false)] [] Y Y Y ?_
   have hz := some_elim H
   subst hz
   exact RunW_nil rfl
 ·refine AW2_ret ?_
  have hz := some_elim H
  subst hz
  exact ⟨⟨res_tmp (.same _), trivial⟩, trivial⟩

/-! code.back -/
noncomputable def g_code_back (n0 : UInt64) : Option (UInt64) :=
  (if n0 &&& (9223372036854775808 : UInt64) ≠ (0 : UInt64) then some (n0 &&& (~~~ (9223372036854775808 : UInt64))) else some (~~~ n0))
set_option maxHeartbeats 4000000 in
set_option maxRecDepth 100000 in
theorem g_code_back_ac {n0 : UInt64} {r : UInt64} (H : g_code_back n0 = some r) : ACp Tryd.prog 74 [(AV.u64 n0)] (AV.u64 r) := by
 refine ACp_of (AC2_of_body (vs := [.p (AV.u64 r)]) Tryd.func74 Y Y (Nat.le_of_ble_eq_true Y) Y ?_) (fun _ => .same _)
 unfold g_code_back at H
 refine as2 [(0, .p (AV.u64 n0))] [] Y Y Y ?_
 refine sg [0] Y ?_
 refine rp Y Y (p_asg Y Y) ?_
 refine rz [(0, .p (AV.u64 n0))] [] Y Y Y ?_
 refine AW2_seq ?_
 refine sg [0, 1, 2] Y ?_
 refine rp Y Y (p_move Y Y) ?_
 refine rp Y Y (p_u64and (a := n0) (b := (9223372036854775808 : UInt64)) Y Y Y) ?_
 refine rp Y Y (p_u64ne (a := n0 &&& (9223372036854775808 : UInt64)) (b := (0 : UInt64)) Y Y Y) ?_
 refine rz [(0, .p (AV.u64 n0)), (5, .b (decide (n0 &&& (9223372036854775808 : UInt64) ≠ (0 : UInt64))))] [] Y Y Y ?_
 refine AW2_if (p := n0 &&& (9223372036854775808 : UInt64) ≠ (0 : UInt64)) Y (fun h1 => ?_) (fun h1 => ?_)
 ·replace H := ite_then h1 H
  refine sg [0, 1, 2] Y ?_
  refine rp Y Y (p_move Y Y) ?_
  refine rp Y Y (p_u64andnot (a := n0) (b := (9223372036854775808 : UInt64)) Y Y Y) ?_
  refine rp Y Y (p_asg Y Y) ?_
  refine rz [(2, .p (AV.u64 (n0 &&& (~~~ (9223372036854775808 : UInt64)))))] [] Y Y Y ?_
  refine AW2_ret ?_
  have hz := some_elim H
  subst hz
  exact ⟨⟨res_tmp (.same _), trivial⟩, trivial⟩
 ·replace H := ite_else h1 H
  refine as2 [(0, .p (AV.u64 n0))] [] Y Y Y ?_
  refine AW2_skip ?_
  refine sg [0, 1, 2] Y ?_
  refine rp Y Y (p_move Y Y) ?_
  refine rp Y Y (p_u64cpl Y Y) ?_
  refine rp Y Y (p_asg Y Y) ?_
  refine rz [(2, .p (AV.u64 (~~~ n0)))] [] Y Y Y ?_
  refine AW2_ret ?_
  have hz := some_elim H
  subst hz
  exact ⟨⟨res_tmp (.same _), trivial⟩, trivial⟩

/-! utf8.word[[]byte] -/
def g_utf8_word_byte_r1 : List (List (Nat × Option Nat)) := [[(0, none)], [(3, some 0)], [(4, some 1)], [(5, some 2)], [(0, none)], [(7, some 4)], [(8, some 5)], [(9, some 6)], [(10, some 7)], [(6, some 3), (11, some 8)], [(0, none)], [(13, some 10)], [(14, some 11)], [(15, some 12)], [(16, some 13)], [(12, some 9), (17, some 14)], [(0, none)], [(19, some 16)], [(20, some 17)], [(21, some 18)], [(22, some 19)]]
def g_utf8_word_byte_r1c : List (List Nat) := [[], [0], [0, 1], [0, 1, 2], [], [4], [4, 5], [4, 5, 6], [4, 5, 6, 7], [0, 1, 2, 3, 4, 5, 6, 7, 8], [], [10], [10, 11], [10, 11, 12], [10, 11, 12, 13], [0, 1, 2, 3, 4, 5, 6, 7, 8, 9, 10, 11, 12, 13, 14], [], [16], [16, 17], [16, 17, 18], [16, 17, 18, 19], [0, 1, 2, 3, 4, 5, 6, 7, 8, 9, 10, 11, 12, 13, 14, 15, 16, 17, 18, 19, 20], [0, 1, 2, 3, 4, 5, 6, 7, 8, 9, 10, 11, 12, 13, 14, 15, 16, 17, 18, 19, 20, 21]]
def g_utf8_word_byte_r2 : List (List (Nat × Option Nat)) := [[(0, none)], [(25, some 0)], [(26, some 1)], [(27, some 2)], [(0, none)], [(29, some 4)], [(30, some 5)], [(31, some 6)], [(32, some 7)], [(28, some 3), (33, some 8)], [(0, none)], [(35, some 10)], [(36, some 11)], [(37, some 12)], [(38, some 13)], [(34, some 9), (39, some 14)], [(0, none)], [(41, some 16)], [(42, some 17)], [(43, some 18)], [(44, some 19)], [(40, some 15), (45, some 20)], [(0, none)], [(47, some 22)], [(48, some 23)], [(49, some 24)], [(50, some 25)], [(46, some 21), (51, some 26)], [(0, none)], [(53, some 28)], [(54, some 29)], [(55, some 30)], [(56, some 31)], [(52, some 27), (57, some 32)], [(0, none)], [(59, some 34)], [(60, some 35)], [(61, some 36)], [(62, some 37)], [(58, some 33), (63, some 38)], [(0, none)], [(65, some 40)], [(66, some 41)], [(67, some 42)], [(68, some 43)]]
def g_utf8_word_byte_r2c : List (List Nat) := [[], [0], [0, 1], [0, 1, 2], [], [4], [4, 5], [4, 5, 6], [4, 5, 6, 7], [0, 1, 2, 3, 4, 5, 6, 7, 8], [], [10], [10, 11], [10, 11, 12], [10, 11, 12, 13], [0, 1, 2, 3, 4, 5, 6, 7, 8, 9, 10, 11, 12, 13, 14], [], [16], [16, 17], [16, 17, 18], [16, 17, 18, 19], [0, 1, 2, 3, 4, 5, 6, 7, 8, 9, 10, 11, 12, 13, 14, 15, 16, 17, 18, 19, 20], [], [22], [22, 23], [22, 23, 24], [22, 23, 24, 25], [0, 1, 2, 3, 4, 5, 6, 7, 8, 9, 10, 11, 12, 13, 14, 15, 16, 17, 18, 19, 20, 21, 22, 23, 24, 25, 26], [], [28], [28, 29], [28, 29, 30], [28, 29, 30, 31], [0, 1, 2, 3, 4, 5, 6, 7, 8, 9, 10, 11, 12, 13, 14, 15, 16, 17, 18, 19, 20, 21, 22, 23, 24, 25, 26, 27, 28, 29, 30, 31, 32], [], [34], [34, 35], [34, 35, 36], [34, 35, 36, 37], [0, 1, 2, 3, 4, 5, 6, 7, 8, 9, 10, 11, 12, 13, 14, 15, 16, 17, 18, 19, 20, 21, 22, 23, 24, 25, 26, 27, 28, 29, 30, 31, 32, 33, 34, 35, 36, 37, 38], [], [40], [40, 41], [40, 41, 42], [40, 41, 42, 43], [0, 1, 2, 3, 4, 5, 6, 7, 8, 9, 10, 11, 12, 13, 14, 15, 16, 17, 18, 19, 20, 21, 22, 23, 24, 25, 26, 27, 28, 29, 30, 31, 32, 33, 34, 35, 36, 37, 38, 39, 40, 41, 42, 43, 44], [0, 1, 2, 3, 4, 5, 6, 7, 8, 9, 10, 11, 12, 13, 14, 15, 16, 17, 18, 19, 20, 21, 22, 23, 24, 25, 26, 27, 28, 29, 30, 31, 32, 33, 34, 35, 36, 37, 38, 39, 40, 41, 42, 43, 44, 45]]
noncomputable def g_utf8_word_byte (s0 : List UInt8) : Option (UInt64) :=
  (if false = true then if 0 < s0.length then if 1 < s0.length then if 2 < s0.length then if 3 < s0.length then letO (((((lrd s0 0).toUInt64) ||| (shl_u64 ((lrd s0 1).toUInt64) 8)) ||| (shl_u64 ((lrd s0 2).toUInt64) 16)) ||| (shl_u64 ((lrd s0 3).toUInt64) 24)) fun t2'1 => some t2'1 else none else none else none else none else if 0 < s0.length then if 1 < s0.length then if 2 < s0.length then if 3 < s0.length then if 4 < s0.length then if 5 < s0.length then if 6 < s0.length then if 7 < s0.length then letO (((((((((lrd s0 0).toUInt64) ||| (shl_u64 ((lrd s0 1).toUInt64) 8)) ||| (shl_u64 ((lrd s0 2).toUInt64) 16)) ||| (shl_u64 ((lrd s0 3).toUInt64) 24)) ||| (shl_u64 ((lrd s0 4).toUInt64) 32)) ||| (shl_u64 ((lrd s0 5).toUInt64) 40)) ||| (shl_u64 ((lrd s0 6).toUInt64) 48)) ||| (shl_u64 ((lrd s0 7).toUInt64) 56)) fun t2'2 => some t2'2 else none else none else none else none else none else none else none else none)
set_option maxHeartbeats 4000000 in
set_option maxRecDepth 100000 in
theorem g_utf8_word_byte_ac {s0 : List UInt8} {r : UInt64} (H : g_utf8_word_byte s0 = some r) : ACp Tryd.prog 104 [(AV.bytes s0)] (AV.u64 r) := by
 refine ACp_of (AC2_of_body (vs := [.p (AV.u64 r)]) Tryd.func104 Y Y (Nat.le_of_ble_eq_true Y) Y ?_) (fun _ => .same _)
 unfold g_utf8_word_byte at H
 refine as2 [(0, .y s0)] [] Y Y Y ?_
 refine sg [0] Y ?_
 refine rp Y Y (p_asg Y Y) ?_
 refine rz [(0, .y s0)] [] Y Y Y ?_
 refine AW2_seq ?_
 refine AW2_cond Y (fun h1 => ?_) (fun h1 => ?_)
 ·replace H := ite_then h1 H
  refine AW2_seq ?_
  refine chkK H fun h2 H => ?_
  refine chkK H fun h3 H => ?_
  refine chkK H fun h4 H => ?_
  refine chkK H fun h5 H => ?_
  refine AW2_ghoQ ?_
  refine AW2_draw 21 [21, 22] (fun k => ([.y s0, .p (.rptr (bcells s0) (0 * 1)), .p (AV.b8 (lrd s0 0)), .p (AV.u64 ((lrd s0 0).toUInt64)), .y s0, .p (.rptr (bcells s0) (1 * 1)), .p (AV.b8 (lrd s0 1)), .p (AV.u64 ((lrd s0 1).toUInt64)), .p (AV.u64 (shl_u64 ((lrd s0 1).toUInt64) 8)), .p (AV.u64 (((lrd s0 0).toUInt64) ||| (shl_u64 ((lrd s0 1).toUInt64) 8))), .y s0, .p (.rptr (bcells s0) (2 * 1)), .p (AV.b8 (lrd s0 2)), .p (AV.u64 ((lrd s0 2).toUInt64)), .p (AV.u64 (shl_u64 ((lrd s0 2).toUInt64) 16)), .p (AV.u64 ((((lrd s0 0).toUInt64) ||| (shl_u64 ((lrd s0 1).toUInt64) 8)) ||| (shl_u64 ((lrd s0 2).toUInt64) 16))), .y s0, .p (.rptr (bcells s0) (3 * 1)), .p (AV.b8 (lrd s0 3)), .p (AV.u64 ((lrd s0 3).toUInt64)), .p (AV.u64 (shl_u64 ((lrd s0 3).toUInt64) 24))] : List TV).getD k TV.any) (fun k => g_utf8_word_byte_r1.getD k []) [(18, some 15), (23, some 20)] [] (fun k => g_utf8_word_byte_r1c.getD k []) mixed (by kernel_rfl) Y Y (a_op (g_x Y (x_p Y (p_move Y Y) Y)) (a_op (g_x Y (x_p Y (u_ixl Y Y Tryd.underlying33 in_5 Y Y Y h2 (lne h2)) Y)) (a_op (g_x Y (x_p Y (u_ld Y Y Tryd.underlying5 Y Y (Sub.map default h2)) Y)) (a_op (g_x Y (x_p Y (p_u8_u64 (a := (lrd s0 0)) Y Tryd.underlying5 Tryd.underlying12 Y) Y)) (a_op (g_x Y (x_p Y (p_move Y Y) Y)) (a_op (g_x Y (x_p Y (u_ixl Y Y Tryd.underlying33 in_5 Y Y Y h3 (lne h3)) Y)) (a_op (g_x Y (x_p Y (u_ld Y Y Tryd.underlying5 Y Y (Sub.map default h3)) Y)) (a_op (g_x Y (x_p Y (p_u8_u64 (a := (lrd s0 1)) Y Tryd.underlying5 Tryd.underlying12 Y) Y)) (a_op (g_x Y (x_p Y (p_u64shl (n := 8) Y Y Y Y) Y)) (a_op (g_x Y (x_p Y (p_u64or (a := (lrd s0 0).toUInt64) (b := shl_u64 ((lrd s0 1).toUInt64) 8) Y Y Y) Y)) (a_op (g_x Y (x_p Y (p_move Y Y) Y)) (a_op (g_x Y (x_p Y (u_ixl Y Y Tryd.underlying33 in_5 Y Y Y h4 (lne h4)) Y)) (a_op (g_x Y (x_p Y (u_ld Y Y Tryd.underlying5 Y Y (Sub.map default h4)) Y)) (a_op (g_x Y (x_p Y (p_u8_u64 (a := (lrd s0 2)) Y Tryd.underlying5 Tryd.underlying12 Y) Y)) (a_op (g_x Y (x_p Y (p_u64shl (n := 16) Y Y Y Y) Y)) (a_op (g_x Y (x_p Y (p_u64or (a := ((lrd s0 0).toUInt64) ||| (shl_u64 ((lrd s0 1).toUInt64) 8)) (b := shl_u64 ((lrd s0 2).toUInt64) 16) Y Y Y) Y)) (a_op (g_x Y (x_p Y (p_move Y Y) Y)) (a_op (g_x Y (x_p Y (u_ixl Y Y Tryd.underlying33 in_5 Y Y Y h5 (lne h5)) Y)) (a_op (g_x Y (x_p Y (u_ld Y Y Tryd.underlying5 Y Y (Sub.map default h5)) Y)) (a_op (g_x Y (x_p Y (p_u8_u64 (a := (lrd s0 3)) Y Tryd.underlying5 Tryd.underlying12 Y) Y)) (a_op (g_x Y (x_p Y (p_u64shl (n := 24) Y Y Y Y) Y)) (a_nil)))))))))))))))))))))) ?_
  refine t_op Y Y (PureD.opD (p_u64or (a := (((lrd s0 0).toUInt64) ||| (shl_u64 ((lrd s0 1).toUInt64) 8)) ||| (shl_u64 ((lrd s0 2).toUInt64) 16)) (b := shl_u64 ((lrd s0 3).toUInt64) 24) Y Y Y)) ?_
  refine t_op Y Y (PureD.opD (p_asg Y Y)) ?_
  refine t_gho (Gho_st (L := [(2, .p (AV.u64 (((((lrd s0 0).toUInt64) ||| (shl_u64 ((lrd s0 1).toUInt64) 8)) ||| (shl_u64 ((lrd s0 2).toUInt64) 16)) ||| (shl_u64 ((lrd s0 3).toUInt64) 24))))]) (H := []) (N := 71) Y ⟨TLes.same _, trivial⟩ trivial) ?_
  refine gen1 (fun t2'1 => (⟨[(2, .p (AV.u64 t2'1))], [], 71⟩ : TS)) H ?_
  intro t2'1 H
  refine AW2_ret ?_
  have hz := some_elim H
  subst hz
  exact ⟨⟨res_tmp (.same _), trivial⟩, trivial⟩
 ·replace H := ite_else (ne_true h1) H
  refine AW2_skip ?_
  refine AW2_seq ?_
  refine chkK H fun h6 H => ?_
  refine chkK H fun h7 H => ?_
  refine chkK H fun h8 H => ?_
  refine chkK H fun h9 H => ?_
  refine chkK H fun h10 H => ?_
  refine chkK H fun h11 H => ?_
  refine chkK H fun h12 H => ?_
  refine chkK H fun h13 H => ?_
  refine AW2_ghoQ ?_
  refine AW2_draw 45 [45, 46] (fun k => ([.y s0, .p (.rptr (bcells s0) (0 * 1)), .p (AV.b8 (lrd s0 0)), .p (AV.u64 ((lrd s0 0).toUInt64)), .y s0, .p (.rptr (bcells s0) (1 * 1)), .p (AV.b8 (lrd s0 1)), .p (AV.u64 ((lrd s0 1).toUInt64)), .p (AV.u64 (shl_u64 ((lrd s0 1).toUInt64) 8)), .p (AV.u64 (((lrd s0 0).toUInt64) ||| (shl_u64 ((lrd s0 1).toUInt64) 8))), .y s0, .p (.rptr (bcells s0) (2 * 1)), .p (AV.b8 (lrd s0 2)), .p (AV.u64 ((lrd s0 2).toUInt64)), .p (AV.u64 (shl_u64 ((lrd s0 2).toUInt64) 16)), .p (AV.u64 ((((lrd s0 0).toUInt64) ||| (shl_u64 ((lrd s0 1).toUInt64) 8)) ||| (shl_u64 ((lrd s0 2).toUInt64) 16))), .y s0, .p (.rptr (bcells s0) (3 * 1)), .p (AV.b8 (lrd s0 3)), .p (AV.u64 ((lrd s0 3).toUInt64)), .p (AV.u64 (shl_u64 ((lrd s0 3).toUInt64) 24)), .p (AV.u64 (((((lrd s0 0).toUInt64) ||| (shl_u64 ((lrd s0 1).toUInt64) 8)) ||| (shl_u64 ((lrd s0 2).toUInt64) 16)) ||| (shl_u64 ((lrd s0 3).toUInt64) 24))), .y s0, .p (.rptr (bcells s0) (4 * 1)), .p (AV.b8 (lrd s0 4)), .p (AV.u64 ((lrd s0 4).toUInt64)), .p (AV.u64 (shl_u64 ((lrd s0 4).toUInt64) 32)), .p (AV.u64 ((((((lrd s0 0).toUInt64) ||| (shl_u64 ((lrd s0 1).toUInt64) 8)) ||| (shl_u64 ((lrd s0 2).toUInt64) 16)) ||| (shl_u64 ((lrd s0 3).toUInt64) 24)) ||| (shl_u64 ((lrd s0 4).toUInt64) 32))), .y s0, .p (.rptr (bcells s0) (5 * 1)), .p (AV.b8 (lrd s0 5)), .p (AV.u64 ((lrd s0 5).toUInt64)), .p (AV.u64 (shl_u64 ((lrd s0 5).toUInt64) 40)), .p (AV.u64 (((((((lrd s0 0).toUInt64) ||| (shl_u64 ((lrd s0 1).toUInt64) 8)) ||| (shl_u64 ((lrd s0 2).toUInt64) 16)) ||| (shl_u64 ((lrd s0 3).toUInt64) 24)) ||| (shl_u64 ((lrd s0 4).toUInt64) 32)) ||| (shl_u64 ((lrd s0 5).toUInt64) 40))), .y s0, .p (.rptr (bcells s0) (6 * 1)), .p (AV.b8 (lrd s0 6)), .p (AV.u64 ((lrd s0 6).toUInt64)), .p (AV.u64 (shl_u64 ((lrd s0 6).toUInt64) 48)), .p (AV.u64 ((((((((lrd s0 0).toUInt64) ||| (shl_u64 ((lrd s0 1).toUInt64) 8)) ||| (shl_u64 ((lrd s0 2).toUInt64) 16)) ||| (shl_u64 ((lrd s0 3).toUInt64) 24)) ||| (shl_u64 ((lrd s0 4).toUInt64) 32)) ||| (shl_u64 ((lrd s0 5).toUInt64) 40)) ||| (shl_u64 ((lrd s0 6).toUInt64) 48))), .y s0, .p (.rptr (bcells s0) (7 * 1)), .p (AV.b8 (lrd s0 7)), .p (AV.u64 ((lrd s0 7).toUInt64)), .p (AV.u64 (shl_u64 ((lrd s0 7).toUInt64) 56))] : List TV).getD k TV.any) (fun k => g_utf8_word_byte_r2.getD k []) [(64, some 39), (69, some 44)] [] (fun k => g_utf8_word_byte_r2c.getD k []) mixed (by kernel_rfl) Y Y (a_op (g_x Y (x_p Y (p_move Y Y) Y)) (a_op (g_x Y (x_p Y (u_ixl Y Y Tryd.underlying33 in_5 Y Y Y h6 (lne h6)) Y)) (a_op (g_x Y (x_p Y (u_ld Y Y Tryd.underlying5 Y Y (Sub.map default h6)) Y)) (a_op (g_x Y (x_p Y (p_u8_u64 (a := (lrd s0 0)) Y Tryd.underlying5 Tryd.underlying22 Y) Y)) (a_op (g_x Y (x_p Y (p_move Y Y) Y)) (a_op (g_x Y (x_p Y (u_ixl Y Y Tryd.underlying33 in_5 Y Y Y h7 (lne h7)) Y)) (a_op (g_x Y (x_p Y (u_ld Y Y Tryd.underlying5 Y Y (Sub.map default h7)) Y)) (a_op (g_x Y (x_p Y (p_u8_u64 (a := (lrd s0 1)) Y Tryd.underlying5 Tryd.underlying22 Y) Y)) (a_op (g_x Y (x_p Y (p_u64shl (n := 8) Y Y Y Y) Y)) (a_op (g_x Y (x_p Y (p_u64or (a := (lrd s0 0).toUInt64) (b := shl_u64 ((lrd s0 1).toUInt64) 8) Y Y Y) Y)) (a_op (g_x Y (x_p Y (p_move Y Y) Y)) (a_op (g_x Y (x_p Y (u_ixl Y Y Tryd.underlying33 in_5 Y Y Y h8 (lne h8)) Y)) (a_op (g_x Y (x_p Y (u_ld Y Y Tryd.underlying5 Y Y (Sub.map default h8)) Y)) (a_op (g_x Y (x_p Y (p_u8_u64 (a := (lrd s0 2)) Y Tryd.underlying5 Tryd.underlying22 Y) Y)) (a_op (g_x Y (x_p Y (p_u64shl (n := 16) Y Y Y Y) Y)) (a_op (g_x Y (x_p Y (p_u64or (a := ((lrd s0 0).toUInt64) ||| (shl_u64 ((lrd s0 1).toUInt64) 8)) (b := shl_u64 ((lrd s0 2).toUInt64) 16) Y Y Y) Y)) (a_op (g_x Y (x_p Y (p_move Y Y) Y)) (a_op (g_x Y (x_p Y (u_ixl Y Y Tryd.underlying33 in_5 Y Y Y h9 (lne h9)) Y)) (a_op (g_x Y (x_p Y (u_ld Y Y Tryd.underlying5 Y Y (Sub.map default h9)) Y)) (a_op (g_x Y (x_p Y (p_u8_u64 (a := (lrd s0 3)) Y Tryd.underlying5 Tryd.underlying22 Y) Y)) (a_op (g_x Y (x_p Y (p_u64shl (n := 24) Y Y Y Y) Y)) (a_op (g_x Y (x_p Y (p_u64or (a := (((lrd s0 0).toUInt64) ||| (shl_u64 ((lrd s0 1).toUInt64) 8)) ||| (shl_u64 ((lrd s0 2).toUInt64) 16)) (b := shl_u64 ((lrd s0 3).toUInt64) 24) Y Y Y) Y)) (a_op (g_x Y (x_p Y (p_move Y Y) Y)) (a_op (g_x Y (x_p Y (u_ixl Y Y Tryd.underlying33 in_5 Y Y Y h10 (lne h10)) Y)) (a_op (g_x Y (x_p Y (u_ld Y Y Tryd.underlying5 Y Y (Sub.map default h10)) Y)) (a_op (g_x Y (x_p Y (p_u8_u64 (a := (lrd s0 4)) Y Tryd.underlying5 Tryd.underlying22 Y) Y)) (a_op (g_x Y (x_p Y (p_u64shl (n := 32) Y Y Y Y) Y)) (a_op (g_x Y (x_p Y (p_u64or (a := ((((lrd s0 0).toUInt64) ||| (shl_u64 ((lrd s0 1).toUInt64) 8)) ||| (shl_u64 ((lrd s0 2).toUInt64) 16)) ||| (shl_u64 ((lrd s0 3).toUInt64) 24)) (b := shl_u64 ((lrd s0 4).toUInt64) 32) Y Y Y) Y)) (a_op (g_x Y (x_p Y (p_move Y Y) Y)) (a_op (g_x Y (x_p Y (u_ixl Y Y Tryd.underlying33 in_5 Y Y Y h11 (lne h11)) Y)) (a_op (g_x Y (x_p Y (u_ld Y Y Tryd.underlying5 Y Y (Sub.map default h11)) Y)) (a_op (g_x Y (x_p Y (p_u8_u64 (a := (lrd s0 5)) Y Tryd.underlying5 Tryd.underlying22 Y) Y)) (a_op (g_x Y (x_p Y (p_u64shl (n := 40) Y Y Y Y) Y)) (a_op (g_x Y (x_p Y (p_u64or (a := (((((lrd s0 0).toUInt64) ||| (shl_u64 ((lrd s0 1).toUInt64) 8)) ||| (shl_u64 ((lrd s0 2).toUInt64) 16)) ||| (shl_u64 ((lrd s0 3).toUInt64) 24)) ||| (shl_u64 ((lrd s0 4).toUInt64) 32)) (b := shl_u64 ((lrd s0 5).toUInt64) 40) Y Y Y) Y)) (a_op (g_x Y (x_p Y (p_move Y Y) Y)) (a_op (g_x Y (x_p Y (u_ixl Y Y Tryd.underlying33 in_5 Y Y Y h12 (lne h12)) Y)) (a_op (g_x Y (x_p Y (u_ld Y Y Tryd.underlying5 Y Y (Sub.map default h12)) Y)) (a_op (g_x Y (x_p Y (p_u8_u64 (a := (lrd s0 6)) Y Tryd.underlying5 Tryd.underlying22 Y) Y)) (a_op (g_x Y (x_p Y (p_u64shl (n := 48) Y Y Y Y) Y)) (a_op (g_x Y (x_p Y (p_u64or (a := ((((((lrd s0 0).toUInt64) ||| (shl_u64 ((lrd s0 1).toUInt64) 8)) ||| (shl_u64 ((lrd s0 2).toUInt64) 16)) ||| (shl_u64 ((lrd s0 3).toUInt64) 24)) ||| (shl_u64 ((lrd s0 4).toUInt64) 32)) ||| (shl_u64 ((lrd s0 5).toUInt64) 40)) (b := shl_u64 ((lrd s0 6).toUInt64) 48) Y Y Y) Y)) (a_op (g_x Y (x_p Y (p_move Y Y) Y)) (a_op (g_x Y (x_p Y (u_ixl Y Y Tryd.underlying33 in_5 Y Y Y h13 (lne h13)) Y)) (a_op (g_x Y (x_p Y (u_ld Y Y Tryd.underlying5 Y Y (Sub.map default h13)) Y)) (a_op (g_x Y (x_p Y (p_u8_u64 (a := (lrd s0 7)) Y Tryd.underlying5 Tryd.underlying22 Y) Y)) (a_op (g_x Y (x_p Y (p_u64shl (n := 56) Y Y Y Y) Y)) (a_nil)))))))))))))))))))))))))))))))))))))))))))))) ?_
  refine t_op Y Y (PureD.opD (p_u64or (a := (((((((lrd s0 0).toUInt64) ||| (shl_u64 ((lrd s0 1).toUInt64) 8)) ||| (shl_u64 ((lrd s0 2).toUInt64) 16)) ||| (shl_u64 ((lrd s0 3).toUInt64) 24)) ||| (shl_u64 ((lrd s0 4).toUInt64) 32)) ||| (shl_u64 ((lrd s0 5).toUInt64) 40)) ||| (shl_u64 ((lrd s0 6).toUInt64) 48)) (b := shl_u64 ((lrd s0 7).toUInt64) 56) Y Y Y)) ?_
  refine t_op Y Y (PureD.opD (p_asg Y Y)) ?_
  refine t_gho (Gho_st (L := [(2, .p (AV.u64 (((((((((lrd s0 0).toUInt64) ||| (shl_u64 ((lrd s0 1).toUInt64) 8)) ||| (shl_u64 ((lrd s0 2).toUInt64) 16)) ||| (shl_u64 ((lrd s0 3).toUInt64) 24)) ||| (shl_u64 ((lrd s0 4).toUInt64) 32)) ||| (shl_u64 ((lrd s0 5).toUInt64) 40)) ||| (shl_u64 ((lrd s0 6).toUInt64) 48)) ||| (shl_u64 ((lrd s0 7).toUInt64) 56))))]) (H := []) (N := 71) Y ⟨TLes.same _, trivial⟩ trivial) ?_
  refine gen1 (fun t2'2 => (⟨[(2, .p (AV.u64 t2'2))], [], 71⟩ : TS)) H ?_
  intro t2'2 H
  refine AW2_ret ?_
  have hz := some_elim H
  subst hz
  exact ⟨⟨res_tmp (.same _), trivial⟩, trivial⟩

/-! utf8.Valid -/
def g_utf8_Valid_r8 : List (List (Nat × Option Nat)) := [[(0, none)], [(34, some 0)], [(35, some 1)], [(36, some 2)], [(0, none), (37, some 3)], [(37, some 3), (38, some 4)], [(0, none), (37, some 3)], [(37, some 3), (40, some 6)]]
def g_utf8_Valid_r8c : List (List Nat) := [[], [0], [0, 1], [0, 1, 2], [0, 1, 2, 3], [0, 1, 2, 3, 4], [0, 1, 2, 3], [0, 1, 2, 3, 6], [0, 1, 2, 3, 4, 5, 6, 7], [0, 1, 2, 3, 4, 5, 6, 7, 8], [0, 1, 2, 3, 4, 5, 6, 7, 8, 9], [0, 1, 2, 3, 4, 5, 6, 7, 8, 9, 10], [0, 1, 2, 3, 4, 5, 6, 7, 8, 9, 10, 11]]
def g_utf8_Valid_r10 : List (List (Nat × Option Nat)) := [[(0, none)], [(49, some 0)], [(50, some 1)], [(51, some 2)], [(0, none), (52, some 3)], [(52, some 3), (53, some 4)], [(0, none), (52, some 3)], [(52, some 3), (55, some 6)], [(52, some 3), (56, some 7)], [(52, some 3), (54, some 5), (57, some 8)], [(0, none), (52, some 3)], [(52, some 3), (59, some 10)], [(52, some 3), (60, some 11)], [(0, none), (52, some 3)], [(52, some 3), (62, some 13)], [(52, some 3), (63, some 14)], [(52, some 3), (61, some 12), (64, some 15)]]
def g_utf8_Valid_r10c : List (List Nat) := [[], [0], [0, 1], [0, 1, 2], [0, 1, 2, 3], [0, 1, 2, 3, 4], [0, 1, 2, 3], [0, 1, 2, 3, 6], [0, 1, 2, 3, 4, 5, 6, 7], [0, 1, 2, 3, 4, 5, 6, 7, 8], [0, 1, 2, 3], [0, 1, 2, 3, 10], [0, 1, 2, 3, 4, 5, 6, 7, 8, 10, 11], [0, 1, 2, 3], [0, 1, 2, 3, 13], [0, 1, 2, 3, 4, 5, 6, 7, 8, 10, 11, 12, 13, 14], [0, 1, 2, 3, 4, 5, 6, 7, 8, 10, 11, 12, 13, 14, 15], [0, 1, 2, 3, 4, 5, 6, 7, 8, 9, 10, 11, 12, 13, 14, 15, 16], [0, 1, 2, 3, 4, 5, 6, 7, 8, 9, 10, 11, 12, 13, 14, 15, 16, 17], [0, 1, 2, 3, 4, 5, 6, 7, 8, 9, 10, 11, 12, 13, 14, 15, 16, 17, 18], [0, 1, 2, 3, 4, 5, 6, 7, 8, 9, 10, 11, 12, 13, 14, 15, 16, 17, 18, 19]]
def g_utf8_Valid_r18 : List (List (Nat × Option Nat)) := [[(0, none)], [(85, some 0)], [(86, some 1)], [(87, some 2)], [(0, none), (88, some 3)], [(88, some 3), (89, some 4)], [(88, some 3), (90, some 5)], [(6, none), (88, some 3)], [(88, some 3), (92, some 7)], [(88, some 3), (91, some 6), (93, some 8)], [(88, some 3), (94, some 9)], [(95, some 10)], [(6, none), (96, some 11)], [(96, some 11), (97, some 12)], [(0, none), (96, some 11)], [(96, some 11), (99, some 14)], [(96, some 11), (100, some 15)]]
def g_utf8_Valid_r18c : List (List Nat) := [[], [0], [0, 1], [0, 1, 2], [0, 1, 2, 3], [0, 1, 2, 3, 4], [0, 1, 2, 3, 4, 5], [0, 1, 2, 3], [0, 1, 2, 3, 7], [0, 1, 2, 3, 4, 5, 6, 7, 8], [0, 1, 2, 3, 4, 5, 6, 7, 8, 9], [0, 1, 2, 3, 4, 5, 6, 7, 8, 9, 10], [0, 1, 2, 3, 4, 5, 6, 7, 8, 9, 10, 11], [0, 1, 2, 3, 4, 5, 6, 7, 8, 9, 10, 11, 12], [0, 1, 2, 3, 4, 5, 6, 7, 8, 9, 10, 11], [0, 1, 2, 3, 4, 5, 6, 7, 8, 9, 10, 11, 14], [0, 1, 2, 3, 4, 5, 6, 7, 8, 9, 10, 11, 14, 15], [0, 1, 2, 3, 4, 5, 6, 7, 8, 9, 10, 11, 12, 13, 14, 15, 16], [0, 1, 2, 3, 4, 5, 6, 7, 8, 9, 10, 11, 12, 13, 14, 15, 16, 17]]
def g_utf8_Valid_r22 : List (List (Nat × Option Nat)) := [[(0, none)], [(108, some 0)], [(109, some 1)], [(110, some 2)], [(0, none), (111, some 3)], [(111, some 3), (112, some 4)], [(111, some 3), (113, some 5)], [(6, none), (111, some 3)], [(111, some 3), (115, some 7)], [(111, some 3), (114, some 6), (116, some 8)], [(111, some 3), (117, some 9)], [(118, some 10)], [(6, none), (119, some 11)], [(119, some 11), (120, some 12)], [(0, none), (119, some 11)], [(119, some 11), (122, some 14)], [(119, some 11), (123, some 15)]]
def g_utf8_Valid_r22c : List (List Nat) := [[], [0], [0, 1], [0, 1, 2], [0, 1, 2, 3], [0, 1, 2, 3, 4], [0, 1, 2, 3, 4, 5], [0, 1, 2, 3], [0, 1, 2, 3, 7], [0, 1, 2, 3, 4, 5, 6, 7, 8], [0, 1, 2, 3, 4, 5, 6, 7, 8, 9], [0, 1, 2, 3, 4, 5, 6, 7, 8, 9, 10], [0, 1, 2, 3, 4, 5, 6, 7, 8, 9, 10, 11], [0, 1, 2, 3, 4, 5, 6, 7, 8, 9, 10, 11, 12], [0, 1, 2, 3, 4, 5, 6, 7, 8, 9, 10, 11], [0, 1, 2, 3, 4, 5, 6, 7, 8, 9, 10, 11, 14], [0, 1, 2, 3, 4, 5, 6, 7, 8, 9, 10, 11, 14, 15], [0, 1, 2, 3, 4, 5, 6, 7, 8, 9, 10, 11, 12, 13, 14, 15, 16], [0, 1, 2, 3, 4, 5, 6, 7, 8, 9, 10, 11, 12, 13, 14, 15, 16, 17], [0, 1, 2, 3, 4, 5, 6, 7, 8, 9, 10, 11, 12, 13, 14, 15, 16, 17, 18], [0, 1, 2, 3, 4, 5, 6, 7, 8, 9, 10, 11, 12, 13, 14, 15, 16, 17, 18, 19], [0, 1, 2, 3, 4, 5, 6, 7, 8, 9, 10, 11, 12, 13, 14, 15, 16, 17, 18, 19, 20], [0, 1, 2, 3, 4, 5, 6, 7, 8, 9, 10, 11, 12, 13, 14, 15, 16, 17, 18, 19, 20, 21], [0, 1, 2, 3, 4, 5, 6, 7, 8, 9, 10, 11, 12, 13, 14, 15, 16, 17, 18, 19, 20, 21, 22], [0, 1, 2, 3, 4, 5, 6, 7, 8, 9, 10, 11, 12, 13, 14, 15, 16, 17, 18, 19, 20, 21, 22, 23], [0, 1, 2, 3, 4, 5, 6, 7, 8, 9, 10, 11, 12, 13, 14, 15, 16, 17, 18, 19, 20, 21, 22, 23, 24], [0, 1, 2, 3, 4, 5, 6, 7, 8, 9, 10, 11, 12, 13, 14, 15, 16, 17, 18, 19, 20, 21, 22, 23, 24, 25], [0, 1, 2, 3, 4, 5, 6, 7, 8, 9, 10, 11, 12, 13, 14, 15, 16, 17, 18, 19, 20, 21, 22, 23, 24, 25, 26], [0, 1, 2, 3, 4, 5, 6, 7, 8, 9, 10, 11, 12, 13, 14, 15, 16, 17, 18, 19, 20, 21, 22, 23, 24, 25, 26, 27], [0, 1, 2, 3, 4, 5, 6, 7, 8, 9, 10, 11, 12, 13, 14, 15, 16, 17, 18, 19, 20, 21, 22, 23, 24, 25, 26, 27, 28], [0, 1, 2, 3, 4, 5, 6, 7, 8, 9, 10, 11, 12, 13, 14, 15, 16, 17, 18, 19, 20, 21, 22, 23, 24, 25, 26, 27, 28, 29]]
def g_utf8_Valid_r26 : List (List (Nat × Option Nat)) := [[(0, none)], [(143, some 0)], [(144, some 1)], [(145, some 2)], [(0, none), (146, some 3)], [(146, some 3), (147, some 4)], [(146, some 3), (148, some 5)], [(6, none), (146, some 3)], [(146, some 3), (150, some 7)], [(146, some 3), (149, some 6), (151, some 8)], [(146, some 3), (152, some 9)], [(153, some 10)], [(6, none), (154, some 11)], [(154, some 11), (155, some 12)], [(0, none), (154, some 11)], [(154, some 11), (157, some 14)], [(154, some 11), (158, some 15)]]
def g_utf8_Valid_r26c : List (List Nat) := [[], [0], [0, 1], [0, 1, 2], [0, 1, 2, 3], [0, 1, 2, 3, 4], [0, 1, 2, 3, 4, 5], [0, 1, 2, 3], [0, 1, 2, 3, 7], [0, 1, 2, 3, 4, 5, 6, 7, 8], [0, 1, 2, 3, 4, 5, 6, 7, 8, 9], [0, 1, 2, 3, 4, 5, 6, 7, 8, 9, 10], [0, 1, 2, 3, 4, 5, 6, 7, 8, 9, 10, 11], [0, 1, 2, 3, 4, 5, 6, 7, 8, 9, 10, 11, 12], [0, 1, 2, 3, 4, 5, 6, 7, 8, 9, 10, 11], [0, 1, 2, 3, 4, 5, 6, 7, 8, 9, 10, 11, 14], [0, 1, 2, 3, 4, 5, 6, 7, 8, 9, 10, 11, 14, 15], [0, 1, 2, 3, 4, 5, 6, 7, 8, 9, 10, 11, 12, 13, 14, 15, 16], [0, 1, 2, 3, 4, 5, 6, 7, 8, 9, 10, 11, 12, 13, 14, 15, 16, 17], [0, 1, 2, 3, 4, 5, 6, 7, 8, 9, 10, 11, 12, 13, 14, 15, 16, 17, 18], [0, 1, 2, 3, 4, 5, 6, 7, 8, 9, 10, 11, 12, 13, 14, 15, 16, 17, 18, 19], [0, 1, 2, 3, 4, 5, 6, 7, 8, 9, 10, 11, 12, 13, 14, 15, 16, 17, 18, 19, 20], [0, 1, 2, 3, 4, 5, 6, 7, 8, 9, 10, 11, 12, 13, 14, 15, 16, 17, 18, 19, 20, 21], [0, 1, 2, 3, 4, 5, 6, 7, 8, 9, 10, 11, 12, 13, 14, 15, 16, 17, 18, 19, 20, 21, 22], [0, 1, 2, 3, 4, 5, 6, 7, 8, 9, 10, 11, 12, 13, 14, 15, 16, 17, 18, 19, 20, 21, 22, 23], [0, 1, 2, 3, 4, 5, 6, 7, 8, 9, 10, 11, 12, 13, 14, 15, 16, 17, 18, 19, 20, 21, 22, 23, 24], [0, 1, 2, 3, 4, 5, 6, 7, 8, 9, 10, 11, 12, 13, 14, 15, 16, 17, 18, 19, 20, 21, 22, 23, 24, 25], [0, 1, 2, 3, 4, 5, 6, 7, 8, 9, 10, 11, 12, 13, 14, 15, 16, 17, 18, 19, 20, 21, 22, 23, 24, 25, 26], [0, 1, 2, 3, 4, 5, 6, 7, 8, 9, 10, 11, 12, 13, 14, 15, 16, 17, 18, 19, 20, 21, 22, 23, 24, 25, 26, 27], [0, 1, 2, 3, 4, 5, 6, 7, 8, 9, 10, 11, 12, 13, 14, 15, 16, 17, 18, 19, 20, 21, 22, 23, 24, 25, 26, 27, 28], [0, 1, 2, 3, 4, 5, 6, 7, 8, 9, 10, 11, 12, 13, 14, 15, 16, 17, 18, 19, 20, 21, 22, 23, 24, 25, 26, 27, 28, 29], [0, 1, 2, 3, 4, 5, 6, 7, 8, 9, 10, 11, 12, 13, 14, 15, 16, 17, 18, 19, 20, 21, 22, 23, 24, 25, 26, 27, 28, 29, 30], [0, 1, 2, 3, 4, 5, 6, 7, 8, 9, 10, 11, 12, 13, 14, 15, 16, 17, 18, 19, 20, 21, 22, 23, 24, 25, 26, 27, 28, 29, 30, 31], [0, 1, 2, 3, 4, 5, 6, 7, 8, 9, 10, 11, 12, 13, 14, 15, 16, 17, 18, 19, 20, 21, 22, 23, 24, 25, 26, 27, 28, 29, 30, 31, 32], [0, 1, 2, 3, 4, 5, 6, 7, 8, 9, 10, 11, 12, 13, 14, 15, 16, 17, 18, 19, 20, 21, 22, 23, 24, 25, 26, 27, 28, 29, 30, 31, 32, 33], [0, 1, 2, 3, 4, 5, 6, 7, 8, 9, 10, 11, 12, 13, 14, 15, 16, 17, 18, 19, 20, 21, 22, 23, 24, 25, 26, 27, 28, 29, 30, 31, 32, 33, 34], [0, 1, 2, 3, 4, 5, 6, 7, 8, 9, 10, 11, 12, 13, 14, 15, 16, 17, 18, 19, 20, 21, 22, 23, 24, 25, 26, 27, 28, 29, 30, 31, 32, 33, 34, 35], [0, 1, 2, 3, 4, 5, 6, 7, 8, 9, 10, 11, 12, 13, 14, 15, 16, 17, 18, 19, 20, 21, 22, 23, 24, 25, 26, 27, 28, 29, 30, 31, 32, 33, 34, 35, 36], [0, 1, 2, 3, 4, 5, 6, 7, 8, 9, 10, 11, 12, 13, 14, 15, 16, 17, 18, 19, 20, 21, 22, 23, 24, 25, 26, 27, 28, 29, 30, 31, 32, 33, 34, 35, 36, 37], [0, 1, 2, 3, 4, 5, 6, 7, 8, 9, 10, 11, 12, 13, 14, 15, 16, 17, 18, 19, 20, 21, 22, 23, 24, 25, 26, 27, 28, 29, 30, 31, 32, 33, 34, 35, 36, 37, 38], [0, 1, 2, 3, 4, 5, 6, 7, 8, 9, 10, 11, 12, 13, 14, 15, 16, 17, 18, 19, 20, 21, 22, 23, 24, 25, 26, 27, 28, 29, 30, 31, 32, 33, 34, 35, 36, 37, 38, 39], [0, 1, 2, 3, 4, 5, 6, 7, 8, 9, 10, 11, 12, 13, 14, 15, 16, 17, 18, 19, 20, 21, 22, 23, 24, 25, 26, 27, 28, 29, 30, 31, 32, 33, 34, 35, 36, 37, 38, 39, 40], [0, 1, 2, 3, 4, 5, 6, 7, 8, 9, 10, 11, 12, 13, 14, 15, 16, 17, 18, 19, 20, 21, 22, 23, 24, 25, 26, 27, 28, 29, 30, 31, 32, 33, 34, 35, 36, 37, 38, 39, 40, 41]]
noncomputable def g_utf8_Valid_l1 : (List UInt8) → Option (((List UInt8)) ⊕ (((List UInt8))))
  | p0_1 => ((if (p0_1.length : Int) > (32 : Int) then (g_utf8_word_byte p0_1).bind fun r'9 => if 0 ≤ (8 : Int) ∧ (8 : Int) ≤ (p0_1.length : Int) then (g_utf8_word_byte (cut p0_1 (8 : Int) (p0_1.length : Int))).bind fun r'10 => if 0 ≤ (16 : Int) ∧ (16 : Int) ≤ (p0_1.length : Int) then (g_utf8_word_byte (cut p0_1 (16 : Int) (p0_1.length : Int))).bind fun r'11 => if 0 ≤ (24 : Int) ∧ (24 : Int) ≤ (p0_1.length : Int) then (g_utf8_word_byte (cut p0_1 (24 : Int) (p0_1.length : Int))).bind fun r'12 => some (decide (((r'9 ||| r'10) ||| (r'11 ||| r'12)) &&& (9259542123273814144 : UInt64) = (0 : UInt64))) else none else none else none else some false)).bind fun g'13 => (if g'13 = true then if 0 ≤ (32 : Int) ∧ (32 : Int) ≤ (p0_1.length : Int) then some (.inl (cut p0_1 (32 : Int) (p0_1.length : Int))) else none else some (.inr p0_1))
noncomputable def g_utf8_Valid_l0 : (List UInt8) → Option (((List UInt8)) ⊕ (Bool ⊕ Unit))
  | p0_0 => (if (p0_0.length : Int) > (0 : Int) then if 0 < p0_0.length then (if (lrd p0_0 0) < (128 : UInt8) then if 0 ≤ (1 : Int) ∧ (1 : Int) ≤ (p0_0.length : Int) then (((if ((cut p0_0 (1 : Int) (p0_0.length : Int)).length : Int) > (8 : Int) then (g_utf8_word_byte (cut p0_0 (1 : Int) (p0_0.length : Int))).bind fun r'3 => some (decide (r'3 &&& (9259542123273814144 : UInt64) = (0 : UInt64))) else some false)).bind fun g'4 => (if g'4 = true then if 0 ≤ (8 : Int) ∧ (8 : Int) ≤ ((cut p0_0 (1 : Int) (p0_0.length : Int)).length : Int) then letO ((cut (cut p0_0 (1 : Int) (p0_0.length : Int)) (8 : Int) ((cut p0_0 (1 : Int) (p0_0.length : Int)).length : Int))) fun p0'5 => ((if (p0'5.length : Int) > (16 : Int) then (g_utf8_word_byte p0'5).bind fun r'6 => if 0 ≤ (8 : Int) ∧ (8 : Int) ≤ (p0'5.length : Int) then (g_utf8_word_byte (cut p0'5 (8 : Int) (p0'5.length : Int))).bind fun r'7 => some (decide ((r'6 ||| r'7) &&& (9259542123273814144 : UInt64) = (0 : UInt64))) else none else some false)).bind fun g'8 => (if g'8 = true then if 0 ≤ (16 : Int) ∧ (16 : Int) ≤ (p0'5.length : Int) then (loopO (g_utf8_Valid_l1) (cut p0'5 (16 : Int) (p0'5.length : Int))).bind fun y'17 => some y'17 else none else some p0'5) else none else some (cut p0_0 (1 : Int) (p0_0.length : Int)))).bind fun j'1 => some (.inl j'1) else none else if 0 ≤ ((lrd p0_0 0).toNat : Int) ∧ ((lrd p0_0 0).toNat : Int) < (256 : Int) then letO ((((lrd tab1 (((lrd p0_0 0).toNat : Int).toNat)) &&& (7 : UInt8)).toNat : Int)) fun size5'18 => if 0 ≤ ((shr_u8 (lrd tab1 (((lrd p0_0 0).toNat : Int).toNat)) 4).toNat : Int) ∧ ((shr_u8 (lrd tab1 (((lrd p0_0 0).toNat : Int).toNat)) 4).toNat : Int) < (16 : Int) then letO ((lrd tab2 (((shr_u8 (lrd tab1 (((lrd p0_0 0).toNat : Int).toNat)) 4).toNat : Int).toNat))) fun accept6'19 => (if size5'18 = (2 : Int) then ((if (p0_0.length : Int) < (2 : Int) then some true else if 1 < p0_0.length then (if (lrd p0_0 1) < accept6'19.lo_ then some true else if 1 < p0_0.length then some (decide (accept6'19.hi_ < (lrd p0_0 1))) else none) else none)).bind fun g'20 => (if g'20 = true then some (.inr (.inl false)) else if 0 ≤ (2 : Int) ∧ (2 : Int) ≤ (p0_0.length : Int) then some (.inl (cut p0_0 (2 : Int) (p0_0.length : Int))) else none) else (if size5'18 = (3 : Int) then ((if (p0_0.length : Int) < (3 : Int) then some true else if 1 < p0_0.length then (if (lrd p0_0 1) < accept6'19.lo_ then some true else if 1 < p0_0.length then (if accept6'19.hi_ < (lrd p0_0 1) then some true else if 2 < p0_0.length then (if (lrd p0_0 2) < (128 : UInt8) then some true else if 2 < p0_0.length then some (decide ((191 : UInt8) < (lrd p0_0 2))) else none) else none) else none) else none)).bind fun g'21 => (if g'21 = true then some (.inr (.inl false)) else if 0 ≤ (3 : Int) ∧ (3 : Int) ≤ (p0_0.length : Int) then some (.inl (cut p0_0 (3 : Int) (p0_0.length : Int))) else none) else (if size5'18 = (4 : Int) then ((if (p0_0.length : Int) < (4 : Int) then some true else if 1 < p0_0.length then (if (lrd p0_0 1) < accept6'19.lo_ then some true else if 1 < p0_0.length then (if accept6'19.hi_ < (lrd p0_0 1) then some true else if 2 < p0_0.length then (if (lrd p0_0 2) < (128 : UInt8) then some true else if 2 < p0_0.length then (if (191 : UInt8) < (lrd p0_0 2) then some true else if 3 < p0_0.length then (if (lrd p0_0 3) < (128 : UInt8) then some true else if 3 < p0_0.length then some (decide ((191 : UInt8) < (lrd p0_0 3))) else none) else none) else none) else none) else none) else none)).bind fun g'22 => (if g'22 = true then some (.inr (.inl false)) else if 0 ≤ (4 : Int) ∧ (4 : Int) ≤ (p0_0.length : Int) then some (.inl (cut p0_0 (4 : Int) (p0_0.length : Int))) else none) else some (.inr (.inl false))))) else none else none) else none else some (.inr (.inr ())))
noncomputable def g_utf8_Valid (p0 : List UInt8) : Option (Bool) :=
  if 0 ≤ (p0.length : Int) ∧ (p0.length : Int) ≤ (p0.length : Int) then (loopO (g_utf8_Valid_l0) (cut p0 (0 : Int) (p0.length : Int))).bind fun o'26 => match o'26 with | .inl y'27 => some y'27 | .inr (y'28) => some true else none
set_option maxHeartbeats 4000000 in
set_option maxRecDepth 100000 in
theorem g_utf8_Valid_ac {p0 : List UInt8} {r : Bool} (H : g_utf8_Valid p0 = some r) : ACp Tryd.prog 87 [(AV.bytes p0)] (AV.bool r) := by
 refine ACp_of (AC2_of_body (vs := [.b r]) Tryd.func87 Y Y (Nat.le_of_ble_eq_true Y) Y ?_) (fun _ => .same _)
 unfold g_utf8_Valid at H
 refine as2 [(0, .y p0)] [] Y Y Y ?_
 refine sg [0] Y ?_
 refine rp Y Y (p_asg Y Y) ?_
 refine rz [(0, .y p0)] [] Y Y Y ?_
 refine sg [0, 1, 2, 3, 4, 5, 6] Y ?_
 refine rp Y Y (p_move Y Y) ?_
 refine rp Y Y (p_move Y Y) ?_
 refine rp Y Y (p_lenl Y Tryd.underlying33 Y Y) ?_
 refine rp Y Y (p_move Y Y) ?_
 refine rp Y Y (p_lenl Y Tryd.underlying33 Y Y) ?_
 refine chkK H fun h1 H => ?_
 refine rp Y Y (u_cutl (g := (fun l => bcells l)) (a := (0 : Int)) (b := (p0.length : Int)) Y Y Tryd.underlying33 in_5 Y bT_zero (bT_i (Int.le_trans (show 0 ≤ (0 : Int) ∧ (0 : Int) ≤ (p0.length : Int) ∧ (p0.length : Int) ≤ (p0.length : Int) from ⟨Int.le_refl _, h1.1, h1.2⟩).1 (show 0 ≤ (0 : Int) ∧ (0 : Int) ≤ (p0.length : Int) ∧ (p0.length : Int) ≤ (p0.length : Int) from ⟨Int.le_refl _, h1.1, h1.2⟩).2.1) Y) (.inr ⟨(bT_i (Int.le_trans (show 0 ≤ (0 : Int) ∧ (0 : Int) ≤ (p0.length : Int) ∧ (p0.length : Int) ≤ (p0.length : Int) from ⟨Int.le_refl _, h1.1, h1.2⟩).1 (show 0 ≤ (0 : Int) ∧ (0 : Int) ≤ (p0.length : Int) ∧ (p0.length : Int) ≤ (p0.length : Int) from ⟨Int.le_refl _, h1.1, h1.2⟩).2.1) Y), Y⟩) (show 0 ≤ (0 : Int) ∧ (0 : Int) ≤ (p0.length : Int) ∧ (p0.length : Int) ≤ (p0.length : Int) from ⟨Int.le_refl _, h1.1, h1.2⟩) (g_bytes)) ?_
 refine rp Y Y (p_asg Y Y) ?_
 refine rz [(0, .y (cut p0 (0 : Int) (p0.length : Int)))] [] Y Y Y ?_
 refine AW2_seq ?_
 refine AW2_block ?_
 refine as2 [(0, .y (cut p0 (0 : Int) (p0.length : Int)))] [] Y Y Y ?_
 refine bindK H fun o'26 h71 H => ?_
 refine AW2_loopO (fun a'23 : (List UInt8) => (⟨[(0, .y a'23)], [], 188⟩ : TS)) (fun (o : Bool ⊕ Unit) e s' => match o with | .inl y'24 => e = Go.Exit.ret ∧ ResAll Tryd.prog s' [ResultVar.tmp 2] [.b y'24] ∧ HFits s' [] | .inr (y'25) => e = Go.Exit.exit 0 ∧ s' = (⟨[], [], 188⟩ : TS)) h71 Y (fun p0_0 x hx => ?_) (fun e s' hs => ?_)
 ·clear H
  have H := hx
  clear hx
  unfold g_utf8_Valid_l0 at H
  refine AW2_seq ?_
  refine sg [0, 1, 2] Y ?_
  refine rp Y Y (p_move Y Y) ?_
  refine rp Y Y (p_lenl Y Tryd.underlying33 Y Y) ?_
  refine rp Y Y (p_bin Y Y Y Y) ?_
  refine rz [(0, .y p0_0), (15, .b (decide ((p0_0.length : Int) > (0 : Int))))] [] Y Y Y ?_
  refine AW2_if (p := (p0_0.length : Int) > (0 : Int)) Y (fun h2 => ?_) (fun h2 => ?_)
  ·replace H := ite_then h2 H
   refine as2 [(0, .y p0_0)] [] Y Y Y ?_
   refine AW2_skip ?_
   refine AW2_block ?_
   refine sg [0, 1, 2, 3] Y ?_
   refine rp Y Y (p_move Y Y) ?_
   refine chkK H fun h3 H => ?_
   refine rp Y Y (u_ixl Y Y Tryd.underlying33 in_5 Y Y Y h3 (lne h3)) ?_
   refine rp Y Y (u_ld Y Y Tryd.underlying5 Y Y (Sub.map default h3)) ?_
   refine rp Y Y (p_asg Y Y) ?_
   refine rz [(0, .y p0_0), (3, .p (AV.b8 (lrd p0_0 0)))] [] Y Y Y ?_
   refine AW2_seq ?_
   refine sg [0, 1] Y ?_
   refine rp Y Y (p_move Y Y) ?_
   refine rp Y Y (p_u8lt (a := (lrd p0_0 0)) (b := (128 : UInt8)) Y Y Y) ?_
   refine rz [(0, .y p0_0), (3, .p (AV.b8 (lrd p0_0 0))), (20, .b (decide ((lrd p0_0 0) < (128 : UInt8))))] [] Y Y Y ?_
   refine AW2_if (p := (lrd p0_0 0) < (128 : UInt8)) Y (fun h4 => ?_) (fun h4 => ?_)
   ·replace H := ite_then h4 H
    refine sg [0, 1, 2] Y ?_
    refine rp Y Y (p_move Y Y) ?_
    refine chkK H fun h5 H => ?_
    refine rp Y Y (u_cutl (g := (fun l => bcells l)) (a := (1 : Int)) (b := (p0_0.length : Int)) Y Y Tryd.underlying33 in_5 Y (bT_i (show 0 ≤ (1 : Int) ∧ (1 : Int) ≤ (p0_0.length : Int) ∧ (p0_0.length : Int) ≤ (p0_0.length : Int) from ⟨h5.1, h5.2, Int.le_refl _⟩).1 Y) (bT_len _) (.inl Y) (show 0 ≤ (1 : Int) ∧ (1 : Int) ≤ (p0_0.length : Int) ∧ (p0_0.length : Int) ≤ (p0_0.length : Int) from ⟨h5.1, h5.2, Int.le_refl _⟩) (g_bytes)) ?_
    refine rp Y Y (p_asg Y Y) ?_
    refine rz [(0, .y (cut p0_0 (1 : Int) (p0_0.length : Int)))] [] Y Y Y ?_
    refine AW2_seq ?_
    refine bindK H fun j'1 h6 H => ?_
    refine AW2_mid (⟨[(0, .y j'1)], [], 188⟩ : TS) ?_ ?_
    ·clear H
     have H := h6
     clear h6
     refine AW2_seq ?_
     refine bindK H fun g'4 h10 H => ?_
     refine AW2_mid (⟨[(0, .y (cut p0_0 (1 : Int) (p0_0.length : Int))), (31, .b g'4)], [], 188⟩ : TS) ?_ ?_
     ·clear H
      have H := h10
      clear h10
      refine AW2_reg [0, 1, 2, 3, 4, 5, 6, 7, 8] Y ?_
      refine rp Y Y (p_move Y Y) ?_
      refine rp Y Y (p_lenl Y Tryd.underlying33 Y Y) ?_
      refine rp Y Y (p_bin Y Y Y Y) ?_
      refine rp Y Y (p_move Y Y) ?_
      refine (Classical.em (((cut p0_0 (1 : Int) (p0_0.length : Int)).length : Int) > (8 : Int))).elim (fun h8 => ?_) (fun h8 => ?_)
      ·replace H := ite_then h8 H
       refine r_on Y Y Y Y (dT h8) Y (PureD.opD (p_move Y Y)) ?_
       refine bindK H fun r'3 h9 H => ?_
       refine r_on Y Y Y Y (dT h8) Y (PureD.opD (p_callp Y Y Y Tryd.func104 Y Y (g_utf8_word_byte_ac h9) ⟨Y, trivial⟩)) ?_
       refine r_on Y Y Y Y (dT h8) Y (PureD.opD (p_u64and (a := r'3) (b := (9259542123273814144 : UInt64)) Y Y Y)) ?_
       refine r_on Y Y Y Y (dT h8) Y (PureD.opD (p_u64eq (a := r'3 &&& (9259542123273814144 : UInt64)) (b := (0 : UInt64)) Y Y Y)) ?_
       refine rp Y Y (p_pkt Y Y (dT h8) (.same _)) ?_
       refine rs [(0, .y (cut p0_0 (1 : Int) (p0_0.length : Int))), (31, .b (decide (r'3 &&& (9259542123273814144 : UInt64) = (0 : UInt64))))] [] Y Y Y ?_
       have hz := some_elim H
       subst hz
       exact RunW_nil rfl
      ·replace H := ite_else h8 H
       iterate 4 (refine r_off rfl rfl rfl rfl (dF h8) rfl rfl ?_)
       refine rp Y Y (p_pkf Y Y (dF h8) (.same _)) ?_
       refine rs [(0, .y (cut p0_0 (1 : Int) (p0_0.length : Int))), (31, .b false)] [] Y Y Y ?_
       have hz := some_elim H
       subst hz
       exact RunW_nil rfl
     ·refine AW2_cond Y (fun h11 => ?_) (fun h11 => ?_)
      ·replace H := ite_then h11 H
       refine sg [0, 1, 2] Y ?_
       refine rp Y Y (p_move Y Y) ?_
       refine chkK H fun h12 H => ?_
       refine rp Y Y (u_cutl (g := (fun l => bcells l)) (a := (8 : Int)) (b := ((cut p0_0 (1 : Int) (p0_0.length : Int)).length : Int)) Y Y Tryd.underlying33 in_5 Y (bT_i (show 0 ≤ (8 : Int) ∧ (8 : Int) ≤ ((cut p0_0 (1 : Int) (p0_0.length : Int)).length : Int) ∧ ((cut p0_0 (1 : Int) (p0_0.length : Int)).length : Int) ≤ ((cut p0_0 (1 : Int) (p0_0.length : Int)).length : Int) from ⟨h12.1, h12.2, Int.le_refl _⟩).1 Y) (bT_len _) (.inl Y) (show 0 ≤ (8 : Int) ∧ (8 : Int) ≤ ((cut p0_0 (1 : Int) (p0_0.length : Int)).length : Int) ∧ ((cut p0_0 (1 : Int) (p0_0.length : Int)).length : Int) ≤ ((cut p0_0 (1 : Int) (p0_0.length : Int)).length : Int) from ⟨h12.1, h12.2, Int.le_refl _⟩) (g_bytes)) ?_
       refine rp Y Y (p_asg Y Y) ?_
       refine rz [(0, .y (cut (cut p0_0 (1 : Int) (p0_0.length : Int)) (8 : Int) ((cut p0_0 (1 : Int) (p0_0.length : Int)).length : Int)))] [] Y Y Y ?_
       refine gen1 (fun p0'5 => (⟨[(0, .y p0'5)], [], 188⟩ : TS)) H ?_
       intro p0'5 H
       refine AW2_seq ?_
       refine bindK H fun g'8 h17 H => ?_
       refine AW2_mid (⟨[(0, .y p0'5), (46, .b g'8)], [], 188⟩ : TS) ?_ ?_
       ·clear H
        have H := h17
        clear h17
        refine (Classical.em ((p0'5.length : Int) > (16 : Int))).elim (fun h13 => ?_) (fun h13 => ?_)
        ·replace H := ite_then h13 H
         refine bindK H fun r'6 h14 H => ?_
         refine chkK H fun h15 H => ?_
         refine bindK H fun r'7 h16 H => ?_
         have hz := some_elim H
         subst hz
         refine AW2_ghoQ ?_
         refine AW2_draw 8 [8, 9, 10, 11, 12] (fun k => ([.y p0'5, .i (p0'5.length : Int), .b (decide ((p0'5.length : Int) > (16 : Int))), .b (decide ((p0'5.length : Int) > (16 : Int))), .y p0'5, .p (AV.u64 r'6), .y p0'5, .y (cut p0'5 (8 : Int) (p0'5.length : Int))] : List TV).getD k TV.any) (fun k => g_utf8_Valid_r8.getD k []) [(0, none), (37, some 3), (39, some 5), (41, some 7)] [] (fun k => g_utf8_Valid_r8c.getD k []) mixed (by kernel_rfl) Y Y (a_op (g_x Y (x_p Y (p_move Y Y) Y)) (a_op (g_x Y (x_p Y (p_lenl Y Tryd.underlying33 Y Y) Y)) (a_op (g_x Y (x_p Y (p_bin Y Y Y Y) Y)) (a_op (g_x Y (x_p Y (p_move Y Y) Y)) (a_op (g_on Y Y Y (dT h13) Y (x_p Y (p_move Y Y) Y)) (a_op (g_on Y Y Y (dT h13) Y (x_p Y (p_callp Y Y Y Tryd.func104 Y Y (g_utf8_word_byte_ac h14) ⟨Y, trivial⟩) Y)) (a_op (g_on Y Y Y (dT h13) Y (x_p Y (p_move Y Y) Y)) (a_op (g_on Y Y Y (dT h13) Y (x_p Y (u_cutl (g := (fun l => bcells l)) (a := (8 : Int)) (b := (p0'5.length : Int)) Y Y Tryd.underlying33 in_5 Y (bT_i (show 0 ≤ (8 : Int) ∧ (8 : Int) ≤ (p0'5.length : Int) ∧ (p0'5.length : Int) ≤ (p0'5.length : Int) from ⟨h15.1, h15.2, Int.le_refl _⟩).1 Y) (bT_len _) (.inl Y) (show 0 ≤ (8 : Int) ∧ (8 : Int) ≤ (p0'5.length : Int) ∧ (p0'5.length : Int) ≤ (p0'5.length : Int) from ⟨h15.1, h15.2, Int.le_refl _⟩) (g_bytes)) Y)) (a_nil))))))))) ?_
         refine t_on Y Y Y Y (dT h13) Y (PureD.opD (p_callp Y Y Y Tryd.func104 Y Y (g_utf8_word_byte_ac h16) ⟨Y, trivial⟩)) ?_
         refine t_on Y Y Y Y (dT h13) Y (PureD.opD (p_u64or (a := r'6) (b := r'7) Y Y Y)) ?_
         refine t_on Y Y Y Y (dT h13) Y (PureD.opD (p_u64and (a := r'6 ||| r'7) (b := (9259542123273814144 : UInt64)) Y Y Y)) ?_
         refine t_on Y Y Y Y (dT h13) Y (PureD.opD (p_u64eq (a := (r'6 ||| r'7) &&& (9259542123273814144 : UInt64)) (b := (0 : UInt64)) Y Y Y)) ?_
         refine t_op Y Y (PureD.opD (p_pkt Y Y (dT h13) (.same _))) ?_
         refine t_gho (Gho_st (L := [(0, .y p0'5), (46, .b (decide ((r'6 ||| r'7) &&& (9259542123273814144 : UInt64) = (0 : UInt64))))]) (H := []) (N := 188) Y ⟨TLes.same _, TLes.same _, trivial⟩ trivial) ?_
         exact rfl
        ·replace H := ite_else h13 H
         have hz := some_elim H
         subst hz
         refine AW2_ghoQ ?_
         refine AW2_draw 8 [8, 9, 10, 11, 12] (fun k => ([.y p0'5, .i (p0'5.length : Int), .b (decide ((p0'5.length : Int) > (16 : Int))), .b (decide ((p0'5.length : Int) > (16 : Int))), .p (.tup []), .p (.tup []), .p (.tup []), .p (.tup [])] : List TV).getD k TV.any) (fun k => g_utf8_Valid_r8.getD k []) [(0, none), (37, some 3), (39, some 5), (41, some 7)] [] (fun k => g_utf8_Valid_r8c.getD k []) mixed (by kernel_rfl) Y Y (a_op (g_x Y (x_p Y (p_move Y Y) Y)) (a_op (g_x Y (x_p Y (p_lenl Y Tryd.underlying33 Y Y) Y)) (a_op (g_x Y (x_p Y (p_bin Y Y Y Y) Y)) (a_op (g_x Y (x_p Y (p_move Y Y) Y)) (a_op (g_off Y Y Y Y Y (dF h13) Y Y) (a_op (g_off Y Y Y Y Y (dF h13) Y Y) (a_op (g_off Y Y Y Y Y (dF h13) Y Y) (a_op (g_off Y Y Y Y Y (dF h13) Y Y) (a_nil))))))))) ?_
         refine t_off Y Y Y Y (dF h13) Y Y ?_
         refine t_off Y Y Y Y (dF h13) Y Y ?_
         refine t_off Y Y Y Y (dF h13) Y Y ?_
         refine t_off Y Y Y Y (dF h13) Y Y ?_
         refine t_op Y Y (PureD.opD (p_pkf Y Y (dF h13) (.same _))) ?_
         refine t_gho (Gho_st (L := [(0, .y p0'5), (46, .b false)]) (H := []) (N := 188) Y ⟨TLes.same _, TLes.same _, trivial⟩ trivial) ?_
         exact rfl
       ·refine AW2_cond Y (fun h18 => ?_) (fun h18 => ?_)
        ·replace H := ite_then h18 H
         refine sg [0, 1, 2] Y ?_
         refine rp Y Y (p_move Y Y) ?_
         refine chkK H fun h19 H => ?_
         refine rp Y Y (u_cutl (g := (fun l => bcells l)) (a := (16 : Int)) (b := (p0'5.length : Int)) Y Y Tryd.underlying33 in_5 Y (bT_i (show 0 ≤ (16 : Int) ∧ (16 : Int) ≤ (p0'5.length : Int) ∧ (p0'5.length : Int) ≤ (p0'5.length : Int) from ⟨h19.1, h19.2, Int.le_refl _⟩).1 Y) (bT_len _) (.inl Y) (show 0 ≤ (16 : Int) ∧ (16 : Int) ≤ (p0'5.length : Int) ∧ (p0'5.length : Int) ≤ (p0'5.length : Int) from ⟨h19.1, h19.2, Int.le_refl _⟩) (g_bytes)) ?_
         refine rp Y Y (p_asg Y Y) ?_
         refine rz [(0, .y (cut p0'5 (16 : Int) (p0'5.length : Int)))] [] Y Y Y ?_
         refine AW2_block ?_
         refine as2 [(0, .y (cut p0'5 (16 : Int) (p0'5.length : Int)))] [] Y Y Y ?_
         refine bindK H fun y'17 h31 H => ?_
         refine AW2_loopO (fun a'14 : (List UInt8) => (⟨[(0, .y a'14)], [], 188⟩ : TS)) (fun (y'15 : ((List UInt8))) e s' => e = Go.Exit.exit 2 ∧ s' = (⟨[(0, .y y'15)], [], 188⟩ : TS)) h31 Y (fun p0_1 x hx => ?_) (fun e s' hs => ?_)
         ·clear H
          have H := hx
          clear hx
          unfold g_utf8_Valid_l1 at H
          refine AW2_seq ?_
          refine AW2_seq ?_
          refine bindK H fun g'13 h28 H => ?_
          refine AW2_mid (⟨[(0, .y p0_1), (69, .b g'13)], [], 188⟩ : TS) ?_ ?_
          ·clear H
           have H := h28
           clear h28
           refine (Classical.em ((p0_1.length : Int) > (32 : Int))).elim (fun h20 => ?_) (fun h20 => ?_)
           ·replace H := ite_then h20 H
            refine bindK H fun r'9 h21 H => ?_
            refine chkK H fun h22 H => ?_
            refine bindK H fun r'10 h23 H => ?_
            refine chkK H fun h24 H => ?_
            refine bindK H fun r'11 h25 H => ?_
            refine chkK H fun h26 H => ?_
            refine bindK H fun r'12 h27 H => ?_
            have hz := some_elim H
            subst hz
            refine AW2_ghoQ ?_
            refine AW2_draw 17 [17, 18, 19, 20] (fun k => ([.y p0_1, .i (p0_1.length : Int), .b (decide ((p0_1.length : Int) > (32 : Int))), .b (decide ((p0_1.length : Int) > (32 : Int))), .y p0_1, .p (AV.u64 r'9), .y p0_1, .y (cut p0_1 (8 : Int) (p0_1.length : Int)), .p (AV.u64 r'10), .p (AV.u64 (r'9 ||| r'10)), .y p0_1, .y (cut p0_1 (16 : Int) (p0_1.length : Int)), .p (AV.u64 r'11), .y p0_1, .y (cut p0_1 (24 : Int) (p0_1.length : Int)), .p (AV.u64 r'12), .p (AV.u64 (r'11 ||| r'12))] : List TV).getD k TV.any) (fun k => g_utf8_Valid_r10.getD k []) [(0, none), (52, some 3), (58, some 9), (65, some 16)] [] (fun k => g_utf8_Valid_r10c.getD k []) mixed (by kernel_rfl) Y Y (a_op (g_x Y (x_p Y (p_move Y Y) Y)) (a_op (g_x Y (x_p Y (p_lenl Y Tryd.underlying33 Y Y) Y)) (a_op (g_x Y (x_p Y (p_bin Y Y Y Y) Y)) (a_op (g_x Y (x_p Y (p_move Y Y) Y)) (a_op (g_on Y Y Y (dT h20) Y (x_p Y (p_move Y Y) Y)) (a_op (g_on Y Y Y (dT h20) Y (x_p Y (p_callp Y Y Y Tryd.func104 Y Y (g_utf8_word_byte_ac h21) ⟨Y, trivial⟩) Y)) (a_op (g_on Y Y Y (dT h20) Y (x_p Y (p_move Y Y) Y)) (a_op (g_on Y Y Y (dT h20) Y (x_p Y (u_cutl (g := (fun l => bcells l)) (a := (8 : Int)) (b := (p0_1.length : Int)) Y Y Tryd.underlying33 in_5 Y (bT_i (show 0 ≤ (8 : Int) ∧ (8 : Int) ≤ (p0_1.length : Int) ∧ (p0_1.length : Int) ≤ (p0_1.length : Int) from ⟨h22.1, h22.2, Int.le_refl _⟩).1 Y) (bT_len _) (.inl Y) (show 0 ≤ (8 : Int) ∧ (8 : Int) ≤ (p0_1.length : Int) ∧ (p0_1.length : Int) ≤ (p0_1.length : Int) from ⟨h22.1, h22.2, Int.le_refl _⟩) (g_bytes)) Y)) (a_op (g_on Y Y Y (dT h20) Y (x_p Y (p_callp Y Y Y Tryd.func104 Y Y (g_utf8_word_byte_ac h23) ⟨Y, trivial⟩) Y)) (a_op (g_on Y Y Y (dT h20) Y (x_p Y (p_u64or (a := r'9) (b := r'10) Y Y Y) Y)) (a_op (g_on Y Y Y (dT h20) Y (x_p Y (p_move Y Y) Y)) (a_op (g_on Y Y Y (dT h20) Y (x_p Y (u_cutl (g := (fun l => bcells l)) (a := (16 : Int)) (b := (p0_1.length : Int)) Y Y Tryd.underlying33 in_5 Y (bT_i (show 0 ≤ (16 : Int) ∧ (16 : Int) ≤ (p0_1.length : Int) ∧ (p0_1.length : Int) ≤ (p0_1.length : Int) from ⟨h24.1, h24.2, Int.le_refl _⟩).1 Y) (bT_len _) (.inl Y) (show 0 ≤ (16 : Int) ∧ (16 : Int) ≤ (p0_1.length : Int) ∧ (p0_1.length : Int) ≤ (p0_1.length : Int) from ⟨h24.1, h24.2, Int.le_refl _⟩) (g_bytes)) Y)) (a_op (g_on Y Y Y (dT h20) Y (x_p Y (p_callp Y Y Y Tryd.func104 Y Y (g_utf8_word_byte_ac h25) ⟨Y, trivial⟩) Y)) (a_op (g_on Y Y Y (dT h20) Y (x_p Y (p_move Y Y) Y)) (a_op (g_on Y Y Y (dT h20) Y (x_p Y (u_cutl (g := (fun l => bcells l)) (a := (24 : Int)) (b := (p0_1.length : Int)) Y Y Tryd.underlying33 in_5 Y (bT_i (show 0 ≤ (24 : Int) ∧ (24 : Int) ≤ (p0_1.length : Int) ∧ (p0_1.length : Int) ≤ (p0_1.length : Int) from ⟨h26.1, h26.2, Int.le_refl _⟩).1 Y) (bT_len _) (.inl Y) (show 0 ≤ (24 : Int) ∧ (24 : Int) ≤ (p0_1.length : Int) ∧ (p0_1.length : Int) ≤ (p0_1.length : Int) from ⟨h26.1, h26.2, Int.le_refl _⟩) (g_bytes)) Y)) (a_op (g_on Y Y Y (dT h20) Y (x_p Y (p_callp Y Y Y Tryd.func104 Y Y (g_utf8_word_byte_ac h27) ⟨Y, trivial⟩) Y)) (a_op (g_on Y Y Y (dT h20) Y (x_p Y (p_u64or (a := r'11) (b := r'12) Y Y Y) Y)) (a_nil)))))))))))))))))) ?_
            refine t_on Y Y Y Y (dT h20) Y (PureD.opD (p_u64or (a := r'9 ||| r'10) (b := r'11 ||| r'12) Y Y Y)) ?_
            refine t_on Y Y Y Y (dT h20) Y (PureD.opD (p_u64and (a := (r'9 ||| r'10) ||| (r'11 ||| r'12)) (b := (9259542123273814144 : UInt64)) Y Y Y)) ?_
            refine t_on Y Y Y Y (dT h20) Y (PureD.opD (p_u64eq (a := ((r'9 ||| r'10) ||| (r'11 ||| r'12)) &&& (9259542123273814144 : UInt64)) (b := (0 : UInt64)) Y Y Y)) ?_
            refine t_op Y Y (PureD.opD (p_pkt Y Y (dT h20) (.same _))) ?_
            refine t_gho (Gho_st (L := [(0, .y p0_1), (69, .b (decide (((r'9 ||| r'10) ||| (r'11 ||| r'12)) &&& (9259542123273814144 : UInt64) = (0 : UInt64))))]) (H := []) (N := 188) Y ⟨TLes.same _, TLes.same _, trivial⟩ trivial) ?_
            exact rfl
           ·replace H := ite_else h20 H
            have hz := some_elim H
            subst hz
            refine AW2_ghoQ ?_
            refine AW2_draw 17 [17, 18, 19, 20] (fun k => ([.y p0_1, .i (p0_1.length : Int), .b (decide ((p0_1.length : Int) > (32 : Int))), .b (decide ((p0_1.length : Int) > (32 : Int))), .p (.tup []), .p (.tup []), .p (.tup []), .p (.tup []), .p (.tup []), .p (.tup []), .p (.tup []), .p (.tup []), .p (.tup []), .p (.tup []), .p (.tup []), .p (.tup []), .p (.tup [])] : List TV).getD k TV.any) (fun k => g_utf8_Valid_r10.getD k []) [(0, none), (52, some 3), (58, some 9), (65, some 16)] [] (fun k => g_utf8_Valid_r10c.getD k []) mixed (by kernel_rfl) Y Y (a_op (g_x Y (x_p Y (p_move Y Y) Y)) (a_op (g_x Y (x_p Y (p_lenl Y Tryd.underlying33 Y Y) Y)) (a_op (g_x Y (x_p Y (p_bin Y Y Y Y) Y)) (a_op (g_x Y (x_p Y (p_move Y Y) Y)) (a_op (g_off Y Y Y Y Y (dF h20) Y Y) (a_op (g_off Y Y Y Y Y (dF h20) Y Y) (a_op (g_off Y Y Y Y Y (dF h20) Y Y) (a_op (g_off Y Y Y Y Y (dF h20) Y Y) (a_op (g_off Y Y Y Y Y (dF h20) Y Y) (a_op (g_off Y Y Y Y Y (dF h20) Y Y) (a_op (g_off Y Y Y Y Y (dF h20) Y Y) (a_op (g_off Y Y Y Y Y (dF h20) Y Y) (a_op (g_off Y Y Y Y Y (dF h20) Y Y) (a_op (g_off Y Y Y Y Y (dF h20) Y Y) (a_op (g_off Y Y Y Y Y (dF h20) Y Y) (a_op (g_off Y Y Y Y Y (dF h20) Y Y) (a_op (g_off Y Y Y Y Y (dF h20) Y Y) (a_nil)))))))))))))))))) ?_
            refine t_off Y Y Y Y (dF h20) Y Y ?_
            refine t_off Y Y Y Y (dF h20) Y Y ?_
            refine t_off Y Y Y Y (dF h20) Y Y ?_
            refine t_op Y Y (PureD.opD (p_pkf Y Y (dF h20) (.same _))) ?_
            refine t_gho (Gho_st (L := [(0, .y p0_1), (69, .b false)]) (H := []) (N := 188) Y ⟨TLes.same _, TLes.same _, trivial⟩ trivial) ?_
            exact rfl
          ·refine AW2_cond Y (fun h29 => ?_) (fun h29 => ?_)
           ·replace H := ite_then h29 H
            refine as2 [(0, .y p0_1)] [] Y Y Y ?_
            refine AW2_skip ?_
            refine AW2_block ?_
            refine AW2_reg [0, 1, 2] Y ?_
            refine rp Y Y (p_move Y Y) ?_
            refine chkK H fun h30 H => ?_
            refine rp Y Y (u_cutl (g := (fun l => bcells l)) (a := (32 : Int)) (b := (p0_1.length : Int)) Y Y Tryd.underlying33 in_5 Y (bT_i (show 0 ≤ (32 : Int) ∧ (32 : Int) ≤ (p0_1.length : Int) ∧ (p0_1.length : Int) ≤ (p0_1.length : Int) from ⟨h30.1, h30.2, Int.le_refl _⟩).1 Y) (bT_len _) (.inl Y) (show 0 ≤ (32 : Int) ∧ (32 : Int) ≤ (p0_1.length : Int) ∧ (p0_1.length : Int) ≤ (p0_1.length : Int) from ⟨h30.1, h30.2, Int.le_refl _⟩) (g_bytes)) ?_
            refine rp Y Y (p_asg Y Y) ?_
            refine rz [(0, .y (cut p0_1 (32 : Int) (p0_1.length : Int)))] [] Y Y Y ?_
            have hz := some_elim H
            subst hz
            exact ⟨Y, Y⟩
           ·replace H := ite_else (ne_true h29) H
            refine as2 [(0, .y p0_1)] [] Y Y Y ?_
            refine AW2_exit ?_
            refine thenQ2_exit ?_
            have hz := some_elim H
            subst hz
            exact ⟨Y, Y⟩
         ·obtain ⟨rfl, rfl⟩ := hs
          refine ⟨by simp, ?_⟩
          refine blockQ2_exit ?_
          have hz := some_elim H
          subst hz
          exact rfl
        ·replace H := ite_else (ne_true h18) H
         refine as2 [(0, .y p0'5)] [] Y Y Y ?_
         refine AW2_skip ?_
         have hz := some_elim H
         subst hz
         exact rfl
      ·replace H := ite_else (ne_true h11) H
       refine as2 [(0, .y (cut p0_0 (1 : Int) (p0_0.length : Int)))] [] Y Y Y ?_
       refine AW2_skip ?_
       have hz := some_elim H
       subst hz
       exact rfl
    ·refine as2 [(0, .y j'1)] [] Y Y Y ?_
     refine AW2_exit ?_
     refine thenQ2_exit ?_
     refine blockQ2_exit ?_
     have hz := some_elim H
     subst hz
     exact ⟨Y, Y⟩
   ·replace H := ite_else h4 H
    refine as2 [(0, .y p0_0), (3, .p (AV.b8 (lrd p0_0 0)))] [] Y Y Y ?_
    refine AW2_skip ?_
    refine sg [0, 1, 2, 3] Y ?_
    refine rp Y Y (p_move Y Y) ?_
    refine chkK H fun h33 H => ?_
    refine rp Y Y (u_ixq Y Y Tryd.underlying88 in_5 tab1_rd Y (ixe h33) (ixn h33)) ?_
    refine rp Y Y (u_ld Y Y Tryd.underlying5 Y Y ((Sub.refl _).trans (Sub.map default (ixn h33)))) ?_
    refine rp Y Y (p_asg Y Y) ?_
    refine rz [(0, .y p0_0), (4, .p (AV.b8 (lrd tab1 (((lrd p0_0 0).toNat : Int).toNat))))] [] Y Y Y ?_
    refine sg [0, 1, 2, 3] Y ?_
    refine rp Y Y (p_move Y Y) ?_
    refine rp Y Y (p_u8and (a := (lrd tab1 (((lrd p0_0 0).toNat : Int).toNat))) (b := (7 : UInt8)) Y Y Y) ?_
    refine rp Y Y (p_ci Y Tryd.underlying5 Tryd.underlying3 Y (wrapu8i ((lrd tab1 (((lrd p0_0 0).toNat : Int).toNat)) &&& (7 : UInt8)))) ?_
    refine rp Y Y (p_asg Y Y) ?_
    refine rz [(0, .y p0_0), (4, .p (AV.b8 (lrd tab1 (((lrd p0_0 0).toNat : Int).toNat)))), (5, .i (((lrd tab1 (((lrd p0_0 0).toNat : Int).toNat)) &&& (7 : UInt8)).toNat : Int))] [] Y Y Y ?_
    refine gen1 (fun size5'18 => (⟨[(0, .y p0_0), (4, .p (AV.b8 (lrd tab1 (((lrd p0_0 0).toNat : Int).toNat)))), (5, .i size5'18)], [], 188⟩ : TS)) H ?_
    intro size5'18 H
    refine sg [0, 1, 2, 3, 4, 5] Y ?_
    refine rp Y Y (p_move Y Y) ?_
    refine rp Y Y (p_u8shr (n := 4) Y Y Y Y) ?_
    refine chkK H fun h34 H => ?_
    refine rp Y Y (u_ixq Y Y Tryd.underlying91 in_90 tab2_rd Y (ixe h34) (ixn h34)) ?_
    refine rp Y Y (u_lda Y Y Tryd.underlying90 Y in_90 Y (Nat.succ_pos _) ((Sub.refl _).trans (Sub.fm default (fun x => (Gutf8_acceptRange.len x)) (ixn h34))) (Gutf8_acceptRange.len (lrd tab2 (((shr_u8 (lrd tab1 (((lrd p0_0 0).toNat : Int).toNat)) 4).toNat : Int).toNat)))) ?_
    refine r_op Y Y (MakeD.opD (u_alloc 6 Y in_90 one_90 zc_90) Y Y Y Y) ?_
    refine r_op Y Y (u_st Y Y Y Y Y in_90 (Gutf8_acceptRange.len (lrd tab2 (((shr_u8 (lrd tab1 (((lrd p0_0 0).toNat : Int).toNat)) 4).toNat : Int).toNat))) (nl (Gutf8_acceptRange.len Gutf8_acceptRange.zero)) (Upd.refl ((Gutf8_acceptRange.len (lrd tab2 (((shr_u8 (lrd tab1 (((lrd p0_0 0).toNat : Int).toNat)) 4).toNat : Int).toNat))).trans (Gutf8_acceptRange.len Gutf8_acceptRange.zero).symm))) ?_
    refine rz [(0, .y p0_0), (5, .i size5'18), (6, .q 6 (0))] [(6, .pure (Gutf8_acceptRange.cs (lrd tab2 (((shr_u8 (lrd tab1 (((lrd p0_0 0).toNat : Int).toNat)) 4).toNat : Int).toNat))))] Y Y Y ?_
    refine gen1 (fun accept6'19 => (⟨[(0, .y p0_0), (5, .i size5'18), (6, .q 6 (0))], [(6, .pure (Gutf8_acceptRange.cs accept6'19))], 188⟩ : TS)) H ?_
    intro accept6'19 H
    refine sg [0] Y ?_
    refine rp Y Y (p_move Y Y) ?_
    refine rz [(0, .y p0_0), (6, .q 6 (0)), (82, .i size5'18)] [(6, .pure (Gutf8_acceptRange.cs accept6'19))] Y Y Y ?_
    refine AW2_block ?_
    refine sg [0, 1] Y ?_
    refine rp Y Y (p_ieq Y Y Y) ?_
    refine rp Y Y (p_asg Y Y) ?_
    refine rz [(0, .y p0_0), (6, .q 6 (0)), (82, .i size5'18), (83, .b (decide (size5'18 = (2 : Int))))] [(6, .pure (Gutf8_acceptRange.cs accept6'19))] Y Y Y ?_
    refine AW2_if (p := size5'18 = (2 : Int)) Y (fun h35 => ?_) (fun h35 => ?_)
    ·replace H := ite_then h35 H
     refine AW2_seq ?_
     refine AW2_seq ?_
     refine bindK H fun g'20 h40 H => ?_
     refine AW2_mid (⟨[(0, .y p0_0), (103, .b g'20)], [], 188⟩ : TS) ?_ ?_
     ·clear H
      have H := h40
      clear h40
      refine (Classical.em ((p0_0.length : Int) < (2 : Int))).elim (fun h36 => ?_) (fun h36 => ?_)
      ·replace H := ite_then h36 H
       have hz := some_elim H
       subst hz
       refine AW2_ghoQ ?_
       refine AW2_draw 17 [17, 18] (fun k => ([.y p0_0, .i (p0_0.length : Int), .b (decide ((p0_0.length : Int) < (2 : Int))), .b (decide ((p0_0.length : Int) < (2 : Int))), .p (.tup []), .p (.tup []), .p (.tup []), .p (.tup []), .p (.tup []), .p (.tup []), .b true, .b true, .p (.tup []), .p (.tup []), .p (.tup []), .p (.tup []), .p (.tup [])] : List TV).getD k TV.any) (fun k => g_utf8_Valid_r18.getD k []) [(0, none), (96, some 11), (98, some 13), (101, some 16)] [] (fun k => g_utf8_Valid_r18c.getD k []) mixed (by kernel_rfl) Y Y (a_op (g_x Y (x_p Y (p_move Y Y) Y)) (a_op (g_x Y (x_p Y (p_lenl Y Tryd.underlying33 Y Y) Y)) (a_op (g_x Y (x_p Y (p_bin Y Y Y Y) Y)) (a_op (g_x Y (x_p Y (p_move Y Y) Y)) (a_op (g_off Y Y Y Y Y (dT h36) Y Y) (a_op (g_off Y Y Y Y Y (dT h36) Y Y) (a_op (g_off Y Y Y Y Y (dT h36) Y Y) (a_op (g_off Y Y Y Y Y (dT h36) Y Y) (a_op (g_off Y Y Y Y Y (dT h36) Y Y) (a_op (g_off Y Y Y Y Y (dT h36) Y Y) (a_op (g_x Y (x_p Y (p_pkt Y Y (dT h36) (.same _)) Y)) (a_op (g_x Y (x_p Y (p_move Y Y) Y)) (a_op (g_off Y Y Y Y Y Y Y Y) (a_op (g_off Y Y Y Y Y Y Y Y) (a_op (g_off Y Y Y Y Y Y Y Y) (a_op (g_off Y Y Y Y Y Y Y Y) (a_op (g_off Y Y Y Y Y Y Y Y) (a_nil)))))))))))))))))) ?_
       refine t_off Y Y Y Y Y Y Y ?_
       refine t_op Y Y (PureD.opD (p_pkt Y Y Y (.same _))) ?_
       refine t_gho (Gho_st (L := [(0, .y p0_0), (103, .b true)]) (H := []) (N := 188) Y ⟨TLes.same _, TLes.same _, trivial⟩ trivial) ?_
       exact rfl
      ·replace H := ite_else h36 H
       refine chkK H fun h37 H => ?_
       refine (Classical.em ((lrd p0_0 1) < accept6'19.lo_)).elim (fun h38 => ?_) (fun h38 => ?_)
       ·replace H := ite_then h38 H
        have hz := some_elim H
        subst hz
        refine AW2_ghoQ ?_
        refine AW2_draw 17 [17, 18] (fun k => ([.y p0_0, .i (p0_0.length : Int), .b (decide ((p0_0.length : Int) < (2 : Int))), .b (decide ((p0_0.length : Int) < (2 : Int))), .y p0_0, .p (.rptr (bcells p0_0) (1 * 1)), .p (AV.b8 (lrd p0_0 1)), .q 6 (0 + 0), .p (AV.b8 accept6'19.lo_), .b (decide ((lrd p0_0 1) < accept6'19.lo_)), .b (decide ((lrd p0_0 1) < accept6'19.lo_)), .b (decide ((lrd p0_0 1) < accept6'19.lo_)), .p (.tup []), .p (.tup []), .p (.tup []), .p (.tup []), .p (.tup [])] : List TV).getD k TV.any) (fun k => g_utf8_Valid_r18.getD k []) [(0, none), (96, some 11), (98, some 13), (101, some 16)] [] (fun k => g_utf8_Valid_r18c.getD k []) mixed (by kernel_rfl) Y Y (a_op (g_x Y (x_p Y (p_move Y Y) Y)) (a_op (g_x Y (x_p Y (p_lenl Y Tryd.underlying33 Y Y) Y)) (a_op (g_x Y (x_p Y (p_bin Y Y Y Y) Y)) (a_op (g_x Y (x_p Y (p_move Y Y) Y)) (a_op (g_on Y Y Y (dF h36) Y (x_p Y (p_move Y Y) Y)) (a_op (g_on Y Y Y (dF h36) Y (x_p Y (u_ixl Y Y Tryd.underlying33 in_5 Y Y Y h37 (lne h37)) Y)) (a_op (g_on Y Y Y (dF h36) Y (x_p Y (u_ld Y Y Tryd.underlying5 Y Y (Sub.map default h37)) Y)) (a_op (g_on Y Y Y (dF h36) Y (x_p Y (u_fa Y Y Tryd.underlying90 Y in_5 nz Y Y (nl (Gutf8_acceptRange.len accept6'19))) Y)) (a_op (g_on Y Y Y (dF h36) Y (x_p Y (u_ld Y Y Tryd.underlying5 Y Y ((Sub.refl _).trans (Gutf8_acceptRange.sub0 accept6'19))) Y)) (a_op (g_on Y Y Y (dF h36) Y (x_p Y (p_u8lt (a := (lrd p0_0 1)) (b := accept6'19.lo_) Y Y Y) Y)) (a_op (g_x Y (x_p Y (p_pkf Y Y (dF h36) (.same _)) Y)) (a_op (g_x Y (x_p Y (p_move Y Y) Y)) (a_op (g_off Y Y Y Y Y (dT h38) Y Y) (a_op (g_off Y Y Y Y Y (dT h38) Y Y) (a_op (g_off Y Y Y Y Y (dT h38) Y Y) (a_op (g_off Y Y Y Y Y (dT h38) Y Y) (a_op (g_off Y Y Y Y Y (dT h38) Y Y) (a_nil)))))))))))))))))) ?_
        refine t_off Y Y Y Y (dT h38) Y Y ?_
        refine t_op Y Y (PureD.opD (p_pkt Y Y (dT h38) (.same _))) ?_
        refine t_gho (Gho_st (L := [(0, .y p0_0), (103, .b true)]) (H := []) (N := 188) Y ⟨TLes.same _, TLes.same _, trivial⟩ trivial) ?_
        exact rfl
       ·replace H := ite_else h38 H
        refine chkK H fun h39 H => ?_
        have hz := some_elim H
        subst hz
        refine AW2_ghoQ ?_
        refine AW2_draw 17 [17, 18] (fun k => ([.y p0_0, .i (p0_0.length : Int), .b (decide ((p0_0.length : Int) < (2 : Int))), .b (decide ((p0_0.length : Int) < (2 : Int))), .y p0_0, .p (.rptr (bcells p0_0) (1 * 1)), .p (AV.b8 (lrd p0_0 1)), .q 6 (0 + 0), .p (AV.b8 accept6'19.lo_), .b (decide ((lrd p0_0 1) < accept6'19.lo_)), .b (decide ((lrd p0_0 1) < accept6'19.lo_)), .b (decide ((lrd p0_0 1) < accept6'19.lo_)), .q 6 (0 + 1), .p (AV.b8 accept6'19.hi_), .y p0_0, .p (.rptr (bcells p0_0) (1 * 1)), .p (AV.b8 (lrd p0_0 1))] : List TV).getD k TV.any) (fun k => g_utf8_Valid_r18.getD k []) [(0, none), (96, some 11), (98, some 13), (101, some 16)] [] (fun k => g_utf8_Valid_r18c.getD k []) mixed (by kernel_rfl) Y Y (a_op (g_x Y (x_p Y (p_move Y Y) Y)) (a_op (g_x Y (x_p Y (p_lenl Y Tryd.underlying33 Y Y) Y)) (a_op (g_x Y (x_p Y (p_bin Y Y Y Y) Y)) (a_op (g_x Y (x_p Y (p_move Y Y) Y)) (a_op (g_on Y Y Y (dF h36) Y (x_p Y (p_move Y Y) Y)) (a_op (g_on Y Y Y (dF h36) Y (x_p Y (u_ixl Y Y Tryd.underlying33 in_5 Y Y Y h37 (lne h37)) Y)) (a_op (g_on Y Y Y (dF h36) Y (x_p Y (u_ld Y Y Tryd.underlying5 Y Y (Sub.map default h37)) Y)) (a_op (g_on Y Y Y (dF h36) Y (x_p Y (u_fa Y Y Tryd.underlying90 Y in_5 nz Y Y (nl (Gutf8_acceptRange.len accept6'19))) Y)) (a_op (g_on Y Y Y (dF h36) Y (x_p Y (u_ld Y Y Tryd.underlying5 Y Y ((Sub.refl _).trans (Gutf8_acceptRange.sub0 accept6'19))) Y)) (a_op (g_on Y Y Y (dF h36) Y (x_p Y (p_u8lt (a := (lrd p0_0 1)) (b := accept6'19.lo_) Y Y Y) Y)) (a_op (g_x Y (x_p Y (p_pkf Y Y (dF h36) (.same _)) Y)) (a_op (g_x Y (x_p Y (p_move Y Y) Y)) (a_op (g_on Y Y Y (dF h38) Y (x_p Y (u_fa Y Y Tryd.underlying90 Y in_5 nz Y Y (nl (Gutf8_acceptRange.len accept6'19))) Y)) (a_op (g_on Y Y Y (dF h38) Y (x_p Y (u_ld Y Y Tryd.underlying5 Y Y ((Sub.refl _).trans (Gutf8_acceptRange.sub1 accept6'19))) Y)) (a_op (g_on Y Y Y (dF h38) Y (x_p Y (p_move Y Y) Y)) (a_op (g_on Y Y Y (dF h38) Y (x_p Y (u_ixl Y Y Tryd.underlying33 in_5 Y Y Y h39 (lne h39)) Y)) (a_op (g_on Y Y Y (dF h38) Y (x_p Y (u_ld Y Y Tryd.underlying5 Y Y (Sub.map default h39)) Y)) (a_nil)))))))))))))))))) ?_
        refine t_on Y Y Y Y (dF h38) Y (PureD.opD (p_u8lt (a := accept6'19.hi_) (b := (lrd p0_0 1)) Y Y Y)) ?_
        refine t_op Y Y (PureD.opD (p_pkf Y Y (dF h38) (.same _))) ?_
        refine t_gho (Gho_st (L := [(0, .y p0_0), (103, .b (decide (accept6'19.hi_ < (lrd p0_0 1))))]) (H := []) (N := 188) Y ⟨TLes.same _, TLes.same _, trivial⟩ trivial) ?_
        exact rfl
     ·refine AW2_cond Y (fun h41 => ?_) (fun h41 => ?_)
      ·replace H := ite_then h41 H
       refine sg [0] Y ?_
       refine rp Y Y (p_asg Y Y) ?_
       refine rz [(2, .b false)] [] Y Y Y ?_
       refine AW2_ret ?_
       have hz := some_elim H
       subst hz
       exact ⟨Y, ⟨res_tmp (.same _), trivial⟩, trivial⟩
      ·replace H := ite_else (ne_true h41) H
       refine as2 [(0, .y p0_0)] [] Y Y Y ?_
       refine AW2_skip ?_
       refine AW2_reg [0, 1, 2] Y ?_
       refine rp Y Y (p_move Y Y) ?_
       refine chkK H fun h42 H => ?_
       refine rp Y Y (u_cutl (g := (fun l => bcells l)) (a := (2 : Int)) (b := (p0_0.length : Int)) Y Y Tryd.underlying33 in_5 Y (bT_i (show 0 ≤ (2 : Int) ∧ (2 : Int) ≤ (p0_0.length : Int) ∧ (p0_0.length : Int) ≤ (p0_0.length : Int) from ⟨h42.1, h42.2, Int.le_refl _⟩).1 Y) (bT_len _) (.inl Y) (show 0 ≤ (2 : Int) ∧ (2 : Int) ≤ (p0_0.length : Int) ∧ (p0_0.length : Int) ≤ (p0_0.length : Int) from ⟨h42.1, h42.2, Int.le_refl _⟩) (g_bytes)) ?_
       refine rp Y Y (p_asg Y Y) ?_
       refine rz [(0, .y (cut p0_0 (2 : Int) (p0_0.length : Int)))] [] Y Y Y ?_
       have hz := some_elim H
       subst hz
       exact ⟨Y, Y⟩
    ·replace H := ite_else h35 H
     refine sg [0, 1] Y ?_
     refine rp Y Y (p_ieq Y Y Y) ?_
     refine rp Y Y (p_asg Y Y) ?_
     refine rz [(0, .y p0_0), (6, .q 6 (0)), (82, .i size5'18), (106, .b (decide (size5'18 = (3 : Int))))] [(6, .pure (Gutf8_acceptRange.cs accept6'19))] Y Y Y ?_
     refine AW2_if (p := size5'18 = (3 : Int)) Y (fun h43 => ?_) (fun h43 => ?_)
     ·replace H := ite_then h43 H
      refine AW2_seq ?_
      refine AW2_seq ?_
      refine bindK H fun g'21 h52 H => ?_
      refine AW2_mid (⟨[(0, .y p0_0), (138, .b g'21)], [], 188⟩ : TS) ?_ ?_
      ·clear H
       have H := h52
       clear h52
       refine (Classical.em ((p0_0.length : Int) < (3 : Int))).elim (fun h44 => ?_) (fun h44 => ?_)
       ·replace H := ite_then h44 H
        have hz := some_elim H
        subst hz
        refine AW2_ghoQ ?_
        refine AW2_draw 17 [17, 18, 19, 20, 21, 22, 23, 24, 25, 26, 27, 28, 29, 30] (fun k => ([.y p0_0, .i (p0_0.length : Int), .b (decide ((p0_0.length : Int) < (3 : Int))), .b (decide ((p0_0.length : Int) < (3 : Int))), .p (.tup []), .p (.tup []), .p (.tup []), .p (.tup []), .p (.tup []), .p (.tup []), .b true, .b true, .p (.tup []), .p (.tup []), .p (.tup []), .p (.tup []), .p (.tup [])] : List TV).getD k TV.any) (fun k => g_utf8_Valid_r22.getD k []) [(0, none), (119, some 11), (121, some 13), (124, some 16)] [] (fun k => g_utf8_Valid_r22c.getD k []) mixed (by kernel_rfl) Y Y (a_op (g_x Y (x_p Y (p_move Y Y) Y)) (a_op (g_x Y (x_p Y (p_lenl Y Tryd.underlying33 Y Y) Y)) (a_op (g_x Y (x_p Y (p_bin Y Y Y Y) Y)) (a_op (g_x Y (x_p Y (p_move Y Y) Y)) (a_op (g_off Y Y Y Y Y (dT h44) Y Y) (a_op (g_off Y Y Y Y Y (dT h44) Y Y) (a_op (g_off Y Y Y Y Y (dT h44) Y Y) (a_op (g_off Y Y Y Y Y (dT h44) Y Y) (a_op (g_off Y Y Y Y Y (dT h44) Y Y) (a_op (g_off Y Y Y Y Y (dT h44) Y Y) (a_op (g_x Y (x_p Y (p_pkt Y Y (dT h44) (.same _)) Y)) (a_op (g_x Y (x_p Y (p_move Y Y) Y)) (a_op (g_off Y Y Y Y Y Y Y Y) (a_op (g_off Y Y Y Y Y Y Y Y) (a_op (g_off Y Y Y Y Y Y Y Y) (a_op (g_off Y Y Y Y Y Y Y Y) (a_op (g_off Y Y Y Y Y Y Y Y) (a_nil)))))))))))))))))) ?_
        refine t_off Y Y Y Y Y Y Y ?_
        refine t_op Y Y (PureD.opD (p_pkt Y Y Y (.same _))) ?_
        refine t_op Y Y (PureD.opD (p_move Y Y)) ?_
        refine t_off Y Y Y Y Y Y Y ?_
        refine t_off Y Y Y Y Y Y Y ?_
        refine t_off Y Y Y Y Y Y Y ?_
        refine t_off Y Y Y Y Y Y Y ?_
        refine t_op Y Y (PureD.opD (p_pkt Y Y Y (.same _))) ?_
        refine t_op Y Y (PureD.opD (p_move Y Y)) ?_
        refine t_off Y Y Y Y Y Y Y ?_
        refine t_off Y Y Y Y Y Y Y ?_
        refine t_off Y Y Y Y Y Y Y ?_
        refine t_off Y Y Y Y Y Y Y ?_
        refine t_op Y Y (PureD.opD (p_pkt Y Y Y (.same _))) ?_
        refine t_gho (Gho_st (L := [(0, .y p0_0), (138, .b true)]) (H := []) (N := 188) Y ⟨TLes.same _, TLes.same _, trivial⟩ trivial) ?_
        exact rfl
       ·replace H := ite_else h44 H
        refine chkK H fun h45 H => ?_
        refine (Classical.em ((lrd p0_0 1) < accept6'19.lo_)).elim (fun h46 => ?_) (fun h46 => ?_)
        ·replace H := ite_then h46 H
         have hz := some_elim H
         subst hz
         refine AW2_ghoQ ?_
         refine AW2_draw 17 [17, 18, 19, 20, 21, 22, 23, 24, 25, 26, 27, 28, 29, 30] (fun k => ([.y p0_0, .i (p0_0.length : Int), .b (decide ((p0_0.length : Int) < (3 : Int))), .b (decide ((p0_0.length : Int) < (3 : Int))), .y p0_0, .p (.rptr (bcells p0_0) (1 * 1)), .p (AV.b8 (lrd p0_0 1)), .q 6 (0 + 0), .p (AV.b8 accept6'19.lo_), .b (decide ((lrd p0_0 1) < accept6'19.lo_)), .b (decide ((lrd p0_0 1) < accept6'19.lo_)), .b (decide ((lrd p0_0 1) < accept6'19.lo_)), .p (.tup []), .p (.tup []), .p (.tup []), .p (.tup []), .p (.tup [])] : List TV).getD k TV.any) (fun k => g_utf8_Valid_r22.getD k []) [(0, none), (119, some 11), (121, some 13), (124, some 16)] [] (fun k => g_utf8_Valid_r22c.getD k []) mixed (by kernel_rfl) Y Y (a_op (g_x Y (x_p Y (p_move Y Y) Y)) (a_op (g_x Y (x_p Y (p_lenl Y Tryd.underlying33 Y Y) Y)) (a_op (g_x Y (x_p Y (p_bin Y Y Y Y) Y)) (a_op (g_x Y (x_p Y (p_move Y Y) Y)) (a_op (g_on Y Y Y (dF h44) Y (x_p Y (p_move Y Y) Y)) (a_op (g_on Y Y Y (dF h44) Y (x_p Y (u_ixl Y Y Tryd.underlying33 in_5 Y Y Y h45 (lne h45)) Y)) (a_op (g_on Y Y Y (dF h44) Y (x_p Y (u_ld Y Y Tryd.underlying5 Y Y (Sub.map default h45)) Y)) (a_op (g_on Y Y Y (dF h44) Y (x_p Y (u_fa Y Y Tryd.underlying90 Y in_5 nz Y Y (nl (Gutf8_acceptRange.len accept6'19))) Y)) (a_op (g_on Y Y Y (dF h44) Y (x_p Y (u_ld Y Y Tryd.underlying5 Y Y ((Sub.refl _).trans (Gutf8_acceptRange.sub0 accept6'19))) Y)) (a_op (g_on Y Y Y (dF h44) Y (x_p Y (p_u8lt (a := (lrd p0_0 1)) (b := accept6'19.lo_) Y Y Y) Y)) (a_op (g_x Y (x_p Y (p_pkf Y Y (dF h44) (.same _)) Y)) (a_op (g_x Y (x_p Y (p_move Y Y) Y)) (a_op (g_off Y Y Y Y Y (dT h46) Y Y) (a_op (g_off Y Y Y Y Y (dT h46) Y Y) (a_op (g_off Y Y Y Y Y (dT h46) Y Y) (a_op (g_off Y Y Y Y Y (dT h46) Y Y) (a_op (g_off Y Y Y Y Y (dT h46) Y Y) (a_nil)))))))))))))))))) ?_
         refine t_off Y Y Y Y (dT h46) Y Y ?_
         refine t_op Y Y (PureD.opD (p_pkt Y Y (dT h46) (.same _))) ?_
         refine t_op Y Y (PureD.opD (p_move Y Y)) ?_
         refine t_off Y Y Y Y Y Y Y ?_
         refine t_off Y Y Y Y Y Y Y ?_
         refine t_off Y Y Y Y Y Y Y ?_
         refine t_off Y Y Y Y Y Y Y ?_
         refine t_op Y Y (PureD.opD (p_pkt Y Y Y (.same _))) ?_
         refine t_op Y Y (PureD.opD (p_move Y Y)) ?_
         refine t_off Y Y Y Y Y Y Y ?_
         refine t_off Y Y Y Y Y Y Y ?_
         refine t_off Y Y Y Y Y Y Y ?_
         refine t_off Y Y Y Y Y Y Y ?_
         refine t_op Y Y (PureD.opD (p_pkt Y Y Y (.same _))) ?_
         refine t_gho (Gho_st (L := [(0, .y p0_0), (138, .b true)]) (H := []) (N := 188) Y ⟨TLes.same _, TLes.same _, trivial⟩ trivial) ?_
         exact rfl
        ·replace H := ite_else h46 H
         refine chkK H fun h47 H => ?_
         refine (Classical.em (accept6'19.hi_ < (lrd p0_0 1))).elim (fun h48 => ?_) (fun h48 => ?_)
         ·replace H := ite_then h48 H
          have hz := some_elim H
          subst hz
          refine AW2_ghoQ ?_
          refine AW2_draw 17 [17, 18, 19, 20, 21, 22, 23, 24, 25, 26, 27, 28, 29, 30] (fun k => ([.y p0_0, .i (p0_0.length : Int), .b (decide ((p0_0.length : Int) < (3 : Int))), .b (decide ((p0_0.length : Int) < (3 : Int))), .y p0_0, .p (.rptr (bcells p0_0) (1 * 1)), .p (AV.b8 (lrd p0_0 1)), .q 6 (0 + 0), .p (AV.b8 accept6'19.lo_), .b (decide ((lrd p0_0 1) < accept6'19.lo_)), .b (decide ((lrd p0_0 1) < accept6'19.lo_)), .b (decide ((lrd p0_0 1) < accept6'19.lo_)), .q 6 (0 + 1), .p (AV.b8 accept6'19.hi_), .y p0_0, .p (.rptr (bcells p0_0) (1 * 1)), .p (AV.b8 (lrd p0_0 1))] : List TV).getD k TV.any) (fun k => g_utf8_Valid_r22.getD k []) [(0, none), (119, some 11), (121, some 13), (124, some 16)] [] (fun k => g_utf8_Valid_r22c.getD k []) mixed (by kernel_rfl) Y Y (a_op (g_x Y (x_p Y (p_move Y Y) Y)) (a_op (g_x Y (x_p Y (p_lenl Y Tryd.underlying33 Y Y) Y)) (a_op (g_x Y (x_p Y (p_bin Y Y Y Y) Y)) (a_op (g_x Y (x_p Y (p_move Y Y) Y)) (a_op (g_on Y Y Y (dF h44) Y (x_p Y (p_move Y Y) Y)) (a_op (g_on Y Y Y (dF h44) Y (x_p Y (u_ixl Y Y Tryd.underlying33 in_5 Y Y Y h45 (lne h45)) Y)) (a_op (g_on Y Y Y (dF h44) Y (x_p Y (u_ld Y Y Tryd.underlying5 Y Y (Sub.map default h45)) Y)) (a_op (g_on Y Y Y (dF h44) Y (x_p Y (u_fa Y Y Tryd.underlying90 Y in_5 nz Y Y (nl (Gutf8_acceptRange.len accept6'19))) Y)) (a_op (g_on Y Y Y (dF h44) Y (x_p Y (u_ld Y Y Tryd.underlying5 Y Y ((Sub.refl _).trans (Gutf8_acceptRange.sub0 accept6'19))) Y)) (a_op (g_on Y Y Y (dF h44) Y (x_p Y (p_u8lt (a := (lrd p0_0 1)) (b := accept6'19.lo_) Y Y Y) Y)) (a_op (g_x Y (x_p Y (p_pkf Y Y (dF h44) (.same _)) Y)) (a_op (g_x Y (x_p Y (p_move Y Y) Y)) (a_op (g_on Y Y Y (dF h46) Y (x_p Y (u_fa Y Y Tryd.underlying90 Y in_5 nz Y Y (nl (Gutf8_acceptRange.len accept6'19))) Y)) (a_op (g_on Y Y Y (dF h46) Y (x_p Y (u_ld Y Y Tryd.underlying5 Y Y ((Sub.refl _).trans (Gutf8_acceptRange.sub1 accept6'19))) Y)) (a_op (g_on Y Y Y (dF h46) Y (x_p Y (p_move Y Y) Y)) (a_op (g_on Y Y Y (dF h46) Y (x_p Y (u_ixl Y Y Tryd.underlying33 in_5 Y Y Y h47 (lne h47)) Y)) (a_op (g_on Y Y Y (dF h46) Y (x_p Y (u_ld Y Y Tryd.underlying5 Y Y (Sub.map default h47)) Y)) (a_nil)))))))))))))))))) ?_
          refine t_on Y Y Y Y (dF h46) Y (PureD.opD (p_u8lt (a := accept6'19.hi_) (b := (lrd p0_0 1)) Y Y Y)) ?_
          refine t_op Y Y (PureD.opD (p_pkf Y Y (dF h46) (.same _))) ?_
          refine t_op Y Y (PureD.opD (p_move Y Y)) ?_
          refine t_off Y Y Y Y (dT h48) Y Y ?_
          refine t_off Y Y Y Y (dT h48) Y Y ?_
          refine t_off Y Y Y Y (dT h48) Y Y ?_
          refine t_off Y Y Y Y (dT h48) Y Y ?_
          refine t_op Y Y (PureD.opD (p_pkt Y Y (dT h48) (.same _))) ?_
          refine t_op Y Y (PureD.opD (p_move Y Y)) ?_
          refine t_off Y Y Y Y Y Y Y ?_
          refine t_off Y Y Y Y Y Y Y ?_
          refine t_off Y Y Y Y Y Y Y ?_
          refine t_off Y Y Y Y Y Y Y ?_
          refine t_op Y Y (PureD.opD (p_pkt Y Y Y (.same _))) ?_
          refine t_gho (Gho_st (L := [(0, .y p0_0), (138, .b true)]) (H := []) (N := 188) Y ⟨TLes.same _, TLes.same _, trivial⟩ trivial) ?_
          exact rfl
         ·replace H := ite_else h48 H
          refine chkK H fun h49 H => ?_
          refine (Classical.em ((lrd p0_0 2) < (128 : UInt8))).elim (fun h50 => ?_) (fun h50 => ?_)
          ·replace H := ite_then h50 H
           have hz := some_elim H
           subst hz
           refine AW2_ghoQ ?_
           refine AW2_draw 17 [17, 18, 19, 20, 21, 22, 23, 24, 25, 26, 27, 28, 29, 30] (fun k => ([.y p0_0, .i (p0_0.length : Int), .b (decide ((p0_0.length : Int) < (3 : Int))), .b (decide ((p0_0.length : Int) < (3 : Int))), .y p0_0, .p (.rptr (bcells p0_0) (1 * 1)), .p (AV.b8 (lrd p0_0 1)), .q 6 (0 + 0), .p (AV.b8 accept6'19.lo_), .b (decide ((lrd p0_0 1) < accept6'19.lo_)), .b (decide ((lrd p0_0 1) < accept6'19.lo_)), .b (decide ((lrd p0_0 1) < accept6'19.lo_)), .q 6 (0 + 1), .p (AV.b8 accept6'19.hi_), .y p0_0, .p (.rptr (bcells p0_0) (1 * 1)), .p (AV.b8 (lrd p0_0 1))] : List TV).getD k TV.any) (fun k => g_utf8_Valid_r22.getD k []) [(0, none), (119, some 11), (121, some 13), (124, some 16)] [] (fun k => g_utf8_Valid_r22c.getD k []) mixed (by kernel_rfl) Y Y (a_op (g_x Y (x_p Y (p_move Y Y) Y)) (a_op (g_x Y (x_p Y (p_lenl Y Tryd.underlying33 Y Y) Y)) (a_op (g_x Y (x_p Y (p_bin Y Y Y Y) Y)) (a_op (g_x Y (x_p Y (p_move Y Y) Y)) (a_op (g_on Y Y Y (dF h44) Y (x_p Y (p_move Y Y) Y)) (a_op (g_on Y Y Y (dF h44) Y (x_p Y (u_ixl Y Y Tryd.underlying33 in_5 Y Y Y h45 (lne h45)) Y)) (a_op (g_on Y Y Y (dF h44) Y (x_p Y (u_ld Y Y Tryd.underlying5 Y Y (Sub.map default h45)) Y)) (a_op (g_on Y Y Y (dF h44) Y (x_p Y (u_fa Y Y Tryd.underlying90 Y in_5 nz Y Y (nl (Gutf8_acceptRange.len accept6'19))) Y)) (a_op (g_on Y Y Y (dF h44) Y (x_p Y (u_ld Y Y Tryd.underlying5 Y Y ((Sub.refl _).trans (Gutf8_acceptRange.sub0 accept6'19))) Y)) (a_op (g_on Y Y Y (dF h44) Y (x_p Y (p_u8lt (a := (lrd p0_0 1)) (b := accept6'19.lo_) Y Y Y) Y)) (a_op (g_x Y (x_p Y (p_pkf Y Y (dF h44) (.same _)) Y)) (a_op (g_x Y (x_p Y (p_move Y Y) Y)) (a_op (g_on Y Y Y (dF h46) Y (x_p Y (u_fa Y Y Tryd.underlying90 Y in_5 nz Y Y (nl (Gutf8_acceptRange.len accept6'19))) Y)) (a_op (g_on Y Y Y (dF h46) Y (x_p Y (u_ld Y Y Tryd.underlying5 Y Y ((Sub.refl _).trans (Gutf8_acceptRange.sub1 accept6'19))) Y)) (a_op (g_on Y Y Y (dF h46) Y (x_p Y (p_move Y Y) Y)) (a_op (g_on Y Y Y (dF h46) Y (x_p Y (u_ixl Y Y Tryd.underlying33 in_5 Y Y Y h47 (lne h47)) Y)) (a_op (g_on Y Y Y (dF h46) Y (x_p Y (u_ld Y Y Tryd.underlying5 Y Y (Sub.map default h47)) Y)) (a_nil)))))))))))))))))) ?_
           refine t_on Y Y Y Y (dF h46) Y (PureD.opD (p_u8lt (a := accept6'19.hi_) (b := (lrd p0_0 1)) Y Y Y)) ?_
           refine t_op Y Y (PureD.opD (p_pkf Y Y (dF h46) (.same _))) ?_
           refine t_op Y Y (PureD.opD (p_move Y Y)) ?_
           refine t_on Y Y Y Y (dF h48) Y (PureD.opD (p_move Y Y)) ?_
           refine t_on Y Y Y Y (dF h48) Y (PureD.opD (u_ixl Y Y Tryd.underlying33 in_5 Y Y Y h49 (lne h49))) ?_
           refine t_on Y Y Y Y (dF h48) Y (PureD.opD (u_ld Y Y Tryd.underlying5 Y Y (Sub.map default h49))) ?_
           refine t_on Y Y Y Y (dF h48) Y (PureD.opD (p_u8lt (a := (lrd p0_0 2)) (b := (128 : UInt8)) Y Y Y)) ?_
           refine t_op Y Y (PureD.opD (p_pkf Y Y (dF h48) (.same _))) ?_
           refine t_op Y Y (PureD.opD (p_move Y Y)) ?_
           refine t_off Y Y Y Y (dT h50) Y Y ?_
           refine t_off Y Y Y Y (dT h50) Y Y ?_
           refine t_off Y Y Y Y (dT h50) Y Y ?_
           refine t_off Y Y Y Y (dT h50) Y Y ?_
           refine t_op Y Y (PureD.opD (p_pkt Y Y (dT h50) (.same _))) ?_
           refine t_gho (Gho_st (L := [(0, .y p0_0), (138, .b true)]) (H := []) (N := 188) Y ⟨TLes.same _, TLes.same _, trivial⟩ trivial) ?_
           exact rfl
          ·replace H := ite_else h50 H
           refine chkK H fun h51 H => ?_
           have hz := some_elim H
           subst hz
           refine AW2_ghoQ ?_
           refine AW2_draw 17 [17, 18, 19, 20, 21, 22, 23, 24, 25, 26, 27, 28, 29, 30] (fun k => ([.y p0_0, .i (p0_0.length : Int), .b (decide ((p0_0.length : Int) < (3 : Int))), .b (decide ((p0_0.length : Int) < (3 : Int))), .y p0_0, .p (.rptr (bcells p0_0) (1 * 1)), .p (AV.b8 (lrd p0_0 1)), .q 6 (0 + 0), .p (AV.b8 accept6'19.lo_), .b (decide ((lrd p0_0 1) < accept6'19.lo_)), .b (decide ((lrd p0_0 1) < accept6'19.lo_)), .b (decide ((lrd p0_0 1) < accept6'19.lo_)), .q 6 (0 + 1), .p (AV.b8 accept6'19.hi_), .y p0_0, .p (.rptr (bcells p0_0) (1 * 1)), .p (AV.b8 (lrd p0_0 1))] : List TV).getD k TV.any) (fun k => g_utf8_Valid_r22.getD k []) [(0, none), (119, some 11), (121, some 13), (124, some 16)] [] (fun k => g_utf8_Valid_r22c.getD k []) mixed (by kernel_rfl) Y Y (a_op (g_x Y (x_p Y (p_move Y Y) Y)) (a_op (g_x Y (x_p Y (p_lenl Y Tryd.underlying33 Y Y) Y)) (a_op (g_x Y (x_p Y (p_bin Y Y Y Y) Y)) (a_op (g_x Y (x_p Y (p_move Y Y) Y)) (a_op (g_on Y Y Y (dF h44) Y (x_p Y (p_move Y Y) Y)) (a_op (g_on Y Y Y (dF h44) Y (x_p Y (u_ixl Y Y Tryd.underlying33 in_5 Y Y Y h45 (lne h45)) Y)) (a_op (g_on Y Y Y (dF h44) Y (x_p Y (u_ld Y Y Tryd.underlying5 Y Y (Sub.map default h45)) Y)) (a_op (g_on Y Y Y (dF h44) Y (x_p Y (u_fa Y Y Tryd.underlying90 Y in_5 nz Y Y (nl (Gutf8_acceptRange.len accept6'19))) Y)) (a_op (g_on Y Y Y (dF h44) Y (x_p Y (u_ld Y Y Tryd.underlying5 Y Y ((Sub.refl _).trans (Gutf8_acceptRange.sub0 accept6'19))) Y)) (a_op (g_on Y Y Y (dF h44) Y (x_p Y (p_u8lt (a := (lrd p0_0 1)) (b := accept6'19.lo_) Y Y Y) Y)) (a_op (g_x Y (x_p Y (p_pkf Y Y (dF h44) (.same _)) Y)) (a_op (g_x Y (x_p Y (p_move Y Y) Y)) (a_op (g_on Y Y Y (dF h46) Y (x_p Y (u_fa Y Y Tryd.underlying90 Y in_5 nz Y Y (nl (Gutf8_acceptRange.len accept6'19))) Y)) (a_op (g_on Y Y Y (dF h46) Y (x_p Y (u_ld Y Y Tryd.underlying5 Y Y ((Sub.refl _).trans (Gutf8_acceptRange.sub1 accept6'19))) Y)) (a_op (g_on Y Y Y (dF h46) Y (x_p Y (p_move Y Y) Y)) (a_op (g_on Y Y Y (dF h46) Y (x_p Y (u_ixl Y Y Tryd.underlying33 in_5 Y Y Y h47 (lne h47)) Y)) (a_op (g_on Y Y Y (dF h46) Y (x_p Y (u_ld Y Y Tryd.underlying5 Y Y (Sub.map default h47)) Y)) (a_nil)))))))))))))))))) ?_
           refine t_on Y Y Y Y (dF h46) Y (PureD.opD (p_u8lt (a := accept6'19.hi_) (b := (lrd p0_0 1)) Y Y Y)) ?_
           refine t_op Y Y (PureD.opD (p_pkf Y Y (dF h46) (.same _))) ?_
           refine t_op Y Y (PureD.opD (p_move Y Y)) ?_
           refine t_on Y Y Y Y (dF h48) Y (PureD.opD (p_move Y Y)) ?_
           refine t_on Y Y Y Y (dF h48) Y (PureD.opD (u_ixl Y Y Tryd.underlying33 in_5 Y Y Y h49 (lne h49))) ?_
           refine t_on Y Y Y Y (dF h48) Y (PureD.opD (u_ld Y Y Tryd.underlying5 Y Y (Sub.map default h49))) ?_
           refine t_on Y Y Y Y (dF h48) Y (PureD.opD (p_u8lt (a := (lrd p0_0 2)) (b := (128 : UInt8)) Y Y Y)) ?_
           refine t_op Y Y (PureD.opD (p_pkf Y Y (dF h48) (.same _))) ?_
           refine t_op Y Y (PureD.opD (p_move Y Y)) ?_
           refine t_on Y Y Y Y (dF h50) Y (PureD.opD (p_move Y Y)) ?_
           refine t_on Y Y Y Y (dF h50) Y (PureD.opD (u_ixl Y Y Tryd.underlying33 in_5 Y Y Y h51 (lne h51))) ?_
           refine t_on Y Y Y Y (dF h50) Y (PureD.opD (u_ld Y Y Tryd.underlying5 Y Y (Sub.map default h51))) ?_
           refine t_on Y Y Y Y (dF h50) Y (PureD.opD (p_u8lt (a := (191 : UInt8)) (b := (lrd p0_0 2)) Y Y Y)) ?_
           refine t_op Y Y (PureD.opD (p_pkf Y Y (dF h50) (.same _))) ?_
           refine t_gho (Gho_st (L := [(0, .y p0_0), (138, .b (decide ((191 : UInt8) < (lrd p0_0 2))))]) (H := []) (N := 188) Y ⟨TLes.same _, TLes.same _, trivial⟩ trivial) ?_
           exact rfl
      ·refine AW2_cond Y (fun h53 => ?_) (fun h53 => ?_)
       ·replace H := ite_then h53 H
        refine sg [0] Y ?_
        refine rp Y Y (p_asg Y Y) ?_
        refine rz [(2, .b false)] [] Y Y Y ?_
        refine AW2_ret ?_
        have hz := some_elim H
        subst hz
        exact ⟨Y, ⟨res_tmp (.same _), trivial⟩, trivial⟩
       ·replace H := ite_else (ne_true h53) H
        refine as2 [(0, .y p0_0)] [] Y Y Y ?_
        refine AW2_skip ?_
        refine AW2_reg [0, 1, 2] Y ?_
        refine rp Y Y (p_move Y Y) ?_
        refine chkK H fun h54 H => ?_
        refine rp Y Y (u_cutl (g := (fun l => bcells l)) (a := (3 : Int)) (b := (p0_0.length : Int)) Y Y Tryd.underlying33 in_5 Y (bT_i (show 0 ≤ (3 : Int) ∧ (3 : Int) ≤ (p0_0.length : Int) ∧ (p0_0.length : Int) ≤ (p0_0.length : Int) from ⟨h54.1, h54.2, Int.le_refl _⟩).1 Y) (bT_len _) (.inl Y) (show 0 ≤ (3 : Int) ∧ (3 : Int) ≤ (p0_0.length : Int) ∧ (p0_0.length : Int) ≤ (p0_0.length : Int) from ⟨h54.1, h54.2, Int.le_refl _⟩) (g_bytes)) ?_
        refine rp Y Y (p_asg Y Y) ?_
        refine rz [(0, .y (cut p0_0 (3 : Int) (p0_0.length : Int)))] [] Y Y Y ?_
        have hz := some_elim H
        subst hz
        exact ⟨Y, Y⟩
     ·replace H := ite_else h43 H
      refine sg [0, 1] Y ?_
      refine rp Y Y (p_ieq Y Y Y) ?_
      refine rp Y Y (p_asg Y Y) ?_
      refine rz [(0, .y p0_0), (6, .q 6 (0)), (141, .b (decide (size5'18 = (4 : Int))))] [(6, .pure (Gutf8_acceptRange.cs accept6'19))] Y Y Y ?_
      refine AW2_if (p := size5'18 = (4 : Int)) Y (fun h55 => ?_) (fun h55 => ?_)
      ·replace H := ite_then h55 H
       refine AW2_seq ?_
       refine AW2_seq ?_
       refine bindK H fun g'22 h68 H => ?_
       refine AW2_mid (⟨[(0, .y p0_0), (185, .b g'22)], [], 188⟩ : TS) ?_ ?_
       ·clear H
        have H := h68
        clear h68
        refine (Classical.em ((p0_0.length : Int) < (4 : Int))).elim (fun h56 => ?_) (fun h56 => ?_)
        ·replace H := ite_then h56 H
         have hz := some_elim H
         subst hz
         refine AW2_ghoQ ?_
         refine AW2_draw 17 [17, 18, 19, 20, 21, 22, 23, 24, 25, 26, 27, 28, 29, 30, 31, 32, 33, 34, 35, 36, 37, 38, 39, 40, 41, 42] (fun k => ([.y p0_0, .i (p0_0.length : Int), .b (decide ((p0_0.length : Int) < (4 : Int))), .b (decide ((p0_0.length : Int) < (4 : Int))), .p (.tup []), .p (.tup []), .p (.tup []), .p (.tup []), .p (.tup []), .p (.tup []), .b true, .b true, .p (.tup []), .p (.tup []), .p (.tup []), .p (.tup []), .p (.tup [])] : List TV).getD k TV.any) (fun k => g_utf8_Valid_r26.getD k []) [(0, none), (154, some 11), (156, some 13), (159, some 16)] [] (fun k => g_utf8_Valid_r26c.getD k []) mixed (by kernel_rfl) Y Y (a_op (g_x Y (x_p Y (p_move Y Y) Y)) (a_op (g_x Y (x_p Y (p_lenl Y Tryd.underlying33 Y Y) Y)) (a_op (g_x Y (x_p Y (p_bin Y Y Y Y) Y)) (a_op (g_x Y (x_p Y (p_move Y Y) Y)) (a_op (g_off Y Y Y Y Y (dT h56) Y Y) (a_op (g_off Y Y Y Y Y (dT h56) Y Y) (a_op (g_off Y Y Y Y Y (dT h56) Y Y) (a_op (g_off Y Y Y Y Y (dT h56) Y Y) (a_op (g_off Y Y Y Y Y (dT h56) Y Y) (a_op (g_off Y Y Y Y Y (dT h56) Y Y) (a_op (g_x Y (x_p Y (p_pkt Y Y (dT h56) (.same _)) Y)) (a_op (g_x Y (x_p Y (p_move Y Y) Y)) (a_op (g_off Y Y Y Y Y Y Y Y) (a_op (g_off Y Y Y Y Y Y Y Y) (a_op (g_off Y Y Y Y Y Y Y Y) (a_op (g_off Y Y Y Y Y Y Y Y) (a_op (g_off Y Y Y Y Y Y Y Y) (a_nil)))))))))))))))))) ?_
         refine t_off Y Y Y Y Y Y Y ?_
         refine t_op Y Y (PureD.opD (p_pkt Y Y Y (.same _))) ?_
         refine t_op Y Y (PureD.opD (p_move Y Y)) ?_
         refine t_off Y Y Y Y Y Y Y ?_
         refine t_off Y Y Y Y Y Y Y ?_
         refine t_off Y Y Y Y Y Y Y ?_
         refine t_off Y Y Y Y Y Y Y ?_
         refine t_op Y Y (PureD.opD (p_pkt Y Y Y (.same _))) ?_
         refine t_op Y Y (PureD.opD (p_move Y Y)) ?_
         refine t_off Y Y Y Y Y Y Y ?_
         refine t_off Y Y Y Y Y Y Y ?_
         refine t_off Y Y Y Y Y Y Y ?_
         refine t_off Y Y Y Y Y Y Y ?_
         refine t_op Y Y (PureD.opD (p_pkt Y Y Y (.same _))) ?_
         refine t_op Y Y (PureD.opD (p_move Y Y)) ?_
         refine t_off Y Y Y Y Y Y Y ?_
         refine t_off Y Y Y Y Y Y Y ?_
         refine t_off Y Y Y Y Y Y Y ?_
         refine t_off Y Y Y Y Y Y Y ?_
         refine t_op Y Y (PureD.opD (p_pkt Y Y Y (.same _))) ?_
         refine t_op Y Y (PureD.opD (p_move Y Y)) ?_
         refine t_off Y Y Y Y Y Y Y ?_
         refine t_off Y Y Y Y Y Y Y ?_
         refine t_off Y Y Y Y Y Y Y ?_
         refine t_off Y Y Y Y Y Y Y ?_
         refine t_op Y Y (PureD.opD (p_pkt Y Y Y (.same _))) ?_
         refine t_gho (Gho_st (L := [(0, .y p0_0), (185, .b true)]) (H := []) (N := 188) Y ⟨TLes.same _, TLes.same _, trivial⟩ trivial) ?_
         exact rfl
        ·replace H := ite_else h56 H
         refine chkK H fun h57 H => ?_
         refine (Classical.em ((lrd p0_0 1) < accept6'19.lo_)).elim (fun h58 => ?_) (fun h58 => ?_)
         ·replace H := ite_then h58 H
          have hz := some_elim H
          subst hz
          refine AW2_ghoQ ?_
          refine AW2_draw 17 [17, 18, 19, 20, 21, 22, 23, 24, 25, 26, 27, 28, 29, 30, 31, 32, 33, 34, 35, 36, 37, 38, 39, 40, 41, 42] (fun k => ([.y p0_0, .i (p0_0.length : Int), .b (decide ((p0_0.length : Int) < (4 : Int))), .b (decide ((p0_0.length : Int) < (4 : Int))), .y p0_0, .p (.rptr (bcells p0_0) (1 * 1)), .p (AV.b8 (lrd p0_0 1)), .q 6 (0 + 0), .p (AV.b8 accept6'19.lo_), .b (decide ((lrd p0_0 1) < accept6'19.lo_)), .b (decide ((lrd p0_0 1) < accept6'19.lo_)), .b (decide ((lrd p0_0 1) < accept6'19.lo_)), .p (.tup []), .p (.tup []), .p (.tup []), .p (.tup []), .p (.tup [])] : List TV).getD k TV.any) (fun k => g_utf8_Valid_r26.getD k []) [(0, none), (154, some 11), (156, some 13), (159, some 16)] [] (fun k => g_utf8_Valid_r26c.getD k []) mixed (by kernel_rfl) Y Y (a_op (g_x Y (x_p Y (p_move Y Y) Y)) (a_op (g_x Y (x_p Y (p_lenl Y Tryd.underlying33 Y Y) Y)) (a_op (g_x Y (x_p Y (p_bin Y Y Y Y) Y)) (a_op (g_x Y (x_p Y (p_move Y Y) Y)) (a_op (g_on Y Y Y (dF h56) Y (x_p Y (p_move Y Y) Y)) (a_op (g_on Y Y Y (dF h56) Y (x_p Y (u_ixl Y Y Tryd.underlying33 in_5 Y Y Y h57 (lne h57)) Y)) (a_op (g_on Y Y Y (dF h56) Y (x_p Y (u_ld Y Y Tryd.underlying5 Y Y (Sub.map default h57)) Y)) (a_op (g_on Y Y Y (dF h56) Y (x_p Y (u_fa Y Y Tryd.underlying90 Y in_5 nz Y Y (nl (Gutf8_acceptRange.len accept6'19))) Y)) (a_op (g_on Y Y Y (dF h56) Y (x_p Y (u_ld Y Y Tryd.underlying5 Y Y ((Sub.refl _).trans (Gutf8_acceptRange.sub0 accept6'19))) Y)) (a_op (g_on Y Y Y (dF h56) Y (x_p Y (p_u8lt (a := (lrd p0_0 1)) (b := accept6'19.lo_) Y Y Y) Y)) (a_op (g_x Y (x_p Y (p_pkf Y Y (dF h56) (.same _)) Y)) (a_op (g_x Y (x_p Y (p_move Y Y) Y)) (a_op (g_off Y Y Y Y Y (dT h58) Y Y) (a_op (g_off Y Y Y Y Y (dT h58) Y Y) (a_op (g_off Y Y Y Y Y (dT h58) Y Y) (a_op (g_off Y Y Y Y Y (dT h58) Y Y) (a_op (g_off Y Y Y Y Y (dT h58) Y Y) (a_nil)))))))))))))))))) ?_
          refine t_off Y Y Y Y (dT h58) Y Y ?_
          refine t_op Y Y (PureD.opD (p_pkt Y Y (dT h58) (.same _))) ?_
          refine t_op Y Y (PureD.opD (p_move Y Y)) ?_
          refine t_off Y Y Y Y Y Y Y ?_
          refine t_off Y Y Y Y Y Y Y ?_
          refine t_off Y Y Y Y Y Y Y ?_
          refine t_off Y Y Y Y Y Y Y ?_
          refine t_op Y Y (PureD.opD (p_pkt Y Y Y (.same _))) ?_
          refine t_op Y Y (PureD.opD (p_move Y Y)) ?_
          refine t_off Y Y Y Y Y Y Y ?_
          refine t_off Y Y Y Y Y Y Y ?_
          refine t_off Y Y Y Y Y Y Y ?_
          refine t_off Y Y Y Y Y Y Y ?_
          refine t_op Y Y (PureD.opD (p_pkt Y Y Y (.same _))) ?_
          refine t_op Y Y (PureD.opD (p_move Y Y)) ?_
          refine t_off Y Y Y Y Y Y Y ?_
          refine t_off Y Y Y Y Y Y Y ?_
          refine t_off Y Y Y Y Y Y Y ?_
          refine t_off Y Y Y Y Y Y Y ?_
          refine t_op Y Y (PureD.opD (p_pkt Y Y Y (.same _))) ?_
          refine t_op Y Y (PureD.opD (p_move Y Y)) ?_
          refine t_off Y Y Y Y Y Y Y ?_
          refine t_off Y Y Y Y Y Y Y ?_
          refine t_off Y Y Y Y Y Y Y ?_
          refine t_off Y Y Y Y Y Y Y ?_
          refine t_op Y Y (PureD.opD (p_pkt Y Y Y (.same _))) ?_
          refine t_gho (Gho_st (L := [(0, .y p0_0), (185, .b true)]) (H := []) (N := 188) Y ⟨TLes.same _, TLes.same _, trivial⟩ trivial) ?_
          exact rfl
         ·replace H := ite_else h58 H
          refine chkK H fun h59 H => ?_
          refine (Classical.em (accept6'19.hi_ < (lrd p0_0 1))).elim (fun h60 => ?_) (fun h60 => ?_)
          ·replace H := ite_then h60 H
           have hz := some_elim H
           subst hz
           refine AW2_ghoQ ?_
           refine AW2_draw 17 [17, 18, 19, 20, 21, 22, 23, 24, 25, 26, 27, 28, 29, 30, 31, 32, 33, 34, 35, 36, 37, 38, 39, 40, 41, 42] (fun k => ([.y p0_0, .i (p0_0.length : Int), .b (decide ((p0_0.length : Int) < (4 : Int))), .b (decide ((p0_0.length : Int) < (4 : Int))), .y p0_0, .p (.rptr (bcells p0_0) (1 * 1)), .p (AV.b8 (lrd p0_0 1)), .q 6 (0 + 0), .p (AV.b8 accept6'19.lo_), .b (decide ((lrd p0_0 1) < accept6'19.lo_)), .b (decide ((lrd p0_0 1) < accept6'19.lo_)), .b (decide ((lrd p0_0 1) < accept6'19.lo_)), .q 6 (0 + 1), .p (AV.b8 accept6'19.hi_), .y p0_0, .p (.rptr (bcells p0_0) (1 * 1)), .p (AV.b8 (lrd p0_0 1))] : List TV).getD k TV.any) (fun k => g_utf8_Valid_r26.getD k []) [(0, none), (154, some 11), (156, some 13), (159, some 16)] [] (fun k => g_utf8_Valid_r26c.getD k []) mixed (by kernel_rfl) Y Y (a_op (g_x Y (x_p Y (p_move Y Y) Y)) (a_op (g_x Y (x_p Y (p_lenl Y Tryd.underlying33 Y Y) Y)) (a_op (g_x Y (x_p Y (p_bin Y Y Y Y) Y)) (a_op (g_x Y (x_p Y (p_move Y Y) Y)) (a_op (g_on Y Y Y (dF h56) Y (x_p Y (p_move Y Y) Y)) (a_op (g_on Y Y Y (dF h56) Y (x_p Y (u_ixl Y Y Tryd.underlying33 in_5 Y Y Y h57 (lne h57)) Y)) (a_op (g_on Y Y Y (dF h56) Y (x_p Y (u_ld Y Y Tryd.underlying5 Y Y (Sub.map default h57)) Y)) (a_op (g_on Y Y Y (dF h56) Y (x_p Y (u_fa Y Y Tryd.underlying90 Y in_5 nz Y Y (nl (Gutf8_acceptRange.len accept6'19))) Y)) (a_op (g_on Y Y Y (dF h56) Y (x_p Y (u_ld Y Y Tryd.underlying5 Y Y ((Sub.refl _).trans (Gutf8_acceptRange.sub0 accept6'19))) Y)) (a_op (g_on Y Y Y (dF h56) Y (x_p Y (p_u8lt (a := (lrd p0_0 1)) (b := accept6'19.lo_) Y Y Y) Y)) (a_op (g_x Y (x_p Y (p_pkf Y Y (dF h56) (.same _)) Y)) (a_op (g_x Y (x_p Y (p_move Y Y) Y)) (a_op (g_on Y Y Y (dF h58) Y (x_p Y (u_fa Y Y Tryd.underlying90 Y in_5 nz Y Y (nl (Gutf8_acceptRange.len accept6'19))) Y)) (a_op (g_on Y Y Y (dF h58) Y (x_p Y (u_ld Y Y Tryd.underlying5 Y Y ((Sub.refl _).trans (Gutf8_acceptRange.sub1 accept6'19))) Y)) (a_op (g_on Y Y Y (dF h58) Y (x_p Y (p_move Y Y) Y)) (a_op (g_on Y Y Y (dF h58) Y (x_p Y (u_ixl Y Y Tryd.underlying33 in_5 Y Y Y h59 (lne h59)) Y)) (a_op (g_on Y Y Y (dF h58) Y (x_p Y (u_ld Y Y Tryd.underlying5 Y Y (Sub.map default h59)) Y)) (a_nil)))))))))))))))))) ?_
           refine t_on Y Y Y Y (dF h58) Y (PureD.opD (p_u8lt (a := accept6'19.hi_) (b := (lrd p0_0 1)) Y Y Y)) ?_
           refine t_op Y Y (PureD.opD (p_pkf Y Y (dF h58) (.same _))) ?_
           refine t_op Y Y (PureD.opD (p_move Y Y)) ?_
           refine t_off Y Y Y Y (dT h60) Y Y ?_
           refine t_off Y Y Y Y (dT h60) Y Y ?_
           refine t_off Y Y Y Y (dT h60) Y Y ?_
           refine t_off Y Y Y Y (dT h60) Y Y ?_
           refine t_op Y Y (PureD.opD (p_pkt Y Y (dT h60) (.same _))) ?_
           refine t_op Y Y (PureD.opD (p_move Y Y)) ?_
           refine t_off Y Y Y Y Y Y Y ?_
           refine t_off Y Y Y Y Y Y Y ?_
           refine t_off Y Y Y Y Y Y Y ?_
           refine t_off Y Y Y Y Y Y Y ?_
           refine t_op Y Y (PureD.opD (p_pkt Y Y Y (.same _))) ?_
           refine t_op Y Y (PureD.opD (p_move Y Y)) ?_
           refine t_off Y Y Y Y Y Y Y ?_
           refine t_off Y Y Y Y Y Y Y ?_
           refine t_off Y Y Y Y Y Y Y ?_
           refine t_off Y Y Y Y Y Y Y ?_
           refine t_op Y Y (PureD.opD (p_pkt Y Y Y (.same _))) ?_
           refine t_op Y Y (PureD.opD (p_move Y Y)) ?_
           refine t_off Y Y Y Y Y Y Y ?_
           refine t_off Y Y Y Y Y Y Y ?_
           refine t_off Y Y Y Y Y Y Y ?_
           refine t_off Y Y Y Y Y Y Y ?_
           refine t_op Y Y (PureD.opD (p_pkt Y Y Y (.same _))) ?_
           refine t_gho (Gho_st (L := [(0, .y p0_0), (185, .b true)]) (H := []) (N := 188) Y ⟨TLes.same _, TLes.same _, trivial⟩ trivial) ?_
           exact rfl
          ·replace H := ite_else h60 H
           refine chkK H fun h61 H => ?_
           refine (Classical.em ((lrd p0_0 2) < (128 : UInt8))).elim (fun h62 => ?_) (fun h62 => ?_)
           ·replace H := ite_then h62 H
            have hz := some_elim H
            subst hz
            refine AW2_ghoQ ?_
            refine AW2_draw 17 [17, 18, 19, 20, 21, 22, 23, 24, 25, 26, 27, 28, 29, 30, 31, 32, 33, 34, 35, 36, 37, 38, 39, 40, 41, 42] (fun k => ([.y p0_0, .i (p0_0.length : Int), .b (decide ((p0_0.length : Int) < (4 : Int))), .b (decide ((p0_0.length : Int) < (4 : Int))), .y p0_0, .p (.rptr (bcells p0_0) (1 * 1)), .p (AV.b8 (lrd p0_0 1)), .q 6 (0 + 0), .p (AV.b8 accept6'19.lo_), .b (decide ((lrd p0_0 1) < accept6'19.lo_)), .b (decide ((lrd p0_0 1) < accept6'19.lo_)), .b (decide ((lrd p0_0 1) < accept6'19.lo_)), .q 6 (0 + 1), .p (AV.b8 accept6'19.hi_), .y p0_0, .p (.rptr (bcells p0_0) (1 * 1)), .p (AV.b8 (lrd p0_0 1))] : List TV).getD k TV.any) (fun k => g_utf8_Valid_r26.getD k []) [(0, none), (154, some 11), (156, some 13), (159, some 16)] [] (fun k => g_utf8_Valid_r26c.getD k []) mixed (by kernel_rfl) Y Y (a_op (g_x Y (x_p Y (p_move Y Y) Y)) (a_op (g_x Y (x_p Y (p_lenl Y Tryd.underlying33 Y Y) Y)) (a_op (g_x Y (x_p Y (p_bin Y Y Y Y) Y)) (a_op (g_x Y (x_p Y (p_move Y Y) Y)) (a_op (g_on Y Y Y (dF h56) Y (x_p Y (p_move Y Y) Y)) (a_op (g_on Y Y Y (dF h56) Y (x_p Y (u_ixl Y Y Tryd.underlying33 in_5 Y Y Y h57 (lne h57)) Y)) (a_op (g_on Y Y Y (dF h56) Y (x_p Y (u_ld Y Y Tryd.underlying5 Y Y (Sub.map default h57)) Y)) (a_op (g_on Y Y Y (dF h56) Y (x_p Y (u_fa Y Y Tryd.underlying90 Y in_5 nz Y Y (nl (Gutf8_acceptRange.len accept6'19))) Y)) (a_op (g_on Y Y Y (dF h56) Y (x_p Y (u_ld Y Y Tryd.underlying5 Y Y ((Sub.refl _).trans (Gutf8_acceptRange.sub0 accept6'19))) Y)) (a_op (g_on Y Y Y (dF h56) Y (x_p Y (p_u8lt (a := (lrd p0_0 1)) (b := accept6'19.lo_) Y Y Y) Y)) (a_op (g_x Y (x_p Y (p_pkf Y Y (dF h56) (.same _)) Y)) (a_op (g_x Y (x_p Y (p_move Y Y) Y)) (a_op (g_on Y Y Y (dF h58) Y (x_p Y (u_fa Y Y Tryd.underlying90 Y in_5 nz Y Y (nl (Gutf8_acceptRange.len accept6'19))) Y)) (a_op (g_on Y Y Y (dF h58) Y (x_p Y (u_ld Y Y Tryd.underlying5 Y Y ((Sub.refl _).trans (Gutf8_acceptRange.sub1 accept6'19))) Y)) (a_op (g_on Y Y Y (dF h58) Y (x_p Y (p_move Y Y) Y)) (a_op (g_on Y Y Y (dF h58) Y (x_p Y (u_ixl Y Y Tryd.underlying33 in_5 Y Y Y h59 (lne h59)) Y)) (a_op (g_on Y Y Y (dF h58) Y (x_p Y (u_ld Y Y Tryd.underlying5 Y Y (Sub.map default h59)) Y)) (a_nil)))))))))))))))))) ?_
            refine t_on Y Y Y Y (dF h58) Y (PureD.opD (p_u8lt (a := accept6'19.hi_) (b := (lrd p0_0 1)) Y Y Y)) ?_
            refine t_op Y Y (PureD.opD (p_pkf Y Y (dF h58) (.same _))) ?_
            refine t_op Y Y (PureD.opD (p_move Y Y)) ?_
            refine t_on Y Y Y Y (dF h60) Y (PureD.opD (p_move Y Y)) ?_
            refine t_on Y Y Y Y (dF h60) Y (PureD.opD (u_ixl Y Y Tryd.underlying33 in_5 Y Y Y h61 (lne h61))) ?_
            refine t_on Y Y Y Y (dF h60) Y (PureD.opD (u_ld Y Y Tryd.underlying5 Y Y (Sub.map default h61))) ?_
            refine t_on Y Y Y Y (dF h60) Y (PureD.opD (p_u8lt (a := (lrd p0_0 2)) (b := (128 : UInt8)) Y Y Y)) ?_
            refine t_op Y Y (PureD.opD (p_pkf Y Y (dF h60) (.same _))) ?_
            refine t_op Y Y (PureD.opD (p_move Y Y)) ?_
            refine t_off Y Y Y Y (dT h62) Y Y ?_
            refine t_off Y Y Y Y (dT h62) Y Y ?_
            refine t_off Y Y Y Y (dT h62) Y Y ?_
            refine t_off Y Y Y Y (dT h62) Y Y ?_
            refine t_op Y Y (PureD.opD (p_pkt Y Y (dT h62) (.same _))) ?_
            refine t_op Y Y (PureD.opD (p_move Y Y)) ?_
            refine t_off Y Y Y Y Y Y Y ?_
            refine t_off Y Y Y Y Y Y Y ?_
            refine t_off Y Y Y Y Y Y Y ?_
            refine t_off Y Y Y Y Y Y Y ?_
            refine t_op Y Y (PureD.opD (p_pkt Y Y Y (.same _))) ?_
            refine t_op Y Y (PureD.opD (p_move Y Y)) ?_
            refine t_off Y Y Y Y Y Y Y ?_
            refine t_off Y Y Y Y Y Y Y ?_
            refine t_off Y Y Y Y Y Y Y ?_
            refine t_off Y Y Y Y Y Y Y ?_
            refine t_op Y Y (PureD.opD (p_pkt Y Y Y (.same _))) ?_
            refine t_gho (Gho_st (L := [(0, .y p0_0), (185, .b true)]) (H := []) (N := 188) Y ⟨TLes.same _, TLes.same _, trivial⟩ trivial) ?_
            exact rfl
           ·replace H := ite_else h62 H
            refine chkK H fun h63 H => ?_
            refine (Classical.em ((191 : UInt8) < (lrd p0_0 2))).elim (fun h64 => ?_) (fun h64 => ?_)
            ·replace H := ite_then h64 H
             have hz := some_elim H
             subst hz
             refine AW2_ghoQ ?_
             refine AW2_draw 17 [17, 18, 19, 20, 21, 22, 23, 24, 25, 26, 27, 28, 29, 30, 31, 32, 33, 34, 35, 36, 37, 38, 39, 40, 41, 42] (fun k => ([.y p0_0, .i (p0_0.length : Int), .b (decide ((p0_0.length : Int) < (4 : Int))), .b (decide ((p0_0.length : Int) < (4 : Int))), .y p0_0, .p (.rptr (bcells p0_0) (1 * 1)), .p (AV.b8 (lrd p0_0 1)), .q 6 (0 + 0), .p (AV.b8 accept6'19.lo_), .b (decide ((lrd p0_0 1) < accept6'19.lo_)), .b (decide ((lrd p0_0 1) < accept6'19.lo_)), .b (decide ((lrd p0_0 1) < accept6'19.lo_)), .q 6 (0 + 1), .p (AV.b8 accept6'19.hi_), .y p0_0, .p (.rptr (bcells p0_0) (1 * 1)), .p (AV.b8 (lrd p0_0 1))] : List TV).getD k TV.any) (fun k => g_utf8_Valid_r26.getD k []) [(0, none), (154, some 11), (156, some 13), (159, some 16)] [] (fun k => g_utf8_Valid_r26c.getD k []) mixed (by kernel_rfl) Y Y (a_op (g_x Y (x_p Y (p_move Y Y) Y)) (a_op (g_x Y (x_p Y (p_lenl Y Tryd.underlying33 Y Y) Y)) (a_op (g_x Y (x_p Y (p_bin Y Y Y Y) Y)) (a_op (g_x Y (x_p Y (p_move Y Y) Y)) (a_op (g_on Y Y Y (dF h56) Y (x_p Y (p_move Y Y) Y)) (a_op (g_on Y Y Y (dF h56) Y (x_p Y (u_ixl Y Y Tryd.underlying33 in_5 Y Y Y h57 (lne h57)) Y)) (a_op (g_on Y Y Y (dF h56) Y (x_p Y (u_ld Y Y Tryd.underlying5 Y Y (Sub.map default h57)) Y)) (a_op (g_on Y Y Y (dF h56) Y (x_p Y (u_fa Y Y Tryd.underlying90 Y in_5 nz Y Y (nl (Gutf8_acceptRange.len accept6'19))) Y)) (a_op (g_on Y Y Y (dF h56) Y (x_p Y (u_ld Y Y Tryd.underlying5 Y Y ((Sub.refl _).trans (Gutf8_acceptRange.sub0 accept6'19))) Y)) (a_op (g_on Y Y Y (dF h56) Y (x_p Y (p_u8lt (a := (lrd p0_0 1)) (b := accept6'19.lo_) Y Y Y) Y)) (a_op (g_x Y (x_p Y (p_pkf Y Y (dF h56) (.same _)) Y)) (a_op (g_x Y (x_p Y (p_move Y Y) Y)) (a_op (g_on Y Y Y (dF h58) Y (x_p Y (u_fa Y Y Tryd.underlying90 Y in_5 nz Y Y (nl (Gutf8_acceptRange.len accept6'19))) Y)) (a_op (g_on Y Y Y (dF h58) Y (x_p Y (u_ld Y Y Tryd.underlying5 Y Y ((Sub.refl _).trans (Gutf8_acceptRange.sub1 accept6'19))) Y)) (a_op (g_on Y Y Y (dF h58) Y (x_p Y (p_move Y Y) Y)) (a_op (g_on Y Y Y (dF h58) Y (x_p Y (u_ixl Y Y Tryd.underlying33 in_5 Y Y Y h59 (lne h59)) Y)) (a_op (g_on Y Y Y (dF h58) Y (x_p Y (u_ld Y Y Tryd.underlying5 Y Y (Sub.map default h59)) Y)) (a_nil)))))))))))))))))) ?_
             refine t_on Y Y Y Y (dF h58) Y (PureD.opD (p_u8lt (a := accept6'19.hi_) (b := (lrd p0_0 1)) Y Y Y)) ?_
             refine t_op Y Y (PureD.opD (p_pkf Y Y (dF h58) (.same _))) ?_
             refine t_op Y Y (PureD.opD (p_move Y Y)) ?_
             refine t_on Y Y Y Y (dF h60) Y (PureD.opD (p_move Y Y)) ?_
             refine t_on Y Y Y Y (dF h60) Y (PureD.opD (u_ixl Y Y Tryd.underlying33 in_5 Y Y Y h61 (lne h61))) ?_
             refine t_on Y Y Y Y (dF h60) Y (PureD.opD (u_ld Y Y Tryd.underlying5 Y Y (Sub.map default h61))) ?_
             refine t_on Y Y Y Y (dF h60) Y (PureD.opD (p_u8lt (a := (lrd p0_0 2)) (b := (128 : UInt8)) Y Y Y)) ?_
             refine t_op Y Y (PureD.opD (p_pkf Y Y (dF h60) (.same _))) ?_
             refine t_op Y Y (PureD.opD (p_move Y Y)) ?_
             refine t_on Y Y Y Y (dF h62) Y (PureD.opD (p_move Y Y)) ?_
             refine t_on Y Y Y Y (dF h62) Y (PureD.opD (u_ixl Y Y Tryd.underlying33 in_5 Y Y Y h63 (lne h63))) ?_
             refine t_on Y Y Y Y (dF h62) Y (PureD.opD (u_ld Y Y Tryd.underlying5 Y Y (Sub.map default h63))) ?_
             refine t_on Y Y Y Y (dF h62) Y (PureD.opD (p_u8lt (a := (191 : UInt8)) (b := (lrd p0_0 2)) Y Y Y)) ?_
             refine t_op Y Y (PureD.opD (p_pkf Y Y (dF h62) (.same _))) ?_
             refine t_op Y Y (PureD.opD (p_move Y Y)) ?_
             refine t_off Y Y Y Y (dT h64) Y Y ?_
             refine t_off Y Y Y Y (dT h64) Y Y ?_
             refine t_off Y Y Y Y (dT h64) Y Y ?_
             refine t_off Y Y Y Y (dT h64) Y Y ?_
             refine t_op Y Y (PureD.opD (p_pkt Y Y (dT h64) (.same _))) ?_
             refine t_op Y Y (PureD.opD (p_move Y Y)) ?_
             refine t_off Y Y Y Y Y Y Y ?_
             refine t_off Y Y Y Y Y Y Y ?_
             refine t_off Y Y Y Y Y Y Y ?_
             refine t_off Y Y Y Y Y Y Y ?_
             refine t_op Y Y (PureD.opD (p_pkt Y Y Y (.same _))) ?_
             refine t_gho (Gho_st (L := [(0, .y p0_0), (185, .b true)]) (H := []) (N := 188) Y ⟨TLes.same _, TLes.same _, trivial⟩ trivial) ?_
             exact rfl
            ·replace H := ite_else h64 H
             refine chkK H fun h65 H => ?_
             refine (Classical.em ((lrd p0_0 3) < (128 : UInt8))).elim (fun h66 => ?_) (fun h66 => ?_)
             ·replace H := ite_then h66 H
              have hz := some_elim H
              subst hz
              refine AW2_ghoQ ?_
              refine AW2_draw 17 [17, 18, 19, 20, 21, 22, 23, 24, 25, 26, 27, 28, 29, 30, 31, 32, 33, 34, 35, 36, 37, 38, 39, 40, 41, 42] (fun k => ([.y p0_0, .i (p0_0.length : Int), .b (decide ((p0_0.length : Int) < (4 : Int))), .b (decide ((p0_0.length : Int) < (4 : Int))), .y p0_0, .p (.rptr (bcells p0_0) (1 * 1)), .p (AV.b8 (lrd p0_0 1)), .q 6 (0 + 0), .p (AV.b8 accept6'19.lo_), .b (decide ((lrd p0_0 1) < accept6'19.lo_)), .b (decide ((lrd p0_0 1) < accept6'19.lo_)), .b (decide ((lrd p0_0 1) < accept6'19.lo_)), .q 6 (0 + 1), .p (AV.b8 accept6'19.hi_), .y p0_0, .p (.rptr (bcells p0_0) (1 * 1)), .p (AV.b8 (lrd p0_0 1))] : List TV).getD k TV.any) (fun k => g_utf8_Valid_r26.getD k []) [(0, none), (154, some 11), (156, some 13), (159, some 16)] [] (fun k => g_utf8_Valid_r26c.getD k []) mixed (by kernel_rfl) Y Y (a_op (g_x Y (x_p Y (p_move Y Y) Y)) (a_op (g_x Y (x_p Y (p_lenl Y Tryd.underlying33 Y Y) Y)) (a_op (g_x Y (x_p Y (p_bin Y Y Y Y) Y)) (a_op (g_x Y (x_p Y (p_move Y Y) Y)) (a_op (g_on Y Y Y (dF h56) Y (x_p Y (p_move Y Y) Y)) (a_op (g_on Y Y Y (dF h56) Y (x_p Y (u_ixl Y Y Tryd.underlying33 in_5 Y Y Y h57 (lne h57)) Y)) (a_op (g_on Y Y Y (dF h56) Y (x_p Y (u_ld Y Y Tryd.underlying5 Y Y (Sub.map default h57)) Y)) (a_op (g_on Y Y Y (dF h56) Y (x_p Y (u_fa Y Y Tryd.underlying90 Y in_5 nz Y Y (nl (Gutf8_acceptRange.len accept6'19))) Y)) (a_op (g_on Y Y Y (dF h56) Y (x_p Y (u_ld Y Y Tryd.underlying5 Y Y ((Sub.refl _).trans (Gutf8_acceptRange.sub0 accept6'19))) Y)) (a_op (g_on Y Y Y (dF h56) Y (x_p Y (p_u8lt (a := (lrd p0_0 1)) (b := accept6'19.lo_) Y Y Y) Y)) (a_op (g_x Y (x_p Y (p_pkf Y Y (dF h56) (.same _)) Y)) (a_op (g_x Y (x_p Y (p_move Y Y) Y)) (a_op (g_on Y Y Y (dF h58) Y (x_p Y (u_fa Y Y Tryd.underlying90 Y in_5 nz Y Y (nl (Gutf8_acceptRange.len accept6'19))) Y)) (a_op (g_on Y Y Y (dF h58) Y (x_p Y (u_ld Y Y Tryd.underlying5 Y Y ((Sub.refl _).trans (Gutf8_acceptRange.sub1 accept6'19))) Y)) (a_op (g_on Y Y Y (dF h58) Y (x_p Y (p_move Y Y) Y)) (a_op (g_on Y Y Y (dF h58) Y (x_p Y (u_ixl Y Y Tryd.underlying33 in_5 Y Y Y h59 (lne h59)) Y)) (a_op (g_on Y Y Y (dF h58) Y (x_p Y (u_ld Y Y Tryd.underlying5 Y Y (Sub.map default h59)) Y)) (a_nil)))))))))))))))))) ?_
              refine t_on Y Y Y Y (dF h58) Y (PureD.opD (p_u8lt (a := accept6'19.hi_) (b := (lrd p0_0 1)) Y Y Y)) ?_
              refine t_op Y Y (PureD.opD (p_pkf Y Y (dF h58) (.same _))) ?_
              refine t_op Y Y (PureD.opD (p_move Y Y)) ?_
              refine t_on Y Y Y Y (dF h60) Y (PureD.opD (p_move Y Y)) ?_
              refine t_on Y Y Y Y (dF h60) Y (PureD.opD (u_ixl Y Y Tryd.underlying33 in_5 Y Y Y h61 (lne h61))) ?_
              refine t_on Y Y Y Y (dF h60) Y (PureD.opD (u_ld Y Y Tryd.underlying5 Y Y (Sub.map default h61))) ?_
              refine t_on Y Y Y Y (dF h60) Y (PureD.opD (p_u8lt (a := (lrd p0_0 2)) (b := (128 : UInt8)) Y Y Y)) ?_
              refine t_op Y Y (PureD.opD (p_pkf Y Y (dF h60) (.same _))) ?_
              refine t_op Y Y (PureD.opD (p_move Y Y)) ?_
              refine t_on Y Y Y Y (dF h62) Y (PureD.opD (p_move Y Y)) ?_
              refine t_on Y Y Y Y (dF h62) Y (PureD.opD (u_ixl Y Y Tryd.underlying33 in_5 Y Y Y h63 (lne h63))) ?_
              refine t_on Y Y Y Y (dF h62) Y (PureD.opD (u_ld Y Y Tryd.underlying5 Y Y (Sub.map default h63))) ?_
              refine t_on Y Y Y Y (dF h62) Y (PureD.opD (p_u8lt (a := (191 : UInt8)) (b := (lrd p0_0 2)) Y Y Y)) ?_
              refine t_op Y Y (PureD.opD (p_pkf Y Y (dF h62) (.same _))) ?_
              refine t_op Y Y (PureD.opD (p_move Y Y)) ?_
              refine t_on Y Y Y Y (dF h64) Y (PureD.opD (p_move Y Y)) ?_
              refine t_on Y Y Y Y (dF h64) Y (PureD.opD (u_ixl Y Y Tryd.underlying33 in_5 Y Y Y h65 (lne h65))) ?_
              refine t_on Y Y Y Y (dF h64) Y (PureD.opD (u_ld Y Y Tryd.underlying5 Y Y (Sub.map default h65))) ?_
              refine t_on Y Y Y Y (dF h64) Y (PureD.opD (p_u8lt (a := (lrd p0_0 3)) (b := (128 : UInt8)) Y Y Y)) ?_
              refine t_op Y Y (PureD.opD (p_pkf Y Y (dF h64) (.same _))) ?_
              refine t_op Y Y (PureD.opD (p_move Y Y)) ?_
              refine t_off Y Y Y Y (dT h66) Y Y ?_
              refine t_off Y Y Y Y (dT h66) Y Y ?_
              refine t_off Y Y Y Y (dT h66) Y Y ?_
              refine t_off Y Y Y Y (dT h66) Y Y ?_
              refine t_op Y Y (PureD.opD (p_pkt Y Y (dT h66) (.same _))) ?_
              refine t_gho (Gho_st (L := [(0, .y p0_0), (185, .b true)]) (H := []) (N := 188) Y ⟨TLes.same _, TLes.same _, trivial⟩ trivial) ?_
              exact rfl
             ·replace H := ite_else h66 H
              refine chkK H fun h67 H => ?_
              have hz := some_elim H
              subst hz
              refine AW2_ghoQ ?_
              refine AW2_draw 17 [17, 18, 19, 20, 21, 22, 23, 24, 25, 26, 27, 28, 29, 30, 31, 32, 33, 34, 35, 36, 37, 38, 39, 40, 41, 42] (fun k => ([.y p0_0, .i (p0_0.length : Int), .b (decide ((p0_0.length : Int) < (4 : Int))), .b (decide ((p0_0.length : Int) < (4 : Int))), .y p0_0, .p (.rptr (bcells p0_0) (1 * 1)), .p (AV.b8 (lrd p0_0 1)), .q 6 (0 + 0), .p (AV.b8 accept6'19.lo_), .b (decide ((lrd p0_0 1) < accept6'19.lo_)), .b (decide ((lrd p0_0 1) < accept6'19.lo_)), .b (decide ((lrd p0_0 1) < accept6'19.lo_)), .q 6 (0 + 1), .p (AV.b8 accept6'19.hi_), .y p0_0, .p (.rptr (bcells p0_0) (1 * 1)), .p (AV.b8 (lrd p0_0 1))] : List TV).getD k TV.any) (fun k => g_utf8_Valid_r26.getD k []) [(0, none), (154, some 11), (156, some 13), (159, some 16)] [] (fun k => g_utf8_Valid_r26c.getD k []) mixed (by kernel_rfl) Y Y (a_op (g_x Y (x_p Y (p_move Y Y) Y)) (a_op (g_x Y (x_p Y (p_lenl Y Tryd.underlying33 Y Y) Y)) (a_op (g_x Y (x_p Y (p_bin Y Y Y Y) Y)) (a_op (g_x Y (x_p Y (p_move Y Y) Y)) (a_op (g_on Y Y Y (dF h56) Y (x_p Y (p_move Y Y) Y)) (a_op (g_on Y Y Y (dF h56) Y (x_p Y (u_ixl Y Y Tryd.underlying33 in_5 Y Y Y h57 (lne h57)) Y)) (a_op (g_on Y Y Y (dF h56) Y (x_p Y (u_ld Y Y Tryd.underlying5 Y Y (Sub.map default h57)) Y)) (a_op (g_on Y Y Y (dF h56) Y (x_p Y (u_fa Y Y Tryd.underlying90 Y in_5 nz Y Y (nl (Gutf8_acceptRange.len accept6'19))) Y)) (a_op (g_on Y Y Y (dF h56) Y (x_p Y (u_ld Y Y Tryd.underlying5 Y Y ((Sub.refl _).trans (Gutf8_acceptRange.sub0 accept6'19))) Y)) (a_op (g_on Y Y Y (dF h56) Y (x_p Y (p_u8lt (a := (lrd p0_0 1)) (b := accept6'19.lo_) Y Y Y) Y)) (a_op (g_x Y (x_p Y (p_pkf Y Y (dF h56) (.same _)) Y)) (a_op (g_x Y (x_p Y (p_move Y Y) Y)) (a_op (g_on Y Y Y (dF h58) Y (x_p Y (u_fa Y Y Tryd.underlying90 Y in_5 nz Y Y (nl (Gutf8_acceptRange.len accept6'19))) Y)) (a_op (g_on Y Y Y (dF h58) Y (x_p Y (u_ld Y Y Tryd.underlying5 Y Y ((Sub.refl _).trans (Gutf8_acceptRange.sub1 accept6'19))) Y)) (a_op (g_on Y Y Y (dF h58) Y (x_p Y (p_move Y Y) Y)) (a_op (g_on Y Y Y (dF h58) Y (x_p Y (u_ixl Y Y Tryd.underlying33 in_5 Y Y Y h59 (lne h59)) Y)) (a_op (g_on Y Y Y (dF h58) Y (x_p Y (u_ld Y Y Tryd.underlying5 Y Y (Sub.map default h59)) Y)) (a_nil)))))))))))))))))) ?_
              refine t_on Y Y Y Y (dF h58) Y (PureD.opD (p_u8lt (a := accept6'19.hi_) (b := (lrd p0_0 1)) Y Y Y)) ?_
              refine t_op Y Y (PureD.opD (p_pkf Y Y (dF h58) (.same _))) ?_
              refine t_op Y Y (PureD.opD (p_move Y Y)) ?_
              refine t_on Y Y Y Y (dF h60) Y (PureD.opD (p_move Y Y)) ?_
              refine t_on Y Y Y Y (dF h60) Y (PureD.opD (u_ixl Y Y Tryd.underlying33 in_5 Y Y Y h61 (lne h61))) ?_
              refine t_on Y Y Y Y (dF h60) Y (PureD.opD (u_ld Y Y Tryd.underlying5 Y Y (Sub.map default h61))) ?_
              refine t_on Y Y Y Y (dF h60) Y (PureD.opD (p_u8lt (a := (lrd p0_0 2)) (b := (128 : UInt8)) Y Y Y)) ?_
              refine t_op Y Y (PureD.opD (p_pkf Y Y (dF h60) (.same _))) ?_
              refine t_op Y Y (PureD.opD (p_move Y Y)) ?_
              refine t_on Y Y Y Y (dF h62) Y (PureD.opD (p_move Y Y)) ?_
              refine t_on Y Y Y Y (dF h62) Y (PureD.opD (u_ixl Y Y Tryd.underlying33 in_5 Y Y Y h63 (lne h63))) ?_
              refine t_on Y Y Y Y (dF h62) Y (PureD.opD (u_ld Y Y Tryd.underlying5 Y Y (Sub.map default h63))) ?_
              refine t_on Y Y Y Y (dF h62) Y (PureD.opD (p_u8lt (a := (191 : UInt8)) (b := (lrd p0_0 2)) Y Y Y)) ?_
              refine t_op Y Y (PureD.opD (p_pkf Y Y (dF h62) (.same _))) ?_
              refine t_op Y Y (PureD.opD (p_move Y Y)) ?_
              refine t_on Y Y Y Y (dF h64) Y (PureD.opD (p_move Y Y)) ?_
              refine t_on Y Y Y Y (dF h64) Y (PureD.opD (u_ixl Y Y Tryd.underlying33 in_5 Y Y Y h65 (lne h65))) ?_
              refine t_on Y Y Y Y (dF h64) Y (PureD.opD (u_ld Y Y Tryd.underlying5 Y Y (Sub.map default h65))) ?_
              refine t_on Y Y Y Y (dF h64) Y (PureD.opD (p_u8lt (a := (lrd p0_0 3)) (b := (128 : UInt8)) Y Y Y)) ?_
              refine t_op Y Y (PureD.opD (p_pkf Y Y (dF h64) (.same _))) ?_
              refine t_op Y Y (PureD.opD (p_move Y Y)) ?_
              refine t_on Y Y Y Y (dF h66) Y (PureD.opD (p_move Y Y)) ?_
              refine t_on Y Y Y Y (dF h66) Y (PureD.opD (u_ixl Y Y Tryd.underlying33 in_5 Y Y Y h67 (lne h67))) ?_
              refine t_on Y Y Y Y (dF h66) Y (PureD.opD (u_ld Y Y Tryd.underlying5 Y Y (Sub.map default h67))) ?_
              refine t_on Y Y Y Y (dF h66) Y (PureD.opD (p_u8lt (a := (191 : UInt8)) (b := (lrd p0_0 3)) Y Y Y)) ?_
              refine t_op Y Y (PureD.opD (p_pkf Y Y (dF h66) (.same _))) ?_
              refine t_gho (Gho_st (L := [(0, .y p0_0), (185, .b (decide ((191 : UInt8) < (lrd p0_0 3))))]) (H := []) (N := 188) Y ⟨TLes.same _, TLes.same _, trivial⟩ trivial) ?_
              exact rfl
       ·refine AW2_cond Y (fun h69 => ?_) (fun h69 => ?_)
        ·replace H := ite_then h69 H
         refine sg [0] Y ?_
         refine rp Y Y (p_asg Y Y) ?_
         refine rz [(2, .b false)] [] Y Y Y ?_
         refine AW2_ret ?_
         have hz := some_elim H
         subst hz
         exact ⟨Y, ⟨res_tmp (.same _), trivial⟩, trivial⟩
        ·replace H := ite_else (ne_true h69) H
         refine as2 [(0, .y p0_0)] [] Y Y Y ?_
         refine AW2_skip ?_
         refine AW2_reg [0, 1, 2] Y ?_
         refine rp Y Y (p_move Y Y) ?_
         refine chkK H fun h70 H => ?_
         refine rp Y Y (u_cutl (g := (fun l => bcells l)) (a := (4 : Int)) (b := (p0_0.length : Int)) Y Y Tryd.underlying33 in_5 Y (bT_i (show 0 ≤ (4 : Int) ∧ (4 : Int) ≤ (p0_0.length : Int) ∧ (p0_0.length : Int) ≤ (p0_0.length : Int) from ⟨h70.1, h70.2, Int.le_refl _⟩).1 Y) (bT_len _) (.inl Y) (show 0 ≤ (4 : Int) ∧ (4 : Int) ≤ (p0_0.length : Int) ∧ (p0_0.length : Int) ≤ (p0_0.length : Int) from ⟨h70.1, h70.2, Int.le_refl _⟩) (g_bytes)) ?_
         refine rp Y Y (p_asg Y Y) ?_
         refine rz [(0, .y (cut p0_0 (4 : Int) (p0_0.length : Int)))] [] Y Y Y ?_
         have hz := some_elim H
         subst hz
         exact ⟨Y, Y⟩
      ·replace H := ite_else h55 H
       refine sg [0] Y ?_
       refine rp Y Y (p_asg Y Y) ?_
       refine rz [(2, .b false)] [] Y Y Y ?_
       refine AW2_ret ?_
       have hz := some_elim H
       subst hz
       exact ⟨Y, ⟨res_tmp (.same _), trivial⟩, trivial⟩
  ·replace H := ite_else h2 H
   refine as2 [] [] Y Y Y ?_
   refine AW2_exit ?_
   refine thenQ2_exit ?_
   have hz := some_elim H
   subst hz
   exact ⟨Y, Y⟩
 ·rcases o'26 with y'27 | y'28
  ·obtain ⟨rfl, hs⟩ := hs
   refine ⟨by simp, ?_⟩
   have hz := some_elim H
   subst hz
   exact ⟨hs.1, hs.2⟩
  ·obtain ⟨rfl, rfl⟩ := hs
   refine ⟨by simp, ?_⟩
   refine blockQ2_exit ?_
   refine sg [0] Y ?_
   refine rp Y Y (p_asg Y Y) ?_
   refine rz [(2, .b true)] [] Y Y Y ?_
   refine AW2_ret ?_
   have hz := some_elim H
   subst hz
   exact ⟨⟨res_tmp (.same _), trivial⟩, trivial⟩
end Go.Proofs.YtfekkhinjdmcbaaDoor.VM
