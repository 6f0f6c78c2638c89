/- Functions of the program, as they answer, and that their code comes to these answers. -/
import Derived.Test.YtalnmpfjgiecdaaDoorGt2
namespace Go.Proofs.YtalnmpfjgiecdaaDoor.VM
open Go Go.RowKit

theorem in_46 : Info Tryd.prog 46 19 304 (.agg #[.bool false, .string ⟨#[]⟩, .slice none 0 0, .bool false, .slice none 0 0, .bool false, .slice none 0 0, .bool false, .slice none 0 0, .bool false, .slice none 0 0, .bool false, .slice none 0 0, .bool false, .slice none 0 0, .bool false, .slice none 0 0, .bool false, .slice none 0 0]) := by unfold Info; kernel_rfl
theorem one_46 : (.agg #[.bool false, .string ⟨#[]⟩, .slice none 0 0, .bool false, .slice none 0 0, .bool false, .slice none 0 0, .bool false, .slice none 0 0, .bool false, .slice none 0 0, .bool false, .slice none 0 0, .bool false, .slice none 0 0, .bool false, .slice none 0 0, .bool false, .slice none 0 0] : Value).cells.all (·.oneCell') = true := by kernel_rfl
theorem zc_46 : ((.agg #[.bool false, .string ⟨#[]⟩, .slice none 0 0, .bool false, .slice none 0 0, .bool false, .slice none 0 0, .bool false, .slice none 0 0, .bool false, .slice none 0 0, .bool false, .slice none 0 0, .bool false, .slice none 0 0, .bool false, .slice none 0 0, .bool false, .slice none 0 0] : Value).cells.toList.map zcell) = GTable.cs GTable.zero := by rfl
theorem pl_46 : placesOf Tryd.prog 46 = some [(0, 1), (1, 1), (2, 1), (3, 16)] := by kernel_rfl
set_option maxRecDepth 100000 in
theorem ty_4 {d : Nat} {cs : List AV} (h : Typed Tryd.prog d 4 cs) : ∃ x : Bool, cs = [(AV.bool x)] ∧ okA x := match d, h with
  | 0, h => False.elim h
  | d + 1, h => ty_bool Tryd.underlying4 h
set_option maxRecDepth 100000 in
theorem ty_9 {d : Nat} {cs : List AV} (h : Typed Tryd.prog d 9 cs) : ∃ x : List UInt8, cs = [(AV.txt x)] ∧ okT x := match d, h with
  | 0, h => False.elim h
  | d + 1, h => ty_text Tryd.underlying9 h
set_option maxRecDepth 100000 in
theorem ty_3 {d : Nat} {cs : List AV} (h : Typed Tryd.prog d 3 cs) : ∃ x : Int, cs = [(AV.int x)] ∧ okI x := match d, h with
  | 0, h => False.elim h
  | d + 1, h => ty_int Tryd.underlying3 h
def GColumn.ok (x : GColumn) : Prop := okT x.Name ∧ okI x.Kind ∧ okA x.Null
set_option maxRecDepth 100000 in
theorem ty_68 {d : Nat} {cs : List AV} (h : Typed Tryd.prog d 68 cs) : ∃ x : GColumn, cs = GColumn.cs x ∧ GColumn.ok x := match d, h with
  | 0, h => False.elim h
  | d + 1, h => by
    obtain ⟨es, rfl, hl, hf⟩ := ty_struct Tryd.underlying68 h
    match es, hl, hf with
    | [e0, e1, e2], _, hf =>
    obtain ⟨x0, h0, q0⟩ := ty_9 (hf 0 _ e0 rfl rfl)
    obtain ⟨x1, h1, q1⟩ := ty_3 (hf 1 _ e1 rfl rfl)
    obtain ⟨x2, h2, q2⟩ := ty_4 (hf 2 _ e2 rfl rfl)
    refine ⟨⟨x0, x1, x2⟩, ?_, ⟨q0, q1, q2⟩⟩
    rw [h0, h1, h2]
    simp only [List.flatten_cons, List.flatten_nil, List.append_nil, GColumn.cs]
set_option maxRecDepth 100000 in
theorem ty_35 {d : Nat} {cs : List AV} (h : Typed Tryd.prog d 35 cs) : ∃ x : List GColumn, cs = [((fun q : List GColumn => AV.lst (q.flatMap GColumn.cs) q.length) x)] ∧ (okL 32 GColumn.ok) x := match d, h with
  | 0, h => False.elim h
  | d + 1, h => ty_slicef (g := fun b : GColumn => GColumn.cs b) Tryd.underlying35 (bytes_of in_68) (fun _ hx => ty_68 hx) h
set_option maxRecDepth 100000 in
theorem ty_22 {d : Nat} {cs : List AV} (h : Typed Tryd.prog d 22 cs) : ∃ x : UInt64, cs = [(AV.u64 x)] ∧ okA x := match d, h with
  | 0, h => False.elim h
  | d + 1, h => ty_u64 Tryd.underlying22 h
def GValue.ok (x : GValue) : Prop := okI x.Kind ∧ okI x.Int_ ∧ okA x.Bits ∧ okT x.Text
set_option maxRecDepth 100000 in
theorem ty_29 {d : Nat} {cs : List AV} (h : Typed Tryd.prog d 29 cs) : ∃ x : GValue, cs = GValue.cs x ∧ GValue.ok x := match d, h with
  | 0, h => False.elim h
  | d + 1, h => by
    obtain ⟨es, rfl, hl, hf⟩ := ty_struct Tryd.underlying29 h
    match es, hl, hf with
    | [e0, e1, e2, e3], _, hf =>
    obtain ⟨x0, h0, q0⟩ := ty_3 (hf 0 _ e0 rfl rfl)
    obtain ⟨x1, h1, q1⟩ := ty_3 (hf 1 _ e1 rfl rfl)
    obtain ⟨x2, h2, q2⟩ := ty_22 (hf 2 _ e2 rfl rfl)
    obtain ⟨x3, h3, q3⟩ := ty_9 (hf 3 _ e3 rfl rfl)
    refine ⟨⟨x0, x1, x2, x3⟩, ?_, ⟨q0, q1, q2, q3⟩⟩
    rw [h0, h1, h2, h3]
    simp only [List.flatten_cons, List.flatten_nil, List.append_nil, GValue.cs]
set_option maxRecDepth 100000 in
theorem ty_38 {d : Nat} {cs : List AV} (h : Typed Tryd.prog d 38 cs) : ∃ x : List GValue, cs = [((fun q : List GValue => AV.lst (q.flatMap GValue.cs) q.length) x)] ∧ (okL 40 GValue.ok) x := match d, h with
  | 0, h => False.elim h
  | d + 1, h => ty_slicef (g := fun b : GValue => GValue.cs b) Tryd.underlying38 (bytes_of in_29) (fun _ hx => ty_29 hx) h
def GCell.ok (x : GCell) : Prop := okA x.Full ∧ (okL 40 GValue.ok) x.Row
set_option maxRecDepth 100000 in
theorem ty_42 {d : Nat} {cs : List AV} (h : Typed Tryd.prog d 42 cs) : ∃ x : GCell, cs = GCell.cs x ∧ GCell.ok x := match d, h with
  | 0, h => False.elim h
  | d + 1, h => by
    obtain ⟨es, rfl, hl, hf⟩ := ty_struct Tryd.underlying42 h
    match es, hl, hf with
    | [e0, e1], _, hf =>
    obtain ⟨x0, h0, q0⟩ := ty_4 (hf 0 _ e0 rfl rfl)
    obtain ⟨x1, h1, q1⟩ := ty_38 (hf 1 _ e1 rfl rfl)
    refine ⟨⟨x0, x1⟩, ?_, ⟨q0, q1⟩⟩
    rw [h0, h1]
    simp only [List.flatten_cons, List.flatten_nil, List.append_nil, GCell.cs]
set_option maxRecDepth 100000 in
theorem ty_43 {d : Nat} {cs : List AV} (h : Typed Tryd.prog d 43 cs) : ∃ x : Vector GCell 4, cs = x.toList.flatMap GCell.cs ∧ (okV GCell.ok) x := match d, h with
  | 0, h => False.elim h
  | d + 1, h => ty_arrayf (g := fun b : GCell => GCell.cs b) Tryd.underlying43 (fun _ hx => ty_42 hx) h
set_option maxRecDepth 100000 in
theorem ty_44 {d : Nat} {cs : List AV} (h : Typed Tryd.prog d 44 cs) : ∃ x : Vector (Vector GCell 4) 2, cs = x.toList.flatMap (fun v : Vector GCell 4 => v.toList.flatMap GCell.cs) ∧ (okV (okV GCell.ok)) x := match d, h with
  | 0, h => False.elim h
  | d + 1, h => ty_arrayf (g := fun b : Vector GCell 4 => b.toList.flatMap GCell.cs) Tryd.underlying44 (fun _ hx => ty_43 hx) h
def GTable.ok (x : GTable) : Prop := okA x.There ∧ okT x.Name ∧ (okL 32 GColumn.ok) x.Cols ∧ (okV (okV GCell.ok)) x.Drawers
set_option maxRecDepth 100000 in
theorem ty_46 {d : Nat} {cs : List AV} (h : Typed Tryd.prog d 46 cs) : ∃ x : GTable, cs = GTable.cs x ∧ GTable.ok x := match d, h with
  | 0, h => False.elim h
  | d + 1, h => by
    obtain ⟨es, rfl, hl, hf⟩ := ty_struct Tryd.underlying46 h
    match es, hl, hf with
    | [e0, e1, e2, e3], _, hf =>
    obtain ⟨x0, h0, q0⟩ := ty_4 (hf 0 _ e0 rfl rfl)
    obtain ⟨x1, h1, q1⟩ := ty_9 (hf 1 _ e1 rfl rfl)
    obtain ⟨x2, h2, q2⟩ := ty_35 (hf 2 _ e2 rfl rfl)
    obtain ⟨x3, h3, q3⟩ := ty_44 (hf 3 _ e3 rfl rfl)
    refine ⟨⟨x0, x1, x2, x3⟩, ?_, ⟨q0, q1, q2, q3⟩⟩
    rw [h0, h1, h2, h3]
    simp only [List.flatten_cons, List.flatten_nil, List.append_nil, GTable.cs]

/-! chirographref.keysFault -/
noncomputable def g_ref_keysFault_l1 (d0 : Vector GCell 4) (t9_0 : Int) (seen3_0 : List Int) : Int → Option (Int ⊕ (Int ⊕ Unit))
  | t17_1 => (if t17_1 < (seen3_0.length : Int) then if 0 ≤ t17_1 ∧ t17_1 < (seen3_0.length : Int) then if 0 < ((vrd d0 t9_0.toNat).Row).length then (if (lrd seen3_0 t17_1.toNat) = (lrd ((vrd d0 t9_0.toNat).Row) 0).Int_ then some (.inr (.inl (8 : Int))) else some (.inl (w64 (t17_1 + (1 : Int))))) else none else none else some (.inr (.inr ())))
noncomputable def g_ref_keysFault_l0 (d0 : Vector GCell 4) : Int × (List Int) → Option ((Int × (List Int)) ⊕ (Int ⊕ Unit))
  | (t9_0, seen3_0) => (if t9_0 < (4 : Int) then (show Option (Int ⊕ ((List Int))) from if 0 ≤ t9_0 ∧ t9_0 < (4 : Int) then (if (!((vrd d0 t9_0.toNat).Full)) = true then some (.inr seen3_0) else (loopO (g_ref_keysFault_l1 d0 t9_0 seen3_0) (0 : Int)).bind fun o'5 => match o'5 with | .inl y'6 => some (.inl y'6) | .inr (y'7) => if 0 < ((vrd d0 t9_0.toNat).Row).length then if room (seen3_0.length + ([(lrd ((vrd d0 t9_0.toNat).Row) 0).Int_] : List Int).length) 8 then some (.inr (seen3_0 ++ ([(lrd ((vrd d0 t9_0.toNat).Row) 0).Int_] : List Int))) else none else none) else none).bind fun o'9 => match o'9 with | .inl y'8 => some (.inr (.inl y'8)) | .inr j'1 => some (.inl (w64 (t9_0 + (1 : Int)), j'1)) else some (.inr (.inr ())))
noncomputable def g_ref_keysFault (d0 : Vector GCell 4) : Option (Int) :=
  (loopO (g_ref_keysFault_l0 d0) ((0 : Int), ([] : List Int))).bind fun o'13 => match o'13 with | .inl y'14 => some y'14 | .inr (y'15) => some (0 : Int)
set_option maxHeartbeats 4000000 in
set_option maxRecDepth 100000 in
theorem g_ref_keysFault_ac {d0 : Vector GCell 4} {r : Int} (H : g_ref_keysFault d0 = some r) : ACp Tryd.prog 45 [(.agg (d0.toList.flatMap GCell.cs))] (AV.int r) := by
 refine ACp_of (AC2_of_body (vs := [.i r]) Tryd.func45 rfl rfl (Nat.le_of_ble_eq_true rfl) rfl ?_) (fun _ => .same _)
 unfold g_ref_keysFault at H
 refine as2 [(0, .g (d0.toList.flatMap GCell.cs))] [] rfl rfl rfl ?_
 refine sg [0, 1] rfl ?_
 refine r_op rfl rfl (MakeD.opD (n_box 1 rfl rfl) rfl rfl rfl rfl) ?_
 refine rp rfl rfl (p_asg rfl rfl) ?_
 refine rz [(1, .q 1 (0))] [(1, .pure (d0.toList.flatMap GCell.cs))] rfl rfl rfl ?_
 refine sg [0] rfl ?_
 refine rp rfl rfl (p_asgn rfl) ?_
 refine rz [(1, .q 1 (0)), (3, .p .nil)] [(1, .pure (d0.toList.flatMap GCell.cs))] rfl rfl rfl ?_
 refine AW2_seq ?_
 refine sg [0, 1] rfl ?_
 refine rp rfl rfl (u_lda rfl rfl Tryd.underlying43 rfl in_43 rfl (Nat.succ_pos _) (Sub.refl _) (vfm_len (fun x => (GCell.len x)) d0)) ?_
 refine rp rfl rfl (p_move rfl rfl) ?_
 refine rz [(3, .p .nil), (8, .g (d0.toList.flatMap GCell.cs)), (9, .i (0 : Int))] [] rfl rfl rfl ?_
 refine AW2_block ?_
 refine as2 [(3, .p .nil), (8, .g (d0.toList.flatMap GCell.cs)), (9, .i (0 : Int))] [] rfl rfl rfl ?_
 refine AW2_gho (Gho_own (d := 3) (b := 3) (z := 1) rfl rfl rfl rfl) ?_
 refine AW2_st [(3, .c (.own 3 ([] : List Int).length 1)), (8, .g (d0.toList.flatMap GCell.cs)), (9, .i (0 : Int))] [(3, .pure (([] : List Int).map AV.int))] rfl ⟨TLes.own rfl, TLes.same _, TLes.same _, trivial⟩ ⟨rfl, trivial⟩ ?_
 refine bindK H fun o'13 h12 H => ?_
 refine AW2_loopO (fun a'10 : Int × (List Int) => (⟨[(3, .c (.own 3 a'10.2.length 1)), (8, .g (d0.toList.flatMap GCell.cs)), (9, .i a'10.1)], [(3, .pure (a'10.2.map AV.int))], 38⟩ : TS)) (fun (o : Int ⊕ Unit) e s' => match o with | .inl y'11 => e = Go.Exit.ret ∧ ResAll Tryd.prog s' [ResultVar.tmp 2] [.i y'11] ∧ HFits s' [] | .inr (y'12) => e = Go.Exit.exit 0 ∧ s' = (⟨[], [], 38⟩ : TS)) h12 rfl (fun a x hx => ?_) (fun e s' hs => ?_)
 ·clear H
  obtain ⟨t9_0, seen3_0⟩ := a
  have H := hx
  clear hx
  unfold g_ref_keysFault_l0 at H
  refine sg [0] rfl ?_
  refine rp rfl rfl (p_bin rfl rfl rfl rfl) ?_
  refine rz [(3, .c (.own 3 seen3_0.length 1)), (8, .g (d0.toList.flatMap GCell.cs)), (9, .i t9_0), (10, .b (decide (t9_0 < (4 : Int))))] [(3, .pure (seen3_0.map AV.int))] rfl rfl rfl ?_
  refine AW2_seq ?_
  refine AW2_if (p := t9_0 < (4 : Int)) rfl (fun h1 => ?_) (fun h1 => ?_)
  ·replace H := ite_then h1 H
   refine as2 [(3, .c (.own 3 seen3_0.length 1)), (8, .g (d0.toList.flatMap GCell.cs)), (9, .i t9_0)] [(3, .pure (seen3_0.map AV.int))] rfl rfl rfl ?_
   refine AW2_skip ?_
   refine AW2_seq ?_
   refine bindK H fun o'9 h2 H => ?_
   refine AW2_join (fun j'1 : (List Int) => (⟨[(3, .c (.own 3 j'1.length 1)), (8, .g (d0.toList.flatMap GCell.cs)), (9, .i t9_0)], [(3, .pure (j'1.map AV.int))], 38⟩ : TS)) (fun r e s' => e = Go.Exit.ret ∧ ResAll Tryd.prog s' [ResultVar.tmp 2] [.i r] ∧ HFits s' []) (x := o'9) ?_ (fun j'1 hy => ?_) (fun y'8 e s' hy hs => ?_)
   ·clear H
    have H := h2
    clear h2
    refine AW2_block ?_
    refine sg [0, 1, 2] rfl ?_
    refine chkK H fun h3 H => ?_
    refine rp rfl rfl (u_ixaa rfl rfl Tryd.underlying43 in_42 Tryd.underlying42 rfl rfl rfl (ixe h3) (ixn h3) (Sub.vfm (fun x => (GCell.len x)) (ixn h3)) (GCell.len (vrd d0 t9_0.toNat))) ?_
    refine r_op rfl rfl (MakeD.opD (u_alloc 5 rfl in_42 one_42 zc_42) rfl rfl rfl rfl) ?_
    refine r_op rfl rfl (u_st rfl rfl rfl rfl rfl in_42 (GCell.len (vrd d0 t9_0.toNat)) (ne_of_lt (n := 0) (Nat.lt_of_lt_of_eq (by decide) (Eq.symm (GCell.len GCell.zero)))) (Upd.refl ((GCell.len (vrd d0 t9_0.toNat)).trans (GCell.len GCell.zero).symm))) ?_
    refine rz [(3, .c (.own 3 seen3_0.length 1)), (5, .q 5 (0)), (8, .g (d0.toList.flatMap GCell.cs)), (9, .i t9_0)] [(3, .pure (seen3_0.map AV.int)), (5, .pure (GCell.cs (vrd d0 t9_0.toNat)))] rfl rfl rfl ?_
    refine AW2_seq ?_
    refine sg [0, 1, 2] rfl ?_
    refine rp rfl rfl (u_fa rfl rfl Tryd.underlying42 rfl in_4 (Nat.succ_ne_zero _) rfl rfl (ne_of_lt (n := 0) (Nat.lt_of_lt_of_eq (by decide) (Eq.symm (GCell.len (vrd d0 t9_0.toNat)))))) ?_
    refine rp rfl rfl (u_ld rfl rfl Tryd.underlying4 rfl rfl ((Sub.refl _).trans (GCell.sub0 (vrd d0 t9_0.toNat)))) ?_
    refine rp rfl rfl (p_not rfl rfl) ?_
    refine rz [(3, .c (.own 3 seen3_0.length 1)), (5, .q 5 (0)), (8, .g (d0.toList.flatMap GCell.cs)), (9, .i t9_0), (14, .b (!((vrd d0 t9_0.toNat).Full)))] [(3, .pure (seen3_0.map AV.int)), (5, .pure (GCell.cs (vrd d0 t9_0.toNat)))] rfl rfl rfl ?_
    refine AW2_cond rfl (fun h4 => ?_) (fun h4 => ?_)
    ·replace H := ite_then h4 H
     refine as2 [(3, .c (.own 3 seen3_0.length 1)), (8, .g (d0.toList.flatMap GCell.cs)), (9, .i t9_0)] [(3, .pure (seen3_0.map AV.int))] rfl rfl rfl ?_
     refine AW2_exit ?_
     refine thenQ2_exit ?_
     refine blockQ2_exit ?_
     have hz := some_elim H
     subst hz
     exact ⟨rfl, rfl⟩
    ·replace H := ite_else (ne_true h4) H
     refine as2 [(3, .c (.own 3 seen3_0.length 1)), (5, .q 5 (0)), (8, .g (d0.toList.flatMap GCell.cs)), (9, .i t9_0)] [(3, .pure (seen3_0.map AV.int)), (5, .pure (GCell.cs (vrd d0 t9_0.toNat)))] rfl rfl rfl ?_
     refine AW2_skip ?_
     refine AW2_seq ?_
     refine sg [0, 1, 2] rfl ?_
     refine rp rfl rfl (p_move rfl rfl) ?_
     refine rp rfl rfl (p_leno rfl Tryd.underlying88 rfl rfl rfl (ml AV.int seen3_0) (by decide)) ?_
     refine rp rfl rfl (p_move rfl rfl) ?_
     refine rz [(3, .c (.own 3 seen3_0.length 1)), (5, .q 5 (0)), (8, .g (d0.toList.flatMap GCell.cs)), (9, .i t9_0), (15, .c (.own 3 seen3_0.length 1)), (16, .i (seen3_0.length : Int)), (17, .i (0 : Int))] [(3, .pure (seen3_0.map AV.int)), (5, .pure (GCell.cs (vrd d0 t9_0.toNat)))] rfl rfl rfl ?_
     refine AW2_block ?_
     refine as2 [(3, .c (.own 3 seen3_0.length 1)), (5, .q 5 (0)), (8, .g (d0.toList.flatMap GCell.cs)), (9, .i t9_0), (15, .c (.own 3 seen3_0.length 1)), (16, .i (seen3_0.length : Int)), (17, .i (0 : Int))] [(3, .pure (seen3_0.map AV.int)), (5, .pure (GCell.cs (vrd d0 t9_0.toNat)))] rfl rfl rfl ?_
     refine bindK H fun o'5 h9 H => ?_
     refine AW2_loopO (fun a'2 : Int => (⟨[(3, .c (.own 3 seen3_0.length 1)), (5, .q 5 (0)), (8, .g (d0.toList.flatMap GCell.cs)), (9, .i t9_0), (15, .c (.own 3 seen3_0.length 1)), (16, .i (seen3_0.length : Int)), (17, .i a'2)], [(3, .pure (seen3_0.map AV.int)), (5, .pure (GCell.cs (vrd d0 t9_0.toNat)))], 38⟩ : TS)) (fun (o : Int ⊕ Unit) e s' => match o with | .inl y'3 => e = Go.Exit.ret ∧ ResAll Tryd.prog s' [ResultVar.tmp 2] [.i y'3] ∧ HFits s' [] | .inr (y'4) => e = Go.Exit.exit 2 ∧ s' = (⟨[(3, .c (.own 3 seen3_0.length 1)), (5, .q 5 (0)), (8, .g (d0.toList.flatMap GCell.cs)), (9, .i t9_0)], [(3, .pure (seen3_0.map AV.int)), (5, .pure (GCell.cs (vrd d0 t9_0.toNat)))], 38⟩ : TS)) h9 rfl (fun t17_1 x hx => ?_) (fun e s' hs => ?_)
     ·clear H
      have H := hx
      clear hx
      unfold g_ref_keysFault_l1 at H
      refine sg [0] rfl ?_
      refine rp rfl rfl (p_bin rfl rfl rfl rfl) ?_
      refine rz [(3, .c (.own 3 seen3_0.length 1)), (5, .q 5 (0)), (8, .g (d0.toList.flatMap GCell.cs)), (9, .i t9_0), (15, .c (.own 3 seen3_0.length 1)), (16, .i (seen3_0.length : Int)), (17, .i t17_1), (18, .b (decide (t17_1 < (seen3_0.length : Int))))] [(3, .pure (seen3_0.map AV.int)), (5, .pure (GCell.cs (vrd d0 t9_0.toNat)))] rfl rfl rfl ?_
      refine AW2_seq ?_
      refine AW2_if (p := t17_1 < (seen3_0.length : Int)) rfl (fun h5 => ?_) (fun h5 => ?_)
      ·replace H := ite_then h5 H
       refine as2 [(3, .c (.own 3 seen3_0.length 1)), (5, .q 5 (0)), (8, .g (d0.toList.flatMap GCell.cs)), (9, .i t9_0), (15, .c (.own 3 seen3_0.length 1)), (16, .i (seen3_0.length : Int)), (17, .i t17_1)] [(3, .pure (seen3_0.map AV.int)), (5, .pure (GCell.cs (vrd d0 t9_0.toNat)))] rfl rfl rfl ?_
       refine AW2_skip ?_
       refine AW2_seq ?_
       refine AW2_block ?_
       refine sg [0, 1, 2] rfl ?_
       refine chkK H fun h6 H => ?_
       refine rp rfl rfl (u_ixo rfl rfl Tryd.underlying88 in_3 rfl rfl (lne (ixn h6)) rfl (ixe h6) (ixn h6)) ?_
       refine rp rfl rfl (u_ld rfl rfl Tryd.underlying3 rfl rfl ((Sub.refl _).trans (Sub.map default (ixn h6)))) ?_
       refine rp rfl rfl (p_asg rfl rfl) ?_
       refine rz [(3, .c (.own 3 seen3_0.length 1)), (5, .q 5 (0)), (7, .i (lrd seen3_0 t17_1.toNat)), (8, .g (d0.toList.flatMap GCell.cs)), (9, .i t9_0), (15, .c (.own 3 seen3_0.length 1)), (16, .i (seen3_0.length : Int)), (17, .i t17_1)] [(3, .pure (seen3_0.map AV.int)), (5, .pure (GCell.cs (vrd d0 t9_0.toNat)))] rfl rfl rfl ?_
       refine sg [0, 1, 2, 3, 4, 5, 6] rfl ?_
       refine rp rfl rfl (p_move rfl rfl) ?_
       refine rp rfl rfl (u_fa rfl rfl Tryd.underlying42 rfl in_38 (Nat.succ_ne_zero _) rfl rfl (ne_of_lt (n := 0) (Nat.lt_of_lt_of_eq (by decide) (Eq.symm (GCell.len (vrd d0 t9_0.toNat)))))) ?_
       refine rp rfl rfl (u_ld rfl rfl Tryd.underlying38 rfl rfl ((Sub.refl _).trans (GCell.sub1 (vrd d0 t9_0.toNat)))) ?_
       refine chkK H fun h7 H => ?_
       refine rp rfl rfl (u_ixl rfl rfl Tryd.underlying38 in_29 rfl rfl rfl h7 (fne (fun x => (GValue.len x)) (by decide) h7)) ?_
       refine rp rfl rfl (u_far rfl rfl Tryd.underlying29 rfl in_3 (Nat.succ_ne_zero _) rfl) ?_
       refine rp rfl rfl (u_ld rfl rfl Tryd.underlying3 rfl rfl ((Sub.fm default (fun x => (GValue.len x)) h7).trans (GValue.sub1 (lrd ((vrd d0 t9_0.toNat).Row) 0)))) ?_
       refine rp rfl rfl (p_ieq rfl rfl rfl) ?_
       refine rz [(3, .c (.own 3 seen3_0.length 1)), (5, .q 5 (0)), (8, .g (d0.toList.flatMap GCell.cs)), (9, .i t9_0), (15, .c (.own 3 seen3_0.length 1)), (16, .i (seen3_0.length : Int)), (17, .i t17_1), (27, .b (decide ((lrd seen3_0 t17_1.toNat) = (lrd ((vrd d0 t9_0.toNat).Row) 0).Int_)))] [(3, .pure (seen3_0.map AV.int)), (5, .pure (GCell.cs (vrd d0 t9_0.toNat)))] rfl rfl rfl ?_
       refine AW2_if (p := (lrd seen3_0 t17_1.toNat) = (lrd ((vrd d0 t9_0.toNat).Row) 0).Int_) rfl (fun h8 => ?_) (fun h8 => ?_)
       ·replace H := ite_then h8 H
        refine sg [0] rfl ?_
        refine rp rfl rfl (p_asg rfl rfl) ?_
        refine rz [(2, .i (8 : Int))] [] rfl rfl rfl ?_
        refine AW2_ret ?_
        have hz := some_elim H
        subst hz
        exact ⟨rfl, ⟨res_tmp (.same _), trivial⟩, trivial⟩
       ·replace H := ite_else h8 H
        refine as2 [(3, .c (.own 3 seen3_0.length 1)), (5, .q 5 (0)), (8, .g (d0.toList.flatMap GCell.cs)), (9, .i t9_0), (15, .c (.own 3 seen3_0.length 1)), (16, .i (seen3_0.length : Int)), (17, .i t17_1)] [(3, .pure (seen3_0.map AV.int)), (5, .pure (GCell.cs (vrd d0 t9_0.toNat)))] rfl rfl rfl ?_
        refine AW2_skip ?_
        refine AW2_reg [0, 1] rfl ?_
        refine rp rfl rfl (p_bin rfl rfl rfl rfl) ?_
        refine rp rfl rfl (p_move rfl rfl) ?_
        refine rz [(3, .c (.own 3 seen3_0.length 1)), (5, .q 5 (0)), (8, .g (d0.toList.flatMap GCell.cs)), (9, .i t9_0), (15, .c (.own 3 seen3_0.length 1)), (16, .i (seen3_0.length : Int)), (17, .i (w64 (t17_1 + (1 : Int))))] [(3, .pure (seen3_0.map AV.int)), (5, .pure (GCell.cs (vrd d0 t9_0.toNat)))] rfl rfl rfl ?_
        have hz := some_elim H
        subst hz
        exact ⟨rfl, rfl⟩
      ·replace H := ite_else h5 H
       refine as2 [(3, .c (.own 3 seen3_0.length 1)), (5, .q 5 (0)), (8, .g (d0.toList.flatMap GCell.cs)), (9, .i t9_0)] [(3, .pure (seen3_0.map AV.int)), (5, .pure (GCell.cs (vrd d0 t9_0.toNat)))] rfl rfl rfl ?_
       refine AW2_exit ?_
       refine thenQ2_exit ?_
       have hz := some_elim H
       subst hz
       exact ⟨rfl, rfl⟩
     ·rcases o'5 with y'6 | y'7
      ·obtain ⟨rfl, hs⟩ := hs
       refine ⟨by simp, ?_⟩
       have hz := some_elim H
       subst hz
       exact ⟨rfl, hs.1, hs.2⟩
      ·obtain ⟨rfl, rfl⟩ := hs
       refine ⟨by simp, ?_⟩
       refine blockQ2_exit ?_
       refine AW2_reg [0, 1, 2, 3, 4, 5, 6, 7, 8] rfl ?_
       refine rp rfl rfl (p_move rfl rfl) ?_
       refine rp rfl rfl (u_fa rfl rfl Tryd.underlying42 rfl in_38 (Nat.succ_ne_zero _) rfl rfl (ne_of_lt (n := 0) (Nat.lt_of_lt_of_eq (by decide) (Eq.symm (GCell.len (vrd d0 t9_0.toNat)))))) ?_
       refine rp rfl rfl (u_ld rfl rfl Tryd.underlying38 rfl rfl ((Sub.refl _).trans (GCell.sub1 (vrd d0 t9_0.toNat)))) ?_
       refine chkK H fun h10 H => ?_
       refine rp rfl rfl (u_ixl rfl rfl Tryd.underlying38 in_29 rfl rfl rfl h10 (fne (fun x => (GValue.len x)) (by decide) h10)) ?_
       refine rp rfl rfl (u_far rfl rfl Tryd.underlying29 rfl in_3 (Nat.succ_ne_zero _) rfl) ?_
       refine rp rfl rfl (u_ld rfl rfl Tryd.underlying3 rfl rfl ((Sub.fm default (fun x => (GValue.len x)) h10).trans (GValue.sub1 (lrd ((vrd d0 t9_0.toNat).Row) 0)))) ?_
       refine r_op rfl rfl (MakeD.opD (u_bs 35 rfl Tryd.underlying88 in_3 rfl one_3 (by decide) (by decide) rfl rfl rfl) rfl rfl rfl rfl) ?_
       refine chkK H fun h11 H => ?_
       refine r_op rfl rfl (u_app [3, 29] rfl rfl rfl rfl Tryd.underlying88 Tryd.underlying88 in_3 rfl rfl rfl (ml AV.int seen3_0) (by decide) (srcT_o rfl rfl (ml AV.int ([(lrd ((vrd d0 t9_0.toNat).Row) 0).Int_] : List Int)) (by decide)) (ml AV.int ([(lrd ((vrd d0 t9_0.toNat).Row) 0).Int_] : List Int)) h11 (by decide) rfl rfl (mapp AV.int seen3_0 ([(lrd ((vrd d0 t9_0.toNat).Row) 0).Int_] : List Int)) (lapp seen3_0 ([(lrd ((vrd d0 t9_0.toNat).Row) 0).Int_] : List Int))) ?_
       refine rp rfl rfl (p_asg rfl rfl) ?_
       refine rz [(3, .c (.own 3 (seen3_0 ++ ([(lrd ((vrd d0 t9_0.toNat).Row) 0).Int_] : List Int)).length 1)), (8, .g (d0.toList.flatMap GCell.cs)), (9, .i t9_0)] [(3, .pure ((seen3_0 ++ ([(lrd ((vrd d0 t9_0.toNat).Row) 0).Int_] : List Int)).map AV.int))] rfl rfl rfl ?_
       have hz := some_elim H
       subst hz
       exact ⟨rfl, rfl⟩
   ·subst hy
    refine AW2_reg [0, 1] rfl ?_
    refine rp rfl rfl (p_bin rfl rfl rfl rfl) ?_
    refine rp rfl rfl (p_move rfl rfl) ?_
    refine rz [(3, .c (.own 3 j'1.length 1)), (8, .g (d0.toList.flatMap GCell.cs)), (9, .i (w64 (t9_0 + (1 : Int))))] [(3, .pure (j'1.map AV.int))] rfl rfl rfl ?_
    have hz := some_elim H
    subst hz
    exact ⟨rfl, rfl⟩
   ·subst hy
    obtain ⟨rfl, hs⟩ := hs
    have hz := some_elim H
    subst hz
    exact ⟨rfl, hs.1, hs.2⟩
  ·replace H := ite_else h1 H
   refine as2 [] [] rfl rfl rfl ?_
   refine AW2_exit ?_
   refine thenQ2_exit ?_
   have hz := some_elim H
   subst hz
   exact ⟨rfl, rfl⟩
 ·rcases o'13 with y'14 | y'15
  ·obtain ⟨rfl, hs⟩ := hs
   refine ⟨by simp, ?_⟩
   have hz := some_elim H
   subst hz
   exact ⟨hs.1, hs.2⟩
  ·obtain ⟨rfl, rfl⟩ := hs
   refine ⟨by simp, ?_⟩
   refine blockQ2_exit ?_
   refine sg [0] rfl ?_
   refine rp rfl rfl (p_asg rfl rfl) ?_
   refine rz [(2, .i (0 : Int))] [] rfl rfl rfl ?_
   refine AW2_ret ?_
   have hz := some_elim H
   subst hz
   exact ⟨⟨res_tmp (.same _), trivial⟩, trivial⟩

/-! chirographref.TableFault -/
noncomputable def g_ref_TableFault_l1 (t0 : GTable) (t52_0 : Int) : Int → Option (Int ⊕ (Int ⊕ Unit))
  | t56_1 => (if t56_1 < (4 : Int) then (show Option (Int ⊕ Unit) from if 0 ≤ t56_1 ∧ t56_1 < (4 : Int) then (if ((vrd (vrd t0.Drawers t52_0.toNat) t56_1.toNat).Full) = true then (g_ref_RowFault ((vrd (vrd t0.Drawers t52_0.toNat) t56_1.toNat).Row) t0.Cols).bind fun r'5 => (if r'5 ≠ (0 : Int) then some (.inl r'5) else some (.inr ())) else (if (((vrd (vrd t0.Drawers t52_0.toNat) t56_1.toNat).Row).length : Int) ≠ (0 : Int) then some (.inl (3 : Int)) else some (.inr ()))) else none).bind fun o'7 => match o'7 with | .inl y'6 => some (.inr (.inl y'6)) | .inr j'4 => some (.inl (w64 (t56_1 + (1 : Int)))) else some (.inr (.inr ())))
noncomputable def g_ref_TableFault_l0 (t0 : GTable) : Int → Option (Int ⊕ (Int ⊕ Unit))
  | t52_0 => (if t52_0 < (2 : Int) then if 0 ≤ t52_0 ∧ t52_0 < (2 : Int) then (loopO (g_ref_TableFault_l1 t0 t52_0) (0 : Int)).bind fun o'11 => match o'11 with | .inl y'12 => some (.inr (.inl y'12)) | .inr (y'13) => (g_ref_keysFault (vrd t0.Drawers t52_0.toNat)).bind fun r'14 => (if r'14 ≠ (0 : Int) then some (.inr (.inl r'14)) else some (.inl (w64 (t52_0 + (1 : Int))))) else none else some (.inr (.inr ())))
noncomputable def g_ref_TableFault (t0 : GTable) : Option (Int) :=
  (if (!t0.There) = true then some (5 : Int) else (g_ref_isName t0.Name).bind fun r'1 => (if ((!r'1) = true) ∨ ((t0.Name.length : Int) > (8 : Int)) then some (3 : Int) else (g_ref_ColumnsFault t0.Cols).bind fun r'2 => (if r'2 ≠ (0 : Int) then some r'2 else ((if (t0.Cols.length : Int) = (0 : Int) then some true else if 0 < t0.Cols.length then (if (lrd t0.Cols 0).Kind ≠ (2 : Int) then some true else if 0 < t0.Cols.length then some ((lrd t0.Cols 0).Null) else none) else none)).bind fun g'3 => (if g'3 = true then some (3 : Int) else (loopO (g_ref_TableFault_l0 t0) (0 : Int)).bind fun o'18 => match o'18 with | .inl y'19 => some y'19 | .inr (y'20) => some (0 : Int)))))
set_option maxHeartbeats 4000000 in
set_option maxRecDepth 100000 in
theorem g_ref_TableFault_ac {t0 : GTable} {r : Int} (H : g_ref_TableFault t0 = some r) : ACp Tryd.prog 19 [(.agg (GTable.cs t0))] (AV.int r) := by
 refine ACp_of (AC2_of_body (vs := [.i r]) Tryd.func19 rfl rfl (Nat.le_of_ble_eq_true rfl) rfl ?_) (fun _ => .same _)
 unfold g_ref_TableFault at H
 refine as2 [(0, .g (GTable.cs t0))] [] rfl rfl rfl ?_
 refine sg [0, 1] rfl ?_
 refine r_op rfl rfl (MakeD.opD (n_box 1 rfl rfl) rfl rfl rfl rfl) ?_
 refine rp rfl rfl (p_asg rfl rfl) ?_
 refine rz [(1, .q 1 (0))] [(1, .pure (GTable.cs t0))] rfl rfl rfl ?_
 refine AW2_seq ?_
 refine AW2_block ?_
 refine sg [0, 1, 2, 3] rfl ?_
 refine rp rfl rfl (u_fa rfl rfl Tryd.underlying46 rfl in_4 (Nat.succ_ne_zero _) rfl rfl (ne_of_lt (n := 0) (Nat.lt_of_lt_of_eq (by decide) (Eq.symm (GTable.len t0))))) ?_
 refine rp rfl rfl (u_ld rfl rfl Tryd.underlying4 rfl rfl ((Sub.refl _).trans (GTable.sub0 t0))) ?_
 refine rp rfl rfl (p_not rfl rfl) ?_
 refine rp rfl rfl (p_asg rfl rfl) ?_
 refine rz [(1, .q 1 (0)), (10, .b (!t0.There))] [(1, .pure (GTable.cs t0))] rfl rfl rfl ?_
 refine AW2_cond rfl (fun h1 => ?_) (fun h1 => ?_)
 ·replace H := ite_then h1 H
  refine sg [0] rfl ?_
  refine rp rfl rfl (p_asg rfl rfl) ?_
  refine rz [(2, .i (5 : Int))] [] rfl rfl rfl ?_
  refine AW2_ret ?_
  have hz := some_elim H
  subst hz
  exact ⟨⟨res_tmp (.same _), trivial⟩, trivial⟩
 ·replace H := ite_else (ne_true h1) H
  refine AW2_seq ?_
  refine bindK H fun r'1 h2 H => ?_
  refine AW2_mid (⟨[(1, .q 1 (0)), (14, .b (decide (((!r'1) = true) ∨ ((t0.Name.length : Int) > (8 : Int)))))], [(1, .pure (GTable.cs t0))], 80⟩ : TS) ?_ ?_
  ·refine AW2_reg [0, 1, 2, 3, 4, 5, 6, 7, 8, 9, 10] rfl ?_
   refine rp rfl rfl (u_fa rfl rfl Tryd.underlying46 rfl in_9 (Nat.succ_ne_zero _) rfl rfl (ne_of_lt (n := 0) (Nat.lt_of_lt_of_eq (by decide) (Eq.symm (GTable.len t0))))) ?_
   refine rp rfl rfl (u_ld rfl rfl Tryd.underlying9 rfl rfl ((Sub.refl _).trans (GTable.sub1 t0))) ?_
   refine rp rfl rfl (p_callp rfl rfl rfl Tryd.func33 rfl rfl (g_ref_isName_ac h2) ⟨rfl, trivial⟩) ?_
   refine rp rfl rfl (p_not rfl rfl) ?_
   refine rp rfl rfl (p_move rfl rfl) ?_
   refine (Classical.em ((!r'1) = true)).elim (fun h3 => ?_) (fun h3 => ?_)
   ·refine r_off rfl rfl rfl rfl h3 rfl rfl ?_
    refine r_off rfl rfl rfl rfl h3 rfl rfl ?_
    refine r_off rfl rfl rfl rfl h3 rfl rfl ?_
    refine r_off rfl rfl rfl rfl h3 rfl rfl ?_
    refine rp rfl rfl (p_pkt rfl rfl h3 (tb (decide_eq_true (p := ((!r'1) = true) ∨ ((t0.Name.length : Int) > (8 : Int))) (Or.inl h3)).symm)) ?_
    refine rp rfl rfl (p_asg rfl rfl) ?_
    refine rs [(1, .q 1 (0)), (14, .b (decide (((!r'1) = true) ∨ ((t0.Name.length : Int) > (8 : Int)))))] [(1, .pure (GTable.cs t0))] rfl rfl rfl ?_
    exact RunW_nil rfl
   ·refine r_on rfl rfl rfl rfl (bfalse h3) rfl (PureD.opD (u_fa rfl rfl Tryd.underlying46 rfl in_9 (Nat.succ_ne_zero _) rfl rfl (ne_of_lt (n := 0) (Nat.lt_of_lt_of_eq (by decide) (Eq.symm (GTable.len t0)))))) ?_
    refine r_on rfl rfl rfl rfl (bfalse h3) rfl (PureD.opD (u_ld rfl rfl Tryd.underlying9 rfl rfl ((Sub.refl _).trans (GTable.sub1 t0)))) ?_
    refine r_on rfl rfl rfl rfl (bfalse h3) rfl (PureD.opD (p_lent rfl Tryd.underlying9 rfl)) ?_
    refine r_on rfl rfl rfl rfl (bfalse h3) rfl (PureD.opD (p_bin rfl rfl rfl rfl)) ?_
    refine rp rfl rfl (p_pkf rfl rfl (bfalse h3) (tb ((or_l (p := (!r'1) = true) (q := (t0.Name.length : Int) > (8 : Int)) h3)))) ?_
    refine rp rfl rfl (p_asg rfl rfl) ?_
    refine rs [(1, .q 1 (0)), (14, .b (decide (((!r'1) = true) ∨ ((t0.Name.length : Int) > (8 : Int)))))] [(1, .pure (GTable.cs t0))] rfl rfl rfl ?_
    exact RunW_nil rfl
  ·refine AW2_if (p := ((!r'1) = true) ∨ ((t0.Name.length : Int) > (8 : Int))) rfl (fun h4 => ?_) (fun h4 => ?_)
   ·replace H := ite_then h4 H
    refine sg [0] rfl ?_
    refine rp rfl rfl (p_asg rfl rfl) ?_
    refine rz [(2, .i (3 : Int))] [] rfl rfl rfl ?_
    refine AW2_ret ?_
    have hz := some_elim H
    subst hz
    exact ⟨⟨res_tmp (.same _), trivial⟩, trivial⟩
   ·replace H := ite_else h4 H
    refine as2 [(1, .q 1 (0))] [(1, .pure (GTable.cs t0))] rfl rfl rfl ?_
    refine AW2_skip ?_
    refine AW2_seq ?_
    refine sg [0, 1, 2, 3] rfl ?_
    refine rp rfl rfl (u_fa rfl rfl Tryd.underlying46 rfl in_35 (Nat.succ_ne_zero _) rfl rfl (ne_of_lt (n := 0) (Nat.lt_of_lt_of_eq (by decide) (Eq.symm (GTable.len t0))))) ?_
    refine rp rfl rfl (u_ld rfl rfl Tryd.underlying35 rfl rfl ((Sub.refl _).trans (GTable.sub2 t0))) ?_
    refine bindK H fun r'2 h5 H => ?_
    refine rp rfl rfl (p_callp rfl rfl rfl Tryd.func15 rfl rfl (g_ref_ColumnsFault_ac h5) ⟨rfl, trivial⟩) ?_
    refine rp rfl rfl (p_asg rfl rfl) ?_
    refine rz [(1, .q 1 (0)), (3, .i r'2)] [(1, .pure (GTable.cs t0))] rfl rfl rfl ?_
    refine sg [0, 1] rfl ?_
    refine rp rfl rfl (p_move rfl rfl) ?_
    refine rp rfl rfl (p_ine rfl rfl rfl) ?_
    refine rz [(1, .q 1 (0)), (3, .i r'2), (29, .b (decide (r'2 ≠ (0 : Int))))] [(1, .pure (GTable.cs t0))] rfl rfl rfl ?_
    refine AW2_if (p := r'2 ≠ (0 : Int)) rfl (fun h6 => ?_) (fun h6 => ?_)
    ·replace H := ite_then h6 H
     refine sg [0, 1] rfl ?_
     refine rp rfl rfl (p_move rfl rfl) ?_
     refine rp rfl rfl (p_asg rfl rfl) ?_
     refine rz [(2, .i r'2)] [] rfl rfl rfl ?_
     refine AW2_ret ?_
     have hz := some_elim H
     subst hz
     exact ⟨⟨res_tmp (.same _), trivial⟩, trivial⟩
    ·replace H := ite_else h6 H
     refine as2 [(1, .q 1 (0))] [(1, .pure (GTable.cs t0))] rfl rfl rfl ?_
     refine AW2_skip ?_
     refine AW2_seq ?_
     refine AW2_seq ?_
     refine bindK H fun g'3 h12 H => ?_
     refine AW2_mid (⟨[(1, .q 1 (0)), (49, .b g'3)], [(1, .pure (GTable.cs t0))], 80⟩ : TS) ?_ ?_
     ·clear H
      have H := h12
      clear h12
      refine AW2_reg [0, 1, 2, 3, 4, 5, 6, 7, 8, 9, 10, 11, 12, 13, 14, 15, 16, 17, 18] rfl ?_
      refine rp rfl rfl (u_fa rfl rfl Tryd.underlying46 rfl in_35 (Nat.succ_ne_zero _) rfl rfl (ne_of_lt (n := 0) (Nat.lt_of_lt_of_eq (by decide) (Eq.symm (GTable.len t0))))) ?_
      refine rp rfl rfl (u_ld rfl rfl Tryd.underlying35 rfl rfl ((Sub.refl _).trans (GTable.sub2 t0))) ?_
      refine rp rfl rfl (p_lenl rfl Tryd.underlying35 rfl rfl) ?_
      refine rp rfl rfl (p_ieq rfl rfl rfl) ?_
      refine rp rfl rfl (p_move rfl rfl) ?_
      refine (Classical.em ((t0.Cols.length : Int) = (0 : Int))).elim (fun h8 => ?_) (fun h8 => ?_)
      ·replace H := ite_then h8 H
       refine r_off rfl rfl rfl rfl (decide_eq_true h8) rfl rfl ?_
       refine r_off rfl rfl rfl rfl (decide_eq_true h8) rfl rfl ?_
       refine r_off rfl rfl rfl rfl (decide_eq_true h8) rfl rfl ?_
       refine r_off rfl rfl rfl rfl (decide_eq_true h8) rfl rfl ?_
       refine r_off rfl rfl rfl rfl (decide_eq_true h8) rfl rfl ?_
       refine r_off rfl rfl rfl rfl (decide_eq_true h8) rfl rfl ?_
       refine rp rfl rfl (p_pkt rfl rfl (decide_eq_true h8) (.same _)) ?_
       refine rp rfl rfl (p_move rfl rfl) ?_
       refine r_off rfl rfl rfl rfl rfl rfl rfl ?_
       refine r_off rfl rfl rfl rfl rfl rfl rfl ?_
       refine r_off rfl rfl rfl rfl rfl rfl rfl ?_
       refine r_off rfl rfl rfl rfl rfl rfl rfl ?_
       refine r_off rfl rfl rfl rfl rfl rfl rfl ?_
       refine rp rfl rfl (p_pkt rfl rfl rfl (.same _)) ?_
       refine rs [(1, .q 1 (0)), (49, .b true)] [(1, .pure (GTable.cs t0))] rfl rfl rfl ?_
       have hz := some_elim H
       subst hz
       exact RunW_nil rfl
      ·replace H := ite_else h8 H
       refine r_on rfl rfl rfl rfl (decide_eq_false h8) rfl (PureD.opD (u_fa rfl rfl Tryd.underlying46 rfl in_35 (Nat.succ_ne_zero _) rfl rfl (ne_of_lt (n := 0) (Nat.lt_of_lt_of_eq (by decide) (Eq.symm (GTable.len t0)))))) ?_
       refine r_on rfl rfl rfl rfl (decide_eq_false h8) rfl (PureD.opD (u_ld rfl rfl Tryd.underlying35 rfl rfl ((Sub.refl _).trans (GTable.sub2 t0)))) ?_
       refine chkK H fun h9 H => ?_
       refine r_on rfl rfl rfl rfl (decide_eq_false h8) rfl (PureD.opD (u_ixl rfl rfl Tryd.underlying35 in_68 rfl rfl rfl h9 (fne (fun x => (GColumn.len x)) (by decide) h9))) ?_
       refine r_on rfl rfl rfl rfl (decide_eq_false h8) rfl (PureD.opD (u_far rfl rfl Tryd.underlying68 rfl in_3 (Nat.succ_ne_zero _) rfl)) ?_
       refine r_on rfl rfl rfl rfl (decide_eq_false h8) rfl (PureD.opD (u_ld rfl rfl Tryd.underlying3 rfl rfl ((Sub.fm default (fun x => (GColumn.len x)) h9).trans (GColumn.sub1 (lrd t0.Cols 0))))) ?_
       refine r_on rfl rfl rfl rfl (decide_eq_false h8) rfl (PureD.opD (p_ine rfl rfl rfl)) ?_
       refine rp rfl rfl (p_pkf rfl rfl (decide_eq_false h8) (.same _)) ?_
       refine rp rfl rfl (p_move rfl rfl) ?_
       refine (Classical.em ((lrd t0.Cols 0).Kind ≠ (2 : Int))).elim (fun h10 => ?_) (fun h10 => ?_)
       ·replace H := ite_then h10 H
        refine r_off rfl rfl rfl rfl (decide_eq_true h10) rfl rfl ?_
        refine r_off rfl rfl rfl rfl (decide_eq_true h10) rfl rfl ?_
        refine r_off rfl rfl rfl rfl (decide_eq_true h10) rfl rfl ?_
        refine r_off rfl rfl rfl rfl (decide_eq_true h10) rfl rfl ?_
        refine r_off rfl rfl rfl rfl (decide_eq_true h10) rfl rfl ?_
        refine rp rfl rfl (p_pkt rfl rfl (decide_eq_true h10) (.same _)) ?_
        refine rs [(1, .q 1 (0)), (49, .b true)] [(1, .pure (GTable.cs t0))] rfl rfl rfl ?_
        have hz := some_elim H
        subst hz
        exact RunW_nil rfl
       ·replace H := ite_else h10 H
        refine r_on rfl rfl rfl rfl (decide_eq_false h10) rfl (PureD.opD (u_fa rfl rfl Tryd.underlying46 rfl in_35 (Nat.succ_ne_zero _) rfl rfl (ne_of_lt (n := 0) (Nat.lt_of_lt_of_eq (by decide) (Eq.symm (GTable.len t0)))))) ?_
        refine r_on rfl rfl rfl rfl (decide_eq_false h10) rfl (PureD.opD (u_ld rfl rfl Tryd.underlying35 rfl rfl ((Sub.refl _).trans (GTable.sub2 t0)))) ?_
        refine chkK H fun h11 H => ?_
        refine r_on rfl rfl rfl rfl (decide_eq_false h10) rfl (PureD.opD (u_ixl rfl rfl Tryd.underlying35 in_68 rfl rfl rfl h11 (fne (fun x => (GColumn.len x)) (by decide) h11))) ?_
        refine r_on rfl rfl rfl rfl (decide_eq_false h10) rfl (PureD.opD (u_far rfl rfl Tryd.underlying68 rfl in_4 (Nat.succ_ne_zero _) rfl)) ?_
        refine r_on rfl rfl rfl rfl (decide_eq_false h10) rfl (PureD.opD (u_ld rfl rfl Tryd.underlying4 rfl rfl ((Sub.fm default (fun x => (GColumn.len x)) h11).trans (GColumn.sub2 (lrd t0.Cols 0))))) ?_
        refine rp rfl rfl (p_pkf rfl rfl (decide_eq_false h10) (.same _)) ?_
        refine rs [(1, .q 1 (0)), (49, .b ((lrd t0.Cols 0).Null))] [(1, .pure (GTable.cs t0))] rfl rfl rfl ?_
        have hz := some_elim H
        subst hz
        exact RunW_nil rfl
     ·refine AW2_cond rfl (fun h13 => ?_) (fun h13 => ?_)
      ·replace H := ite_then h13 H
       refine sg [0] rfl ?_
       refine rp rfl rfl (p_asg rfl rfl) ?_
       refine rz [(2, .i (3 : Int))] [] rfl rfl rfl ?_
       refine AW2_ret ?_
       have hz := some_elim H
       subst hz
       exact ⟨⟨res_tmp (.same _), trivial⟩, trivial⟩
      ·replace H := ite_else (ne_true h13) H
       refine as2 [(1, .q 1 (0))] [(1, .pure (GTable.cs t0))] rfl rfl rfl ?_
       refine AW2_skip ?_
       refine AW2_seq ?_
       refine sg [0, 1, 2] rfl ?_
       refine rp rfl rfl (u_fa rfl rfl Tryd.underlying46 rfl in_44 (Nat.succ_ne_zero _) rfl rfl (ne_of_lt (n := 0) (Nat.lt_of_lt_of_eq (by decide) (Eq.symm (GTable.len t0))))) ?_
       refine rp rfl rfl (u_lda rfl rfl Tryd.underlying44 rfl in_44 rfl (Nat.succ_pos _) ((Sub.refl _).trans (GTable.sub3 t0)) (vfm_len (fun x => (vfm_len (fun x => (GCell.len x)) x)) t0.Drawers)) ?_
       refine rp rfl rfl (p_move rfl rfl) ?_
       refine rz [(1, .q 1 (0)), (51, .g (t0.Drawers.toList.flatMap (fun v : Vector GCell 4 => v.toList.flatMap GCell.cs))), (52, .i (0 : Int))] [(1, .pure (GTable.cs t0))] rfl rfl rfl ?_
       refine AW2_block ?_
       refine as2 [(1, .q 1 (0)), (51, .g (t0.Drawers.toList.flatMap (fun v : Vector GCell 4 => v.toList.flatMap GCell.cs))), (52, .i (0 : Int))] [(1, .pure (GTable.cs t0))] rfl rfl rfl ?_
       refine bindK H fun o'18 h26 H => ?_
       refine AW2_loopO (fun a'15 : Int => (⟨[(1, .q 1 (0)), (51, .g (t0.Drawers.toList.flatMap (fun v : Vector GCell 4 => v.toList.flatMap GCell.cs))), (52, .i a'15)], [(1, .pure (GTable.cs t0))], 80⟩ : TS)) (fun (o : Int ⊕ Unit) e s' => match o with | .inl y'16 => e = Go.Exit.ret ∧ ResAll Tryd.prog s' [ResultVar.tmp 2] [.i y'16] ∧ HFits s' [] | .inr (y'17) => e = Go.Exit.exit 1 ∧ s' = (⟨[], [], 80⟩ : TS)) h26 rfl (fun t52_0 x hx => ?_) (fun e s' hs => ?_)
       ·clear H
        have H := hx
        clear hx
        unfold g_ref_TableFault_l0 at H
        refine sg [0] rfl ?_
        refine rp rfl rfl (p_bin rfl rfl rfl rfl) ?_
        refine rz [(1, .q 1 (0)), (51, .g (t0.Drawers.toList.flatMap (fun v : Vector GCell 4 => v.toList.flatMap GCell.cs))), (52, .i t52_0), (53, .b (decide (t52_0 < (2 : Int))))] [(1, .pure (GTable.cs t0))] rfl rfl rfl ?_
        refine AW2_seq ?_
        refine AW2_if (p := t52_0 < (2 : Int)) rfl (fun h14 => ?_) (fun h14 => ?_)
        ·replace H := ite_then h14 H
         refine as2 [(1, .q 1 (0)), (51, .g (t0.Drawers.toList.flatMap (fun v : Vector GCell 4 => v.toList.flatMap GCell.cs))), (52, .i t52_0)] [(1, .pure (GTable.cs t0))] rfl rfl rfl ?_
         refine AW2_skip ?_
         refine AW2_seq ?_
         refine AW2_block ?_
         refine sg [0, 1, 2] rfl ?_
         refine chkK H fun h15 H => ?_
         refine rp rfl rfl (u_ixaa rfl rfl Tryd.underlying44 in_43 Tryd.underlying43 rfl rfl rfl (ixe h15) (ixn h15) (Sub.vfm (fun x => (vfm_len (fun x => (GCell.len x)) x)) (ixn h15)) (vfm_len (fun x => (GCell.len x)) (vrd t0.Drawers t52_0.toNat))) ?_
         refine r_op rfl rfl (MakeD.opD (u_alloc 5 rfl in_43 one_43 zc_43) rfl rfl rfl rfl) ?_
         refine r_op rfl rfl (u_st rfl rfl rfl rfl rfl in_43 (vfm_len (fun x => (GCell.len x)) (vrd t0.Drawers t52_0.toNat)) (ne_of_lt (n := 0) (Nat.lt_of_lt_of_eq (by decide) (Eq.symm (vfm_len (fun x => (GCell.len x)) (Vector.replicate 4 GCell.zero))))) (Upd.refl ((vfm_len (fun x => (GCell.len x)) (vrd t0.Drawers t52_0.toNat)).trans (vfm_len (fun x => (GCell.len x)) (Vector.replicate 4 GCell.zero)).symm))) ?_
         refine rz [(1, .q 1 (0)), (5, .q 5 (0)), (51, .g (t0.Drawers.toList.flatMap (fun v : Vector GCell 4 => v.toList.flatMap GCell.cs))), (52, .i t52_0)] [(1, .pure (GTable.cs t0)), (5, .pure (((vrd t0.Drawers t52_0.toNat).toList).flatMap GCell.cs))] rfl rfl rfl ?_
         refine AW2_seq ?_
         refine sg [0, 1] rfl ?_
         refine rp rfl rfl (u_lda rfl rfl Tryd.underlying43 rfl in_43 rfl (Nat.succ_pos _) (Sub.refl _) (vfm_len (fun x => (GCell.len x)) (vrd t0.Drawers t52_0.toNat))) ?_
         refine rp rfl rfl (p_move rfl rfl) ?_
         refine rz [(1, .q 1 (0)), (5, .q 5 (0)), (51, .g (t0.Drawers.toList.flatMap (fun v : Vector GCell 4 => v.toList.flatMap GCell.cs))), (52, .i t52_0), (55, .g (((vrd t0.Drawers t52_0.toNat).toList).flatMap GCell.cs)), (56, .i (0 : Int))] [(1, .pure (GTable.cs t0)), (5, .pure (((vrd t0.Drawers t52_0.toNat).toList).flatMap GCell.cs))] rfl rfl rfl ?_
         refine AW2_block ?_
         refine as2 [(1, .q 1 (0)), (5, .q 5 (0)), (51, .g (t0.Drawers.toList.flatMap (fun v : Vector GCell 4 => v.toList.flatMap GCell.cs))), (52, .i t52_0), (55, .g (((vrd t0.Drawers t52_0.toNat).toList).flatMap GCell.cs)), (56, .i (0 : Int))] [(1, .pure (GTable.cs t0)), (5, .pure (((vrd t0.Drawers t52_0.toNat).toList).flatMap GCell.cs))] rfl rfl rfl ?_
         refine bindK H fun o'11 h23 H => ?_
         refine AW2_loopO (fun a'8 : Int => (⟨[(1, .q 1 (0)), (5, .q 5 (0)), (51, .g (t0.Drawers.toList.flatMap (fun v : Vector GCell 4 => v.toList.flatMap GCell.cs))), (52, .i t52_0), (55, .g (((vrd t0.Drawers t52_0.toNat).toList).flatMap GCell.cs)), (56, .i a'8)], [(1, .pure (GTable.cs t0)), (5, .pure (((vrd t0.Drawers t52_0.toNat).toList).flatMap GCell.cs))], 80⟩ : TS)) (fun (o : Int ⊕ Unit) e s' => match o with | .inl y'9 => e = Go.Exit.ret ∧ ResAll Tryd.prog s' [ResultVar.tmp 2] [.i y'9] ∧ HFits s' [] | .inr (y'10) => e = Go.Exit.exit 3 ∧ s' = (⟨[(1, .q 1 (0)), (5, .q 5 (0)), (51, .g (t0.Drawers.toList.flatMap (fun v : Vector GCell 4 => v.toList.flatMap GCell.cs))), (52, .i t52_0)], [(1, .pure (GTable.cs t0)), (5, .pure (((vrd t0.Drawers t52_0.toNat).toList).flatMap GCell.cs))], 80⟩ : TS)) h23 rfl (fun t56_1 x hx => ?_) (fun e s' hs => ?_)
         ·clear H
          have H := hx
          clear hx
          unfold g_ref_TableFault_l1 at H
          refine sg [0] rfl ?_
          refine rp rfl rfl (p_bin rfl rfl rfl rfl) ?_
          refine rz [(1, .q 1 (0)), (5, .q 5 (0)), (51, .g (t0.Drawers.toList.flatMap (fun v : Vector GCell 4 => v.toList.flatMap GCell.cs))), (52, .i t52_0), (55, .g (((vrd t0.Drawers t52_0.toNat).toList).flatMap GCell.cs)), (56, .i t56_1), (57, .b (decide (t56_1 < (4 : Int))))] [(1, .pure (GTable.cs t0)), (5, .pure (((vrd t0.Drawers t52_0.toNat).toList).flatMap GCell.cs))] rfl rfl rfl ?_
          refine AW2_seq ?_
          refine AW2_if (p := t56_1 < (4 : Int)) rfl (fun h16 => ?_) (fun h16 => ?_)
          ·replace H := ite_then h16 H
           refine as2 [(1, .q 1 (0)), (5, .q 5 (0)), (51, .g (t0.Drawers.toList.flatMap (fun v : Vector GCell 4 => v.toList.flatMap GCell.cs))), (52, .i t52_0), (55, .g (((vrd t0.Drawers t52_0.toNat).toList).flatMap GCell.cs)), (56, .i t56_1)] [(1, .pure (GTable.cs t0)), (5, .pure (((vrd t0.Drawers t52_0.toNat).toList).flatMap GCell.cs))] rfl rfl rfl ?_
           refine AW2_skip ?_
           refine AW2_seq ?_
           refine bindK H fun o'7 h17 H => ?_
           refine AW2_join (fun j'4 : Unit => (⟨[(1, .q 1 (0)), (5, .q 5 (0)), (51, .g (t0.Drawers.toList.flatMap (fun v : Vector GCell 4 => v.toList.flatMap GCell.cs))), (52, .i t52_0), (55, .g (((vrd t0.Drawers t52_0.toNat).toList).flatMap GCell.cs)), (56, .i t56_1)], [(1, .pure (GTable.cs t0)), (5, .pure (((vrd t0.Drawers t52_0.toNat).toList).flatMap GCell.cs))], 80⟩ : TS)) (fun r e s' => e = Go.Exit.ret ∧ ResAll Tryd.prog s' [ResultVar.tmp 2] [.i r] ∧ HFits s' []) (x := o'7) ?_ (fun j'4 hy => ?_) (fun y'6 e s' hy hs => ?_)
           ·clear H
            have H := h17
            clear h17
            refine AW2_block ?_
            refine sg [0, 1, 2] rfl ?_
            refine chkK H fun h18 H => ?_
            refine rp rfl rfl (u_ixaa rfl rfl Tryd.underlying43 in_42 Tryd.underlying42 rfl rfl rfl (ixe h18) (ixn h18) (Sub.vfm (fun x => (GCell.len x)) (ixn h18)) (GCell.len (vrd (vrd t0.Drawers t52_0.toNat) t56_1.toNat))) ?_
            refine r_op rfl rfl (MakeD.opD (u_alloc 7 rfl in_42 one_42 zc_42) rfl rfl rfl rfl) ?_
            refine r_op rfl rfl (u_st rfl rfl rfl rfl rfl in_42 (GCell.len (vrd (vrd t0.Drawers t52_0.toNat) t56_1.toNat)) (ne_of_lt (n := 0) (Nat.lt_of_lt_of_eq (by decide) (Eq.symm (GCell.len GCell.zero)))) (Upd.refl ((GCell.len (vrd (vrd t0.Drawers t52_0.toNat) t56_1.toNat)).trans (GCell.len GCell.zero).symm))) ?_
            refine rz [(1, .q 1 (0)), (5, .q 5 (0)), (7, .q 7 (0)), (51, .g (t0.Drawers.toList.flatMap (fun v : Vector GCell 4 => v.toList.flatMap GCell.cs))), (52, .i t52_0), (55, .g (((vrd t0.Drawers t52_0.toNat).toList).flatMap GCell.cs)), (56, .i t56_1)] [(1, .pure (GTable.cs t0)), (5, .pure (((vrd t0.Drawers t52_0.toNat).toList).flatMap GCell.cs)), (7, .pure (GCell.cs (vrd (vrd t0.Drawers t52_0.toNat) t56_1.toNat)))] rfl rfl rfl ?_
            refine sg [0, 1] rfl ?_
            refine rp rfl rfl (u_fa rfl rfl Tryd.underlying42 rfl in_4 (Nat.succ_ne_zero _) rfl rfl (ne_of_lt (n := 0) (Nat.lt_of_lt_of_eq (by decide) (Eq.symm (GCell.len (vrd (vrd t0.Drawers t52_0.toNat) t56_1.toNat)))))) ?_
            refine rp rfl rfl (u_ld rfl rfl Tryd.underlying4 rfl rfl ((Sub.refl _).trans (GCell.sub0 (vrd (vrd t0.Drawers t52_0.toNat) t56_1.toNat)))) ?_
            refine rz [(1, .q 1 (0)), (5, .q 5 (0)), (7, .q 7 (0)), (51, .g (t0.Drawers.toList.flatMap (fun v : Vector GCell 4 => v.toList.flatMap GCell.cs))), (52, .i t52_0), (55, .g (((vrd t0.Drawers t52_0.toNat).toList).flatMap GCell.cs)), (56, .i t56_1), (60, .b ((vrd (vrd t0.Drawers t52_0.toNat) t56_1.toNat).Full))] [(1, .pure (GTable.cs t0)), (5, .pure (((vrd t0.Drawers t52_0.toNat).toList).flatMap GCell.cs)), (7, .pure (GCell.cs (vrd (vrd t0.Drawers t52_0.toNat) t56_1.toNat)))] rfl rfl rfl ?_
            refine AW2_cond rfl (fun h19 => ?_) (fun h19 => ?_)
            ·replace H := ite_then h19 H
             refine sg [0, 1, 2, 3, 4, 5] rfl ?_
             refine rp rfl rfl (u_fa rfl rfl Tryd.underlying42 rfl in_38 (Nat.succ_ne_zero _) rfl rfl (ne_of_lt (n := 0) (Nat.lt_of_lt_of_eq (by decide) (Eq.symm (GCell.len (vrd (vrd t0.Drawers t52_0.toNat) t56_1.toNat)))))) ?_
             refine rp rfl rfl (u_ld rfl rfl Tryd.underlying38 rfl rfl ((Sub.refl _).trans (GCell.sub1 (vrd (vrd t0.Drawers t52_0.toNat) t56_1.toNat)))) ?_
             refine rp rfl rfl (u_fa rfl rfl Tryd.underlying46 rfl in_35 (Nat.succ_ne_zero _) rfl rfl (ne_of_lt (n := 0) (Nat.lt_of_lt_of_eq (by decide) (Eq.symm (GTable.len t0))))) ?_
             refine rp rfl rfl (u_ld rfl rfl Tryd.underlying35 rfl rfl ((Sub.refl _).trans (GTable.sub2 t0))) ?_
             refine bindK H fun r'5 h20 H => ?_
             refine rp rfl rfl (p_callp rfl rfl rfl Tryd.func17 rfl rfl (g_ref_RowFault_ac h20) ⟨rfl, rfl, trivial⟩) ?_
             refine rp rfl rfl (p_asg rfl rfl) ?_
             refine rz [(1, .q 1 (0)), (5, .q 5 (0)), (8, .i r'5), (51, .g (t0.Drawers.toList.flatMap (fun v : Vector GCell 4 => v.toList.flatMap GCell.cs))), (52, .i t52_0), (55, .g (((vrd t0.Drawers t52_0.toNat).toList).flatMap GCell.cs)), (56, .i t56_1)] [(1, .pure (GTable.cs t0)), (5, .pure (((vrd t0.Drawers t52_0.toNat).toList).flatMap GCell.cs))] rfl rfl rfl ?_
             refine sg [0, 1] rfl ?_
             refine rp rfl rfl (p_move rfl rfl) ?_
             refine rp rfl rfl (p_ine rfl rfl rfl) ?_
             refine rz [(1, .q 1 (0)), (5, .q 5 (0)), (8, .i r'5), (51, .g (t0.Drawers.toList.flatMap (fun v : Vector GCell 4 => v.toList.flatMap GCell.cs))), (52, .i t52_0), (55, .g (((vrd t0.Drawers t52_0.toNat).toList).flatMap GCell.cs)), (56, .i t56_1), (67, .b (decide (r'5 ≠ (0 : Int))))] [(1, .pure (GTable.cs t0)), (5, .pure (((vrd t0.Drawers t52_0.toNat).toList).flatMap GCell.cs))] rfl rfl rfl ?_
             refine AW2_if (p := r'5 ≠ (0 : Int)) rfl (fun h21 => ?_) (fun h21 => ?_)
             ·replace H := ite_then h21 H
              refine sg [0, 1] rfl ?_
              refine rp rfl rfl (p_move rfl rfl) ?_
              refine rp rfl rfl (p_asg rfl rfl) ?_
              refine rz [(2, .i r'5)] [] rfl rfl rfl ?_
              refine AW2_ret ?_
              have hz := some_elim H
              subst hz
              exact ⟨rfl, ⟨res_tmp (.same _), trivial⟩, trivial⟩
             ·replace H := ite_else h21 H
              refine as2 [(1, .q 1 (0)), (5, .q 5 (0)), (51, .g (t0.Drawers.toList.flatMap (fun v : Vector GCell 4 => v.toList.flatMap GCell.cs))), (52, .i t52_0), (55, .g (((vrd t0.Drawers t52_0.toNat).toList).flatMap GCell.cs)), (56, .i t56_1)] [(1, .pure (GTable.cs t0)), (5, .pure (((vrd t0.Drawers t52_0.toNat).toList).flatMap GCell.cs))] rfl rfl rfl ?_
              refine AW2_skip ?_
              have hz := some_elim H
              subst hz
              exact ⟨rfl, rfl⟩
            ·replace H := ite_else (ne_true h19) H
             refine sg [0, 1, 2, 3] rfl ?_
             refine rp rfl rfl (u_fa rfl rfl Tryd.underlying42 rfl in_38 (Nat.succ_ne_zero _) rfl rfl (ne_of_lt (n := 0) (Nat.lt_of_lt_of_eq (by decide) (Eq.symm (GCell.len (vrd (vrd t0.Drawers t52_0.toNat) t56_1.toNat)))))) ?_
             refine rp rfl rfl (u_ld rfl rfl Tryd.underlying38 rfl rfl ((Sub.refl _).trans (GCell.sub1 (vrd (vrd t0.Drawers t52_0.toNat) t56_1.toNat)))) ?_
             refine rp rfl rfl (p_lenl rfl Tryd.underlying38 rfl rfl) ?_
             refine rp rfl rfl (p_ine rfl rfl rfl) ?_
             refine rz [(1, .q 1 (0)), (5, .q 5 (0)), (51, .g (t0.Drawers.toList.flatMap (fun v : Vector GCell 4 => v.toList.flatMap GCell.cs))), (52, .i t52_0), (55, .g (((vrd t0.Drawers t52_0.toNat).toList).flatMap GCell.cs)), (56, .i t56_1), (72, .b (decide ((((vrd (vrd t0.Drawers t52_0.toNat) t56_1.toNat).Row).length : Int) ≠ (0 : Int))))] [(1, .pure (GTable.cs t0)), (5, .pure (((vrd t0.Drawers t52_0.toNat).toList).flatMap GCell.cs))] rfl rfl rfl ?_
             refine AW2_if (p := (((vrd (vrd t0.Drawers t52_0.toNat) t56_1.toNat).Row).length : Int) ≠ (0 : Int)) rfl (fun h22 => ?_) (fun h22 => ?_)
             ·replace H := ite_then h22 H
              refine sg [0] rfl ?_
              refine rp rfl rfl (p_asg rfl rfl) ?_
              refine rz [(2, .i (3 : Int))] [] rfl rfl rfl ?_
              refine AW2_ret ?_
              have hz := some_elim H
              subst hz
              exact ⟨rfl, ⟨res_tmp (.same _), trivial⟩, trivial⟩
             ·replace H := ite_else h22 H
              refine as2 [(1, .q 1 (0)), (5, .q 5 (0)), (51, .g (t0.Drawers.toList.flatMap (fun v : Vector GCell 4 => v.toList.flatMap GCell.cs))), (52, .i t52_0), (55, .g (((vrd t0.Drawers t52_0.toNat).toList).flatMap GCell.cs)), (56, .i t56_1)] [(1, .pure (GTable.cs t0)), (5, .pure (((vrd t0.Drawers t52_0.toNat).toList).flatMap GCell.cs))] rfl rfl rfl ?_
              refine AW2_skip ?_
              have hz := some_elim H
              subst hz
              exact ⟨rfl, rfl⟩
           ·subst hy
            refine AW2_reg [0, 1] rfl ?_
            refine rp rfl rfl (p_bin rfl rfl rfl rfl) ?_
            refine rp rfl rfl (p_move rfl rfl) ?_
            refine rz [(1, .q 1 (0)), (5, .q 5 (0)), (51, .g (t0.Drawers.toList.flatMap (fun v : Vector GCell 4 => v.toList.flatMap GCell.cs))), (52, .i t52_0), (55, .g (((vrd t0.Drawers t52_0.toNat).toList).flatMap GCell.cs)), (56, .i (w64 (t56_1 + (1 : Int))))] [(1, .pure (GTable.cs t0)), (5, .pure (((vrd t0.Drawers t52_0.toNat).toList).flatMap GCell.cs))] rfl rfl rfl ?_
            have hz := some_elim H
            subst hz
            exact ⟨rfl, rfl⟩
           ·subst hy
            obtain ⟨rfl, hs⟩ := hs
            have hz := some_elim H
            subst hz
            exact ⟨rfl, hs.1, hs.2⟩
          ·replace H := ite_else h16 H
           refine as2 [(1, .q 1 (0)), (5, .q 5 (0)), (51, .g (t0.Drawers.toList.flatMap (fun v : Vector GCell 4 => v.toList.flatMap GCell.cs))), (52, .i t52_0)] [(1, .pure (GTable.cs t0)), (5, .pure (((vrd t0.Drawers t52_0.toNat).toList).flatMap GCell.cs))] rfl rfl rfl ?_
           refine AW2_exit ?_
           refine thenQ2_exit ?_
           have hz := some_elim H
           subst hz
           exact ⟨rfl, rfl⟩
         ·rcases o'11 with y'12 | y'13
          ·obtain ⟨rfl, hs⟩ := hs
           refine ⟨by simp, ?_⟩
           have hz := some_elim H
           subst hz
           exact ⟨rfl, hs.1, hs.2⟩
          ·obtain ⟨rfl, rfl⟩ := hs
           refine ⟨by simp, ?_⟩
           refine blockQ2_exit ?_
           refine sg [0, 1, 2] rfl ?_
           refine rp rfl rfl (u_lda rfl rfl Tryd.underlying43 rfl in_43 rfl (Nat.succ_pos _) (Sub.refl _) (vfm_len (fun x => (GCell.len x)) (vrd t0.Drawers t52_0.toNat))) ?_
           refine bindK H fun r'14 h24 H => ?_
           refine rp rfl rfl (p_callp rfl rfl rfl Tryd.func45 rfl rfl (g_ref_keysFault_ac h24) ⟨rfl, trivial⟩) ?_
           refine rp rfl rfl (p_asg rfl rfl) ?_
           refine rz [(1, .q 1 (0)), (9, .i r'14), (51, .g (t0.Drawers.toList.flatMap (fun v : Vector GCell 4 => v.toList.flatMap GCell.cs))), (52, .i t52_0)] [(1, .pure (GTable.cs t0))] rfl rfl rfl ?_
           refine sg [0, 1] rfl ?_
           refine rp rfl rfl (p_move rfl rfl) ?_
           refine rp rfl rfl (p_ine rfl rfl rfl) ?_
           refine rz [(1, .q 1 (0)), (9, .i r'14), (51, .g (t0.Drawers.toList.flatMap (fun v : Vector GCell 4 => v.toList.flatMap GCell.cs))), (52, .i t52_0), (77, .b (decide (r'14 ≠ (0 : Int))))] [(1, .pure (GTable.cs t0))] rfl rfl rfl ?_
           refine AW2_if (p := r'14 ≠ (0 : Int)) rfl (fun h25 => ?_) (fun h25 => ?_)
           ·replace H := ite_then h25 H
            refine sg [0, 1] rfl ?_
            refine rp rfl rfl (p_move rfl rfl) ?_
            refine rp rfl rfl (p_asg rfl rfl) ?_
            refine rz [(2, .i r'14)] [] rfl rfl rfl ?_
            refine AW2_ret ?_
            have hz := some_elim H
            subst hz
            exact ⟨rfl, ⟨res_tmp (.same _), trivial⟩, trivial⟩
           ·replace H := ite_else h25 H
            refine as2 [(1, .q 1 (0)), (51, .g (t0.Drawers.toList.flatMap (fun v : Vector GCell 4 => v.toList.flatMap GCell.cs))), (52, .i t52_0)] [(1, .pure (GTable.cs t0))] rfl rfl rfl ?_
            refine AW2_skip ?_
            refine AW2_reg [0, 1] rfl ?_
            refine rp rfl rfl (p_bin rfl rfl rfl rfl) ?_
            refine rp rfl rfl (p_move rfl rfl) ?_
            refine rz [(1, .q 1 (0)), (51, .g (t0.Drawers.toList.flatMap (fun v : Vector GCell 4 => v.toList.flatMap GCell.cs))), (52, .i (w64 (t52_0 + (1 : Int))))] [(1, .pure (GTable.cs t0))] rfl rfl rfl ?_
            have hz := some_elim H
            subst hz
            exact ⟨rfl, rfl⟩
        ·replace H := ite_else h14 H
         refine as2 [] [] rfl rfl rfl ?_
         refine AW2_exit ?_
         refine thenQ2_exit ?_
         have hz := some_elim H
         subst hz
         exact ⟨rfl, rfl⟩
       ·rcases o'18 with y'19 | y'20
        ·obtain ⟨rfl, hs⟩ := hs
         refine ⟨by simp, ?_⟩
         have hz := some_elim H
         subst hz
         exact ⟨hs.1, hs.2⟩
        ·obtain ⟨rfl, rfl⟩ := hs
         refine ⟨by simp, ?_⟩
         refine blockQ2_exit ?_
         refine sg [0] rfl ?_
         refine rp rfl rfl (p_asg rfl rfl) ?_
         refine rz [(2, .i (0 : Int))] [] rfl rfl rfl ?_
         refine AW2_ret ?_
         have hz := some_elim H
         subst hz
         exact ⟨⟨res_tmp (.same _), trivial⟩, trivial⟩

/-! chirographlaw.TableChecks -/
noncomputable def g_law_TableChecks (t0 : GTable) : Option (Bool) :=
  (g_table_Check t0).bind fun r'1 => (g_ref_TableFault t0).bind fun r'2 => some (decide (r'1 = r'2))
set_option maxHeartbeats 4000000 in
set_option maxRecDepth 100000 in
theorem g_law_TableChecks_ac {t0 : GTable} {r : Bool} (H : g_law_TableChecks t0 = some r) : ACp Tryd.prog 7 [(.agg (GTable.cs t0))] (AV.bool r) := by
 refine ACp_of (AC2_of_body (vs := [.b r]) Tryd.func7 rfl rfl (Nat.le_of_ble_eq_true rfl) rfl ?_) (fun _ => .same _)
 unfold g_law_TableChecks at H
 refine as2 [(0, .g (GTable.cs t0))] [] rfl rfl rfl ?_
 refine sg [0, 1] rfl ?_
 refine r_op rfl rfl (MakeD.opD (n_box 1 rfl rfl) rfl rfl rfl rfl) ?_
 refine rp rfl rfl (p_asg rfl rfl) ?_
 refine rz [(1, .q 1 (0))] [(1, .pure (GTable.cs t0))] rfl rfl rfl ?_
 refine sg [0, 1, 2] rfl ?_
 refine rp rfl rfl (u_lda rfl rfl Tryd.underlying46 rfl in_46 rfl (Nat.succ_pos _) (Sub.refl _) (GTable.len t0)) ?_
 refine bindK H fun r'1 h1 H => ?_
 refine rp rfl rfl (p_callp rfl rfl rfl Tryd.func18 rfl rfl (g_table_Check_ac h1) ⟨rfl, trivial⟩) ?_
 refine rp rfl rfl (p_asg rfl rfl) ?_
 refine rz [(1, .q 1 (0)), (3, .i r'1)] [(1, .pure (GTable.cs t0))] rfl rfl rfl ?_
 refine sg [0, 1, 2] rfl ?_
 refine rp rfl rfl (u_lda rfl rfl Tryd.underlying46 rfl in_46 rfl (Nat.succ_pos _) (Sub.refl _) (GTable.len t0)) ?_
 refine bindK H fun r'2 h2 H => ?_
 refine rp rfl rfl (p_callp rfl rfl rfl Tryd.func19 rfl rfl (g_ref_TableFault_ac h2) ⟨rfl, trivial⟩) ?_
 refine rp rfl rfl (p_asg rfl rfl) ?_
 refine rz [(3, .i r'1), (4, .i r'2)] [] rfl rfl rfl ?_
 refine sg [0, 1, 2, 3] rfl ?_
 refine rp rfl rfl (p_move rfl rfl) ?_
 refine rp rfl rfl (p_move rfl rfl) ?_
 refine rp rfl rfl (p_ieq rfl rfl rfl) ?_
 refine rp rfl rfl (p_asg rfl rfl) ?_
 refine rz [(2, .b (decide (r'1 = r'2)))] [] rfl rfl rfl ?_
 refine AW2_ret ?_
 have hz := some_elim H
 subst hz
 exact ⟨⟨res_tmp (.same _), trivial⟩, trivial⟩
end Go.Proofs.YtalnmpfjgiecdaaDoor.VM
