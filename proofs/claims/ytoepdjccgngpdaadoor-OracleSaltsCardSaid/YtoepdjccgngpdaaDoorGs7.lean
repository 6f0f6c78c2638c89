/- Functions of the program, as they answer, and that their code comes to these answers. -/
import Derived.Test.YtoepdjccgngpdaaDoorGs6
namespace Go.Proofs.YtoepdjccgngpdaaDoor.VM
open Go Go.RowKit

structure GSlot where
  Full : Bool
  Salt : List UInt8
  Data : List UInt8
deriving DecidableEq, Inhabited
def GSlot.zero : GSlot := ⟨false, [], []⟩
def GSlot.cs (x : GSlot) : List AV := ([(AV.bool x.Full)]) ++ (([(AV.bytes x.Salt)]) ++ ([(AV.bytes x.Data)]))
theorem GSlot.len (x : GSlot) : (GSlot.cs x).length = 3 := by
  simp only [GSlot.cs, List.length_append]
  rw [show ([(AV.bool x.Full)]).length = 1 from (show ([(AV.bool x.Full)]).length = 1 from rfl), show ([(AV.bytes x.Salt)]).length = 1 from (show ([(AV.bytes x.Salt)]).length = 1 from rfl), show ([(AV.bytes x.Data)]).length = 1 from (show ([(AV.bytes x.Data)]).length = 1 from rfl)]
theorem GSlot.sub0 (x : GSlot) : Sub (GSlot.cs x) 0 ([(AV.bool x.Full)]) := Sub.head _ _
theorem GSlot.upd0 (x : GSlot) (y : Bool) : Upd (GSlot.cs x) 0 ([(AV.bool y)]) (GSlot.cs { x with Full := y }) := Upd.head (show ([(AV.bool y)]).length = ([(AV.bool x.Full)]).length from rfl)
theorem GSlot.sub1 (x : GSlot) : Sub (GSlot.cs x) 1 ([(AV.bytes x.Salt)]) := Sub.skip (k := 1) (show ([(AV.bool x.Full)]).length = 1 from rfl) (Sub.head _ _)
theorem GSlot.upd1 (x : GSlot) (y : List UInt8) : Upd (GSlot.cs x) 1 ([(AV.bytes y)]) (GSlot.cs { x with Salt := y }) := Upd.skip (k := 1) (show ([(AV.bool x.Full)]).length = 1 from rfl) (Upd.head (show ([(AV.bytes y)]).length = ([(AV.bytes x.Salt)]).length from rfl))
theorem GSlot.sub2 (x : GSlot) : Sub (GSlot.cs x) 2 ([(AV.bytes x.Data)]) := Sub.skip (k := 1) (show ([(AV.bool x.Full)]).length = 1 from rfl) (Sub.skip (k := 1) (show ([(AV.bytes x.Salt)]).length = 1 from rfl) (Sub.refl _))
theorem GSlot.upd2 (x : GSlot) (y : List UInt8) : Upd (GSlot.cs x) 2 ([(AV.bytes y)]) (GSlot.cs { x with Data := y }) := Upd.skip (k := 1) (show ([(AV.bool x.Full)]).length = 1 from rfl) (Upd.skip (k := 1) (show ([(AV.bytes x.Salt)]).length = 1 from rfl) (Upd.refl (show ([(AV.bytes y)]).length = ([(AV.bytes x.Data)]).length from rfl)))
theorem in_4 : Info Tryd.prog 4 1 1 (.bool false) := by unfold Info; kernel_rfl
theorem one_4 : (.bool false : Value).cells.all (·.oneCell') = true := by kernel_rfl
theorem zc_4 : ((.bool false : Value).cells.toList.map zcell) = [(AV.bool false)] := by rfl
theorem in_48 : Info Tryd.prog 48 3 56 (.agg #[.bool false, .slice none 0 0, .slice none 0 0]) := by unfold Info; kernel_rfl
theorem one_48 : (.agg #[.bool false, .slice none 0 0, .slice none 0 0] : Value).cells.all (·.oneCell') = true := by kernel_rfl
theorem zc_48 : ((.agg #[.bool false, .slice none 0 0, .slice none 0 0] : Value).cells.toList.map zcell) = GSlot.cs GSlot.zero := by rfl
theorem pl_48 : placesOf Tryd.prog 48 = some [(0, 1), (1, 1), (2, 1)] := by kernel_rfl
set_option maxRecDepth 100000 in
theorem ty_44 {d : Nat} {cs : List AV} (h : Typed Tryd.prog (d + 3) 44 cs) : ∃ x : List (List UInt8), cs = [(AV.lists x)] ∧ (okL 24 (okL 1 okA)) x := ty_slice (f := AV.bytes) Tryd.underlying44 (bytes_of in_22) (fun _ hx => ty_22 hx) h
set_option maxRecDepth 100000 in
theorem ty_4 {d : Nat} {cs : List AV} (h : Typed Tryd.prog (d + 1) 4 cs) : ∃ x : Bool, cs = [(AV.bool x)] ∧ okA x := ty_bool Tryd.underlying4 h
def GSlot.ok (x : GSlot) : Prop := okA x.Full ∧ (okL 1 okA) x.Salt ∧ (okL 1 okA) x.Data
set_option maxRecDepth 100000 in
theorem ty_48 {d : Nat} {cs : List AV} (h : Typed Tryd.prog (d + 3) 48 cs) : ∃ x : GSlot, cs = GSlot.cs x ∧ GSlot.ok x := by
  obtain ⟨es, rfl, hl, hf⟩ := ty_struct Tryd.underlying48 h
  match es, hl, hf with
  | [e0, e1, e2], _, hf =>
    obtain ⟨x0, h0, q0⟩ := ty_4 (hf 0 _ e0 rfl rfl)
    obtain ⟨x1, h1, q1⟩ := ty_22 (hf 1 _ e1 rfl rfl)
    obtain ⟨x2, h2, q2⟩ := ty_22 (hf 2 _ e2 rfl rfl)
    refine ⟨⟨x0, x1, x2⟩, ?_, ⟨q0, q1, q2⟩⟩
    rw [h0, h1, h2]
    simp only [List.flatten_cons, List.flatten_nil, List.append_nil, GSlot.cs]

/-! chirographref.DigestOf -/
noncomputable def g_ref_DigestOf (mode0 : Int) (tag1 : Int) (parts2 : List (List UInt8)) : Option ((List UInt8) × Int) :=
  (g_ref_badMode mode0).bind fun r'1 => (if r'1 = true then some ([], (2 : Int)) else (g_ref_FrameOf tag1 parts2).bind fun r'2 => ((if (r'2.2 = (0 : Int)) ∧ (mode0 = (1 : Int)) then (g_ref_Summed r'2.1).bind fun r'4 => some r'4.toList else some r'2.1)).bind fun j'3 => some (j'3, r'2.2))
set_option maxHeartbeats 4000000 in
set_option maxRecDepth 100000 in
theorem g_ref_DigestOf_ac {mode0 : Int} {tag1 : Int} {parts2 : List (List UInt8)} {r : (List UInt8) × Int} (H : g_ref_DigestOf mode0 tag1 parts2 = some r) : ACp Tryd.prog 26 [(AV.int mode0), (AV.int tag1), (AV.lists parts2)] (.tup [(AV.bytes r.1), (AV.int r.2)]) := by
  refine ACp_of (AC2_of_body (vs := [.c (.p (AV.bytes r.1)), .c (.p (AV.int r.2))]) Tryd.func26 rfl rfl (Nat.le_of_ble_eq_true rfl) rfl ?_) (fun _ => .same _)
  unfold g_ref_DigestOf at H
  refine AW2_st [(0, .c (.p (AV.int mode0))), (1, .c (.p (AV.int tag1))), (2, .c (.p (AV.lists parts2)))] [] rfl ⟨TLes.same _, TLes.same _, TLes.same _, trivial⟩ trivial ?_
  refine AW2_seq ?_
  refine AW2_reg [0, 1] rfl ?_
  refine r_op rfl rfl (PureD.opD (p_asgn rfl)) ?_
  refine r_op rfl rfl (PureD.opD (p_asg rfl rfl)) ?_
  refine RunW_st [(0, .c (.p (AV.int mode0))), (1, .c (.p (AV.int tag1))), (2, .c (.p (AV.lists parts2)))] [] rfl ⟨TLes.same _, TLes.same _, TLes.same _, trivial⟩ trivial ?_
  refine RunW_nil ?_
  refine AW2_seq ?_
  refine AW2_seq ?_
  refine AW2_reg [0, 1] rfl ?_
  refine r_op rfl rfl (PureD.opD (p_move rfl rfl)) ?_
  refine bindK H fun r'1 h1 H => ?_
  refine r_op rfl rfl (PureD.opD (p_callp rfl rfl rfl Tryd.func44 rfl rfl (g_ref_badMode_ac h1) ⟨rfl, trivial⟩)) ?_
  refine RunW_st [(0, .c (.p (AV.int mode0))), (1, .c (.p (AV.int tag1))), (2, .c (.p (AV.lists parts2))), (12, .c (.p (AV.bool r'1)))] [] rfl ⟨TLes.same _, TLes.same _, TLes.same _, TLes.same _, trivial⟩ trivial ?_
  refine RunW_nil ?_
  refine AW2_cond rfl (fun h2 => ?_) (fun h2 => ?_)
  · replace H := ite_then h2 H
    refine AW2_seq ?_
    refine AW2_reg [0, 1] rfl ?_
    refine r_op rfl rfl (PureD.opD (p_asgn rfl)) ?_
    refine r_op rfl rfl (PureD.opD (p_asg rfl rfl)) ?_
    refine RunW_st [(6, .c (.p .nil)), (7, .c (.p (AV.int (2 : Int))))] [] rfl ⟨TLes.same _, TLes.same _, trivial⟩ trivial ?_
    refine RunW_nil ?_
    refine AW2_ret ?_
    have hz := some_elim H
    subst hz
    exact ⟨⟨res_tmp TLes.nil0, res_tmp (.same _), trivial⟩, trivial⟩
  · replace H := ite_else (ne_true h2) H
    refine AW2_st [(0, .c (.p (AV.int mode0))), (1, .c (.p (AV.int tag1))), (2, .c (.p (AV.lists parts2)))] [] rfl ⟨TLes.same _, TLes.same _, TLes.same _, trivial⟩ trivial ?_
    refine AW2_skip ?_
    refine AW2_seq ?_
    refine AW2_reg [0, 1, 2, 3, 4, 5, 6, 7] rfl ?_
    refine r_op rfl rfl (PureD.opD (p_move rfl rfl)) ?_
    refine r_op rfl rfl (PureD.opD (p_move rfl rfl)) ?_
    refine bindK H fun r'2 h3 H => ?_
    refine r_op rfl rfl (PureD.opD (p_callp rfl rfl rfl Tryd.func48 rfl rfl (g_ref_FrameOf_ac h3) ⟨rfl, rfl, trivial⟩)) ?_
    refine r_op rfl rfl (PureD.opD (p_move rfl rfl)) ?_
    refine r_op rfl rfl (PureD.opD (p_ext rfl rfl rfl rfl)) ?_
    refine r_op rfl rfl (PureD.opD (p_ext rfl rfl rfl rfl)) ?_
    refine r_op rfl rfl (PureD.opD (p_asg rfl rfl)) ?_
    refine r_op rfl rfl (PureD.opD (p_asg rfl rfl)) ?_
    refine RunW_st [(0, .c (.p (AV.int mode0))), (8, .c (.p (AV.bytes r'2.1))), (9, .c (.p (AV.int r'2.2)))] [] rfl ⟨TLes.same _, TLes.same _, TLes.same _, trivial⟩ trivial ?_
    refine RunW_nil ?_
    refine AW2_seq ?_
    refine bindK H fun j'3 h4 H => ?_
    refine AW2_mid (⟨[(8, .c (.p (AV.bytes j'3))), (9, .c (.p (AV.int r'2.2)))], [], 32⟩ : TS) ?_ ?_
    · clear H
      have H := h4
      clear h4
      refine AW2_seq ?_
      refine AW2_mid (⟨[(8, .c (.p (AV.bytes r'2.1))), (9, .c (.p (AV.int r'2.2))), (24, .c (.p (.bool (decide ((r'2.2 = (0 : Int)) ∧ (mode0 = (1 : Int)))))))], [], 32⟩ : TS) ?_ ?_
      · refine AW2_reg [0, 1, 2, 3, 4, 5] rfl ?_
        refine r_op rfl rfl (PureD.opD (p_move rfl rfl)) ?_
        refine r_op rfl rfl (PureD.opD (p_ieq rfl rfl rfl)) ?_
        refine r_op rfl rfl (PureD.opD (p_move rfl rfl)) ?_
        refine (Classical.em (r'2.2 = (0 : Int))).elim (fun h5 => ?_) (fun h5 => ?_)
        · refine r_on rfl rfl rfl rfl (decide_eq_true (p := r'2.2 = (0 : Int)) h5) rfl (PureD.opD (p_move rfl rfl)) ?_
          refine r_on rfl rfl rfl rfl (decide_eq_true (p := r'2.2 = (0 : Int)) h5) rfl (PureD.opD (p_ieq rfl rfl rfl)) ?_
          refine r_op rfl rfl (PureD.opD (p_pkt rfl rfl (decide_eq_true (p := r'2.2 = (0 : Int)) h5) (tb ((and_l (p := r'2.2 = (0 : Int)) (q := mode0 = (1 : Int)) h5))))) ?_
          refine RunW_st [(8, .c (.p (AV.bytes r'2.1))), (9, .c (.p (AV.int r'2.2))), (24, .c (.p (.bool (decide ((r'2.2 = (0 : Int)) ∧ (mode0 = (1 : Int)))))))] [] rfl ⟨TLes.same _, TLes.same _, TLes.same _, trivial⟩ trivial ?_
          exact RunW_nil rfl
        · refine r_off rfl rfl rfl rfl (decide_eq_false (p := r'2.2 = (0 : Int)) h5) rfl rfl ?_
          refine r_off rfl rfl rfl rfl (decide_eq_false (p := r'2.2 = (0 : Int)) h5) rfl rfl ?_
          refine r_op rfl rfl (PureD.opD (p_pkf rfl rfl (decide_eq_false (p := r'2.2 = (0 : Int)) h5) (tb (decide_eq_false (p := (r'2.2 = (0 : Int)) ∧ (mode0 = (1 : Int))) (fun x => h5 x.1)).symm))) ?_
          refine RunW_st [(8, .c (.p (AV.bytes r'2.1))), (9, .c (.p (AV.int r'2.2))), (24, .c (.p (.bool (decide ((r'2.2 = (0 : Int)) ∧ (mode0 = (1 : Int)))))))] [] rfl ⟨TLes.same _, TLes.same _, TLes.same _, trivial⟩ trivial ?_
          exact RunW_nil rfl
      · refine AW2_if (p := (r'2.2 = (0 : Int)) ∧ (mode0 = (1 : Int))) rfl (fun h6 => ?_) (fun h6 => ?_)
        · replace H := ite_then h6 H
          refine AW2_seq ?_
          refine AW2_reg [0, 1, 2, 3] rfl ?_
          refine r_op rfl rfl (PureD.opD (p_move rfl rfl)) ?_
          refine bindK H fun r'4 h7 H => ?_
          refine r_op rfl rfl (PureD.opD (p_callp rfl rfl rfl Tryd.func13 rfl rfl (g_ref_Summed_ac h7) ⟨rfl, trivial⟩)) ?_
          refine r_op rfl rfl (MakeD.opD (u_alloc 10 rfl in_23 one_23 zc_23) rfl rfl rfl rfl) ?_
          refine r_op rfl rfl (u_st rfl rfl rfl rfl rfl in_23 ((bcells_length _).trans (vlen r'4)) (ne_of_lt (n := 0) (Nat.lt_of_lt_of_eq (by decide) (Eq.symm ((bcells_length _).trans (vlen (Vector.replicate 32 (0 : UInt8))))))) (Upd.refl (((bcells_length _).trans (vlen r'4)).trans ((bcells_length _).trans (vlen (Vector.replicate 32 (0 : UInt8)))).symm))) ?_
          refine RunW_st [(9, .c (.p (AV.int r'2.2))), (10, .c (.ptr 10 (0)))] [(10, .pure (bcells r'4.toList))] rfl ⟨TLes.same _, TLes.same _, trivial⟩ ⟨rfl, trivial⟩ ?_
          refine RunW_nil ?_
          refine AW2_reg [0, 1, 2, 3] rfl ?_
          refine r_op rfl rfl (PureD.opD (u_cuta rfl rfl Tryd.underlying23 in_5 rfl rfl (ne_of_lt (n := 0) (Nat.lt_of_lt_of_eq (by decide) (Eq.symm ((bcells_length _).trans (vlen r'4))))) (Sub.refl _) (((bcells_length _).trans (vlen r'4)).trans (by decide)))) ?_
          refine r_op rfl rfl (PureD.opD (u_cbl rfl rfl Tryd.underlying22 Tryd.underlying5 Tryd.underlying9 (bs := r'4.toList) (vlen _) rfl rfl (ne_of_lt (n := 0) (Nat.lt_of_lt_of_eq (by decide) (Eq.symm ((bcells_length _).trans (vlen r'4))))) (Sub.refl _))) ?_
          refine r_op rfl rfl (MakeD.opD (n_sb 29 rfl Tryd.underlying9 Tryd.underlying22 Tryd.underlying5 rfl) rfl rfl rfl rfl) ?_
          refine r_op rfl rfl (PureD.opD (p_asg rfl rfl)) ?_
          refine RunW_st [(8, .c (.own 29 r'4.toList.length 1)), (9, .c (.p (AV.int r'2.2)))] [(29, .pure (bcells r'4.toList))] rfl ⟨TLes.same _, TLes.same _, trivial⟩ ⟨rfl, trivial⟩ ?_
          refine RunW_gho (Gho_ren 29 8 rfl rfl rfl rfl rfl) ?_
          refine RunW_st [(8, .c (.own 8 r'4.toList.length 1)), (9, .c (.p (AV.int r'2.2)))] [(8, .pure (bcells r'4.toList))] rfl ⟨TLes.same _, TLes.same _, trivial⟩ ⟨rfl, trivial⟩ ?_
          refine RunW_gho (Gho_pubs [8] ⟨rfl, trivial⟩ rfl (bl r'4.toList) (by decide)) ?_
          refine RunW_st [(8, .c (.p (AV.bytes r'4.toList))), (9, .c (.p (AV.int r'2.2)))] [] rfl ⟨TLes.same _, TLes.same _, trivial⟩ trivial ?_
          refine RunW_nil ?_
          have hz := some_elim H
          subst hz
          exact rfl
        · replace H := ite_else h6 H
          refine AW2_st [(8, .c (.p (AV.bytes r'2.1))), (9, .c (.p (AV.int r'2.2)))] [] rfl ⟨TLes.same _, TLes.same _, trivial⟩ trivial ?_
          refine AW2_skip ?_
          have hz := some_elim H
          subst hz
          exact rfl
    · refine AW2_seq ?_
      refine AW2_reg [0, 1, 2, 3] rfl ?_
      refine r_op rfl rfl (PureD.opD (p_move rfl rfl)) ?_
      refine r_op rfl rfl (PureD.opD (p_move rfl rfl)) ?_
      refine r_op rfl rfl (PureD.opD (p_asg rfl rfl)) ?_
      refine r_op rfl rfl (PureD.opD (p_asg rfl rfl)) ?_
      refine RunW_st [(6, .c (.p (AV.bytes j'3))), (7, .c (.p (AV.int r'2.2)))] [] rfl ⟨TLes.same _, TLes.same _, trivial⟩ trivial ?_
      refine RunW_nil ?_
      refine AW2_ret ?_
      have hz := some_elim H
      subst hz
      exact ⟨⟨res_tmp (.same _), res_tmp (.same _), trivial⟩, trivial⟩

/-! chirographlaw.OracleDigests -/
noncomputable def g_law_OracleDigests (mode0 : Int) (tag1 : Int) (parts2 : List (List UInt8)) : Option (Bool) :=
  (g_oracle_Digest mode0 tag1 parts2).bind fun r'1 => (g_ref_DigestOf mode0 tag1 parts2).bind fun r'2 => ((if r'1.2 = r'2.2 then (g_law_sameBytes r'1.1 r'2.1).bind fun r'4 => some r'4 else some false)).bind fun g'5 => some g'5
set_option maxHeartbeats 4000000 in
set_option maxRecDepth 100000 in
theorem g_law_OracleDigests_ac {mode0 : Int} {tag1 : Int} {parts2 : List (List UInt8)} {r : Bool} (H : g_law_OracleDigests mode0 tag1 parts2 = some r) : ACp Tryd.prog 8 [(AV.int mode0), (AV.int tag1), (AV.lists parts2)] (AV.bool r) := by
  refine ACp_of (AC2_of_body (vs := [.c (.p (AV.bool r))]) Tryd.func8 rfl rfl (Nat.le_of_ble_eq_true rfl) rfl ?_) (fun _ => .same _)
  unfold g_law_OracleDigests at H
  refine AW2_st [(0, .c (.p (AV.int mode0))), (1, .c (.p (AV.int tag1))), (2, .c (.p (AV.lists parts2)))] [] rfl ⟨TLes.same _, TLes.same _, TLes.same _, trivial⟩ trivial ?_
  refine AW2_seq ?_
  refine AW2_reg [0] rfl ?_
  refine r_op rfl rfl (PureD.opD (p_asg rfl rfl)) ?_
  refine RunW_st [(0, .c (.p (AV.int mode0))), (1, .c (.p (AV.int tag1))), (2, .c (.p (AV.lists parts2)))] [] rfl ⟨TLes.same _, TLes.same _, TLes.same _, trivial⟩ trivial ?_
  refine RunW_nil ?_
  refine AW2_seq ?_
  refine AW2_reg [0, 1, 2, 3, 4, 5, 6, 7, 8] rfl ?_
  refine r_op rfl rfl (PureD.opD (p_move rfl rfl)) ?_
  refine r_op rfl rfl (PureD.opD (p_move rfl rfl)) ?_
  refine r_op rfl rfl (PureD.opD (p_move rfl rfl)) ?_
  refine bindK H fun r'1 h1 H => ?_
  refine r_op rfl rfl (PureD.opD (p_callp rfl rfl rfl Tryd.func25 rfl rfl (g_oracle_Digest_ac h1) ⟨rfl, rfl, rfl, trivial⟩)) ?_
  refine r_op rfl rfl (PureD.opD (p_move rfl rfl)) ?_
  refine r_op rfl rfl (PureD.opD (p_ext rfl rfl rfl rfl)) ?_
  refine r_op rfl rfl (PureD.opD (p_ext rfl rfl rfl rfl)) ?_
  refine r_op rfl rfl (PureD.opD (p_asg rfl rfl)) ?_
  refine r_op rfl rfl (PureD.opD (p_asg rfl rfl)) ?_
  refine RunW_st [(0, .c (.p (AV.int mode0))), (1, .c (.p (AV.int tag1))), (2, .c (.p (AV.lists parts2))), (7, .c (.p (AV.bytes r'1.1))), (8, .c (.p (AV.int r'1.2)))] [] rfl ⟨TLes.same _, TLes.same _, TLes.same _, TLes.same _, TLes.same _, trivial⟩ trivial ?_
  refine RunW_nil ?_
  refine AW2_seq ?_
  refine AW2_reg [0, 1, 2, 3, 4, 5, 6, 7, 8] rfl ?_
  refine r_op rfl rfl (PureD.opD (p_move rfl rfl)) ?_
  refine r_op rfl rfl (PureD.opD (p_move rfl rfl)) ?_
  refine r_op rfl rfl (PureD.opD (p_move rfl rfl)) ?_
  refine bindK H fun r'2 h2 H => ?_
  refine r_op rfl rfl (PureD.opD (p_callp rfl rfl rfl Tryd.func26 rfl rfl (g_ref_DigestOf_ac h2) ⟨rfl, rfl, rfl, trivial⟩)) ?_
  refine r_op rfl rfl (PureD.opD (p_move rfl rfl)) ?_
  refine r_op rfl rfl (PureD.opD (p_ext rfl rfl rfl rfl)) ?_
  refine r_op rfl rfl (PureD.opD (p_ext rfl rfl rfl rfl)) ?_
  refine r_op rfl rfl (PureD.opD (p_asg rfl rfl)) ?_
  refine r_op rfl rfl (PureD.opD (p_asg rfl rfl)) ?_
  refine RunW_st [(7, .c (.p (AV.bytes r'1.1))), (8, .c (.p (AV.int r'1.2))), (9, .c (.p (AV.bytes r'2.1))), (10, .c (.p (AV.int r'2.2)))] [] rfl ⟨TLes.same _, TLes.same _, TLes.same _, TLes.same _, trivial⟩ trivial ?_
  refine RunW_nil ?_
  refine AW2_seq ?_
  refine bindK H fun g'5 h6 H => ?_
  refine AW2_mid (⟨[(6, .c (.p (AV.bool g'5)))], [], 33⟩ : TS) ?_ ?_
  · clear H
    have H := h6
    clear h6
    refine AW2_reg [0, 1, 2, 3, 4, 5, 6, 7, 8] rfl ?_
    refine r_op rfl rfl (PureD.opD (p_move rfl rfl)) ?_
    refine r_op rfl rfl (PureD.opD (p_move rfl rfl)) ?_
    refine r_op rfl rfl (PureD.opD (p_ieq rfl rfl rfl)) ?_
    refine r_op rfl rfl (PureD.opD (p_move rfl rfl)) ?_
    refine (Classical.em (r'1.2 = r'2.2)).elim (fun h4 => ?_) (fun h4 => ?_)
    · replace H := ite_then h4 H
      refine r_on rfl rfl rfl rfl (decide_eq_true (p := r'1.2 = r'2.2) h4) rfl (PureD.opD (p_move rfl rfl)) ?_
      refine r_on rfl rfl rfl rfl (decide_eq_true (p := r'1.2 = r'2.2) h4) rfl (PureD.opD (p_move rfl rfl)) ?_
      refine bindK H fun r'4 h5 H => ?_
      refine r_on rfl rfl rfl rfl (decide_eq_true (p := r'1.2 = r'2.2) h4) rfl (PureD.opD (p_callp rfl rfl rfl Tryd.func24 rfl rfl (g_law_sameBytes_ac h5) ⟨rfl, rfl, trivial⟩)) ?_
      refine r_op rfl rfl (PureD.opD (p_pkt rfl rfl (decide_eq_true (p := r'1.2 = r'2.2) h4) (.same _))) ?_
      refine r_op rfl rfl (PureD.opD (p_asg rfl rfl)) ?_
      refine RunW_st [(6, .c (.p (AV.bool r'4)))] [] rfl ⟨TLes.same _, trivial⟩ trivial ?_
      have hz := some_elim H
      subst hz
      exact RunW_nil rfl
    · replace H := ite_else h4 H
      refine r_off rfl rfl rfl rfl (decide_eq_false (p := r'1.2 = r'2.2) h4) rfl rfl ?_
      refine r_off rfl rfl rfl rfl (decide_eq_false (p := r'1.2 = r'2.2) h4) rfl rfl ?_
      refine r_off rfl rfl rfl rfl (decide_eq_false (p := r'1.2 = r'2.2) h4) rfl rfl ?_
      refine r_op rfl rfl (PureD.opD (p_pkf rfl rfl (decide_eq_false (p := r'1.2 = r'2.2) h4) (.same _))) ?_
      refine r_op rfl rfl (PureD.opD (p_asg rfl rfl)) ?_
      refine RunW_st [(6, .c (.p (AV.bool false)))] [] rfl ⟨TLes.same _, trivial⟩ trivial ?_
      have hz := some_elim H
      subst hz
      exact RunW_nil rfl
  · refine AW2_ret ?_
    have hz := some_elim H
    subst hz
    exact ⟨⟨res_tmp (.same _), trivial⟩, trivial⟩

/-! slots.modes -/
noncomputable def g_slots_modes (mode0 : Int) : Option (Bool) :=
  some (decide ((mode0 = (1 : Int)) ∨ (mode0 = (2 : Int))))
set_option maxHeartbeats 4000000 in
set_option maxRecDepth 100000 in
theorem g_slots_modes_ac {mode0 : Int} {r : Bool} (H : g_slots_modes mode0 = some r) : ACp Tryd.prog 49 [(AV.int mode0)] (AV.bool r) := by
  refine ACp_of (AC2_of_body (vs := [.c (.p (AV.bool r))]) Tryd.func49 rfl rfl (Nat.le_of_ble_eq_true rfl) rfl ?_) (fun _ => .same _)
  unfold g_slots_modes at H
  refine AW2_st [(0, .c (.p (AV.int mode0)))] [] rfl ⟨TLes.same _, trivial⟩ trivial ?_
  refine AW2_seq ?_
  refine AW2_reg [0] rfl ?_
  refine r_op rfl rfl (PureD.opD (p_asg rfl rfl)) ?_
  refine RunW_st [(0, .c (.p (AV.int mode0)))] [] rfl ⟨TLes.same _, trivial⟩ trivial ?_
  refine RunW_nil ?_
  refine AW2_seq ?_
  refine AW2_mid (⟨[(2, .c (.p (.bool (decide ((mode0 = (1 : Int)) ∨ (mode0 = (2 : Int)))))))], [], 9⟩ : TS) ?_ ?_
  · refine AW2_reg [0, 1, 2, 3, 4, 5, 6] rfl ?_
    refine r_op rfl rfl (PureD.opD (p_move rfl rfl)) ?_
    refine r_op rfl rfl (PureD.opD (p_ieq rfl rfl rfl)) ?_
    refine r_op rfl rfl (PureD.opD (p_move rfl rfl)) ?_
    refine (Classical.em (mode0 = (1 : Int))).elim (fun h1 => ?_) (fun h1 => ?_)
    · refine r_off rfl rfl rfl rfl (decide_eq_true (p := mode0 = (1 : Int)) h1) rfl rfl ?_
      refine r_off rfl rfl rfl rfl (decide_eq_true (p := mode0 = (1 : Int)) h1) rfl rfl ?_
      refine r_op rfl rfl (PureD.opD (p_pkt rfl rfl (decide_eq_true (p := mode0 = (1 : Int)) h1) (tb (decide_eq_true (p := (mode0 = (1 : Int)) ∨ (mode0 = (2 : Int))) (Or.inl h1)).symm))) ?_
      refine r_op rfl rfl (PureD.opD (p_asg rfl rfl)) ?_
      refine RunW_st [(2, .c (.p (.bool (decide ((mode0 = (1 : Int)) ∨ (mode0 = (2 : Int)))))))] [] rfl ⟨TLes.same _, trivial⟩ trivial ?_
      exact RunW_nil rfl
    · refine r_on rfl rfl rfl rfl (decide_eq_false (p := mode0 = (1 : Int)) h1) rfl (PureD.opD (p_move rfl rfl)) ?_
      refine r_on rfl rfl rfl rfl (decide_eq_false (p := mode0 = (1 : Int)) h1) rfl (PureD.opD (p_ieq rfl rfl rfl)) ?_
      refine r_op rfl rfl (PureD.opD (p_pkf rfl rfl (decide_eq_false (p := mode0 = (1 : Int)) h1) (tb ((or_l (p := mode0 = (1 : Int)) (q := mode0 = (2 : Int)) h1))))) ?_
      refine r_op rfl rfl (PureD.opD (p_asg rfl rfl)) ?_
      refine RunW_st [(2, .c (.p (.bool (decide ((mode0 = (1 : Int)) ∨ (mode0 = (2 : Int)))))))] [] rfl ⟨TLes.same _, trivial⟩ trivial ?_
      exact RunW_nil rfl
  · refine AW2_ret ?_
    have hz := some_elim H
    subst hz
    exact ⟨⟨res_tmp (.same _), trivial⟩, trivial⟩

/-! slots.Leaf -/
noncomputable def g_slots_Leaf (mode0 : Int) (s1 : GSlot) : Option ((List UInt8) × Int) :=
  (g_slots_modes mode0).bind fun r'1 => (if (!r'1) = true then some ([], (2 : Int)) else (if ((!s1.Full) = true) ∧ ((s1.Data.length : Int) > (0 : Int)) then some ([], (3 : Int)) else (if ((s1.Salt.length : Int) > (80 : Int)) ∨ ((s1.Data.length : Int) > (400 : Int)) then some ([], (1 : Int)) else ((if s1.Full = true then if room (([(1 : UInt8)] : List UInt8).length + s1.Data.length) 1 then some (([(1 : UInt8)] : List UInt8) ++ s1.Data) else none else some ([(0 : UInt8)] : List UInt8))).bind fun j'2 => (g_oracle_Digest mode0 (1 : Int) ([s1.Salt, j'2] : List (List UInt8))).bind fun r'3 => some (r'3.1, r'3.2))))
set_option maxHeartbeats 4000000 in
set_option maxRecDepth 100000 in
theorem g_slots_Leaf_ac {mode0 : Int} {s1 : GSlot} {r : (List UInt8) × Int} (H : g_slots_Leaf mode0 s1 = some r) : ACp Tryd.prog 27 [(AV.int mode0), (.agg (GSlot.cs s1))] (.tup [(AV.bytes r.1), (AV.int r.2)]) := by
  refine ACp_of (AC2_of_body (vs := [.c (.p (AV.bytes r.1)), .c (.p (AV.int r.2))]) Tryd.func27 rfl rfl (Nat.le_of_ble_eq_true rfl) rfl ?_) (fun _ => .same _)
  unfold g_slots_Leaf at H
  refine AW2_st [(0, .c (.p (AV.int mode0))), (1, .c (.p (.agg (GSlot.cs s1))))] [] rfl ⟨TLes.same _, TLes.same _, trivial⟩ trivial ?_
  refine AW2_seq ?_
  refine AW2_reg [0, 1, 2] rfl ?_
  refine r_op rfl rfl (MakeD.opD (n_box 3 rfl rfl) rfl rfl rfl rfl) ?_
  refine r_op rfl rfl (PureD.opD (p_asgn rfl)) ?_
  refine r_op rfl rfl (PureD.opD (p_asg rfl rfl)) ?_
  refine RunW_st [(0, .c (.p (AV.int mode0))), (3, .c (.ptr 3 (0)))] [(3, .pure (GSlot.cs s1))] rfl ⟨TLes.same _, TLes.same _, trivial⟩ ⟨rfl, trivial⟩ ?_
  refine RunW_nil ?_
  refine AW2_seq ?_
  refine AW2_seq ?_
  refine AW2_reg [0, 1, 2] rfl ?_
  refine r_op rfl rfl (PureD.opD (p_move rfl rfl)) ?_
  refine bindK H fun r'1 h1 H => ?_
  refine r_op rfl rfl (PureD.opD (p_callp rfl rfl rfl Tryd.func49 rfl rfl (g_slots_modes_ac h1) ⟨rfl, trivial⟩)) ?_
  refine r_op rfl rfl (PureD.opD (p_not rfl rfl)) ?_
  refine RunW_st [(0, .c (.p (AV.int mode0))), (3, .c (.ptr 3 (0))), (9, .c (.p (AV.bool (!r'1))))] [(3, .pure (GSlot.cs s1))] rfl ⟨TLes.same _, TLes.same _, TLes.same _, trivial⟩ ⟨rfl, trivial⟩ ?_
  refine RunW_nil ?_
  refine AW2_cond rfl (fun h2 => ?_) (fun h2 => ?_)
  · replace H := ite_then h2 H
    refine AW2_seq ?_
    refine AW2_reg [0, 1] rfl ?_
    refine r_op rfl rfl (PureD.opD (p_asgn rfl)) ?_
    refine r_op rfl rfl (PureD.opD (p_asg rfl rfl)) ?_
    refine RunW_st [(4, .c (.p .nil)), (5, .c (.p (AV.int (2 : Int))))] [] rfl ⟨TLes.same _, TLes.same _, trivial⟩ trivial ?_
    refine RunW_nil ?_
    refine AW2_ret ?_
    have hz := some_elim H
    subst hz
    exact ⟨⟨res_tmp TLes.nil0, res_tmp (.same _), trivial⟩, trivial⟩
  · replace H := ite_else (ne_true h2) H
    refine AW2_st [(0, .c (.p (AV.int mode0))), (3, .c (.ptr 3 (0)))] [(3, .pure (GSlot.cs s1))] rfl ⟨TLes.same _, TLes.same _, trivial⟩ ⟨rfl, trivial⟩ ?_
    refine AW2_skip ?_
    refine AW2_seq ?_
    refine AW2_seq ?_
    refine AW2_mid (⟨[(0, .c (.p (AV.int mode0))), (3, .c (.ptr 3 (0))), (18, .c (.p (.bool (decide (((!s1.Full) = true) ∧ ((s1.Data.length : Int) > (0 : Int)))))))], [(3, .pure (GSlot.cs s1))], 44⟩ : TS) ?_ ?_
    · refine AW2_reg [0, 1, 2, 3, 4, 5, 6, 7, 8] rfl ?_
      refine r_op rfl rfl (PureD.opD (u_fa rfl rfl Tryd.underlying48 rfl in_4 (Nat.succ_ne_zero _) rfl rfl (ne_of_lt (n := 0) (Nat.lt_of_lt_of_eq (by decide) (Eq.symm (GSlot.len s1)))))) ?_
      refine r_op rfl rfl (PureD.opD (u_ld rfl rfl Tryd.underlying4 rfl rfl ((Sub.refl _).trans (GSlot.sub0 s1)))) ?_
      refine r_op rfl rfl (PureD.opD (p_not rfl rfl)) ?_
      refine r_op rfl rfl (PureD.opD (p_move rfl rfl)) ?_
      refine (Classical.em ((!s1.Full) = true)).elim (fun h3 => ?_) (fun h3 => ?_)
      · refine r_on rfl rfl rfl rfl h3 rfl (PureD.opD (u_fa rfl rfl Tryd.underlying48 rfl in_22 (Nat.succ_ne_zero _) rfl rfl (ne_of_lt (n := 0) (Nat.lt_of_lt_of_eq (by decide) (Eq.symm (GSlot.len s1)))))) ?_
        refine r_on rfl rfl rfl rfl h3 rfl (PureD.opD (u_ld rfl rfl Tryd.underlying22 rfl rfl ((Sub.refl _).trans (GSlot.sub2 s1)))) ?_
        refine r_on rfl rfl rfl rfl h3 rfl (PureD.opD (p_lenl rfl Tryd.underlying22 rfl rfl)) ?_
        refine r_on rfl rfl rfl rfl h3 rfl (PureD.opD (p_bin rfl rfl rfl rfl)) ?_
        refine r_op rfl rfl (PureD.opD (p_pkt rfl rfl h3 (tb ((and_l (p := (!s1.Full) = true) (q := (s1.Data.length : Int) > (0 : Int)) h3))))) ?_
        refine RunW_st [(0, .c (.p (AV.int mode0))), (3, .c (.ptr 3 (0))), (18, .c (.p (.bool (decide (((!s1.Full) = true) ∧ ((s1.Data.length : Int) > (0 : Int)))))))] [(3, .pure (GSlot.cs s1))] rfl ⟨TLes.same _, TLes.same _, TLes.same _, trivial⟩ ⟨rfl, trivial⟩ ?_
        exact RunW_nil rfl
      · refine r_off rfl rfl rfl rfl (bfalse h3) rfl rfl ?_
        refine r_off rfl rfl rfl rfl (bfalse h3) rfl rfl ?_
        refine r_off rfl rfl rfl rfl (bfalse h3) rfl rfl ?_
        refine r_off rfl rfl rfl rfl (bfalse h3) rfl rfl ?_
        refine r_op rfl rfl (PureD.opD (p_pkf rfl rfl (bfalse h3) (tb (decide_eq_false (p := ((!s1.Full) = true) ∧ ((s1.Data.length : Int) > (0 : Int))) (fun x => h3 x.1)).symm))) ?_
        refine RunW_st [(0, .c (.p (AV.int mode0))), (3, .c (.ptr 3 (0))), (18, .c (.p (.bool (decide (((!s1.Full) = true) ∧ ((s1.Data.length : Int) > (0 : Int)))))))] [(3, .pure (GSlot.cs s1))] rfl ⟨TLes.same _, TLes.same _, TLes.same _, trivial⟩ ⟨rfl, trivial⟩ ?_
        exact RunW_nil rfl
    · refine AW2_if (p := ((!s1.Full) = true) ∧ ((s1.Data.length : Int) > (0 : Int))) rfl (fun h4 => ?_) (fun h4 => ?_)
      · replace H := ite_then h4 H
        refine AW2_seq ?_
        refine AW2_reg [0, 1] rfl ?_
        refine r_op rfl rfl (PureD.opD (p_asgn rfl)) ?_
        refine r_op rfl rfl (PureD.opD (p_asg rfl rfl)) ?_
        refine RunW_st [(4, .c (.p .nil)), (5, .c (.p (AV.int (3 : Int))))] [] rfl ⟨TLes.same _, TLes.same _, trivial⟩ trivial ?_
        refine RunW_nil ?_
        refine AW2_ret ?_
        have hz := some_elim H
        subst hz
        exact ⟨⟨res_tmp TLes.nil0, res_tmp (.same _), trivial⟩, trivial⟩
      · replace H := ite_else h4 H
        refine AW2_st [(0, .c (.p (AV.int mode0))), (3, .c (.ptr 3 (0)))] [(3, .pure (GSlot.cs s1))] rfl ⟨TLes.same _, TLes.same _, trivial⟩ ⟨rfl, trivial⟩ ?_
        refine AW2_skip ?_
        refine AW2_seq ?_
        refine AW2_seq ?_
        refine AW2_mid (⟨[(0, .c (.p (AV.int mode0))), (3, .c (.ptr 3 (0))), (28, .c (.p (.bool (decide (((s1.Salt.length : Int) > (80 : Int)) ∨ ((s1.Data.length : Int) > (400 : Int)))))))], [(3, .pure (GSlot.cs s1))], 44⟩ : TS) ?_ ?_
        · refine AW2_reg [0, 1, 2, 3, 4, 5, 6, 7, 8, 9] rfl ?_
          refine r_op rfl rfl (PureD.opD (u_fa rfl rfl Tryd.underlying48 rfl in_22 (Nat.succ_ne_zero _) rfl rfl (ne_of_lt (n := 0) (Nat.lt_of_lt_of_eq (by decide) (Eq.symm (GSlot.len s1)))))) ?_
          refine r_op rfl rfl (PureD.opD (u_ld rfl rfl Tryd.underlying22 rfl rfl ((Sub.refl _).trans (GSlot.sub1 s1)))) ?_
          refine r_op rfl rfl (PureD.opD (p_lenl rfl Tryd.underlying22 rfl rfl)) ?_
          refine r_op rfl rfl (PureD.opD (p_bin rfl rfl rfl rfl)) ?_
          refine r_op rfl rfl (PureD.opD (p_move rfl rfl)) ?_
          refine (Classical.em ((s1.Salt.length : Int) > (80 : Int))).elim (fun h5 => ?_) (fun h5 => ?_)
          · refine r_off rfl rfl rfl rfl (decide_eq_true (p := (s1.Salt.length : Int) > (80 : Int)) h5) rfl rfl ?_
            refine r_off rfl rfl rfl rfl (decide_eq_true (p := (s1.Salt.length : Int) > (80 : Int)) h5) rfl rfl ?_
            refine r_off rfl rfl rfl rfl (decide_eq_true (p := (s1.Salt.length : Int) > (80 : Int)) h5) rfl rfl ?_
            refine r_off rfl rfl rfl rfl (decide_eq_true (p := (s1.Salt.length : Int) > (80 : Int)) h5) rfl rfl ?_
            refine r_op rfl rfl (PureD.opD (p_pkt rfl rfl (decide_eq_true (p := (s1.Salt.length : Int) > (80 : Int)) h5) (tb (decide_eq_true (p := ((s1.Salt.length : Int) > (80 : Int)) ∨ ((s1.Data.length : Int) > (400 : Int))) (Or.inl h5)).symm))) ?_
            refine RunW_st [(0, .c (.p (AV.int mode0))), (3, .c (.ptr 3 (0))), (28, .c (.p (.bool (decide (((s1.Salt.length : Int) > (80 : Int)) ∨ ((s1.Data.length : Int) > (400 : Int)))))))] [(3, .pure (GSlot.cs s1))] rfl ⟨TLes.same _, TLes.same _, TLes.same _, trivial⟩ ⟨rfl, trivial⟩ ?_
            exact RunW_nil rfl
          · refine r_on rfl rfl rfl rfl (decide_eq_false (p := (s1.Salt.length : Int) > (80 : Int)) h5) rfl (PureD.opD (u_fa rfl rfl Tryd.underlying48 rfl in_22 (Nat.succ_ne_zero _) rfl rfl (ne_of_lt (n := 0) (Nat.lt_of_lt_of_eq (by decide) (Eq.symm (GSlot.len s1)))))) ?_
            refine r_on rfl rfl rfl rfl (decide_eq_false (p := (s1.Salt.length : Int) > (80 : Int)) h5) rfl (PureD.opD (u_ld rfl rfl Tryd.underlying22 rfl rfl ((Sub.refl _).trans (GSlot.sub2 s1)))) ?_
            refine r_on rfl rfl rfl rfl (decide_eq_false (p := (s1.Salt.length : Int) > (80 : Int)) h5) rfl (PureD.opD (p_lenl rfl Tryd.underlying22 rfl rfl)) ?_
            refine r_on rfl rfl rfl rfl (decide_eq_false (p := (s1.Salt.length : Int) > (80 : Int)) h5) rfl (PureD.opD (p_bin rfl rfl rfl rfl)) ?_
            refine r_op rfl rfl (PureD.opD (p_pkf rfl rfl (decide_eq_false (p := (s1.Salt.length : Int) > (80 : Int)) h5) (tb ((or_l (p := (s1.Salt.length : Int) > (80 : Int)) (q := (s1.Data.length : Int) > (400 : Int)) h5))))) ?_
            refine RunW_st [(0, .c (.p (AV.int mode0))), (3, .c (.ptr 3 (0))), (28, .c (.p (.bool (decide (((s1.Salt.length : Int) > (80 : Int)) ∨ ((s1.Data.length : Int) > (400 : Int)))))))] [(3, .pure (GSlot.cs s1))] rfl ⟨TLes.same _, TLes.same _, TLes.same _, trivial⟩ ⟨rfl, trivial⟩ ?_
            exact RunW_nil rfl
        · refine AW2_if (p := ((s1.Salt.length : Int) > (80 : Int)) ∨ ((s1.Data.length : Int) > (400 : Int))) rfl (fun h6 => ?_) (fun h6 => ?_)
          · replace H := ite_then h6 H
            refine AW2_seq ?_
            refine AW2_reg [0, 1] rfl ?_
            refine r_op rfl rfl (PureD.opD (p_asgn rfl)) ?_
            refine r_op rfl rfl (PureD.opD (p_asg rfl rfl)) ?_
            refine RunW_st [(4, .c (.p .nil)), (5, .c (.p (AV.int (1 : Int))))] [] rfl ⟨TLes.same _, TLes.same _, trivial⟩ trivial ?_
            refine RunW_nil ?_
            refine AW2_ret ?_
            have hz := some_elim H
            subst hz
            exact ⟨⟨res_tmp TLes.nil0, res_tmp (.same _), trivial⟩, trivial⟩
          · replace H := ite_else h6 H
            refine AW2_st [(0, .c (.p (AV.int mode0))), (3, .c (.ptr 3 (0)))] [(3, .pure (GSlot.cs s1))] rfl ⟨TLes.same _, TLes.same _, trivial⟩ ⟨rfl, trivial⟩ ?_
            refine AW2_skip ?_
            refine AW2_seq ?_
            refine AW2_reg [0, 1] rfl ?_
            refine r_op rfl rfl (MakeD.opD (u_bs 29 rfl Tryd.underlying22 in_5 rfl one_5 (by decide) (by decide) rfl rfl rfl) rfl rfl rfl rfl) ?_
            refine r_op rfl rfl (PureD.opD (p_asg rfl rfl)) ?_
            refine RunW_st [(0, .c (.p (AV.int mode0))), (3, .c (.ptr 3 (0))), (6, .c (.own 29 ([(0 : UInt8)] : List UInt8).length 1))] [(3, .pure (GSlot.cs s1)), (29, .pure (bcells ([(0 : UInt8)] : List UInt8)))] rfl ⟨TLes.same _, TLes.same _, TLes.own rfl, trivial⟩ ⟨rfl, rfl, trivial⟩ ?_
            refine RunW_gho (Gho_ren 29 6 rfl rfl rfl rfl rfl) ?_
            refine RunW_st [(0, .c (.p (AV.int mode0))), (3, .c (.ptr 3 (0))), (6, .c (.own 6 ([(0 : UInt8)] : List UInt8).length 1))] [(3, .pure (GSlot.cs s1)), (6, .pure (bcells ([(0 : UInt8)] : List UInt8)))] rfl ⟨TLes.same _, TLes.same _, TLes.same _, trivial⟩ ⟨rfl, rfl, trivial⟩ ?_
            refine RunW_nil ?_
            refine AW2_seq ?_
            refine bindK H fun j'2 h7 H => ?_
            refine AW2_mid (⟨[(0, .c (.p (AV.int mode0))), (3, .c (.ptr 3 (0))), (6, .c (.own 6 j'2.length 1))], [(3, .pure (GSlot.cs s1)), (6, .pure (bcells j'2))], 44⟩ : TS) ?_ ?_
            · clear H
              have H := h7
              clear h7
              refine AW2_seq ?_
              refine AW2_reg [0, 1] rfl ?_
              refine r_op rfl rfl (PureD.opD (u_fa rfl rfl Tryd.underlying48 rfl in_4 (Nat.succ_ne_zero _) rfl rfl (ne_of_lt (n := 0) (Nat.lt_of_lt_of_eq (by decide) (Eq.symm (GSlot.len s1)))))) ?_
              refine r_op rfl rfl (PureD.opD (u_ld rfl rfl Tryd.underlying4 rfl rfl ((Sub.refl _).trans (GSlot.sub0 s1)))) ?_
              refine RunW_st [(0, .c (.p (AV.int mode0))), (3, .c (.ptr 3 (0))), (6, .c (.own 6 ([(0 : UInt8)] : List UInt8).length 1)), (31, .c (.p (AV.bool s1.Full)))] [(3, .pure (GSlot.cs s1)), (6, .pure (bcells ([(0 : UInt8)] : List UInt8)))] rfl ⟨TLes.same _, TLes.same _, TLes.same _, TLes.same _, trivial⟩ ⟨rfl, rfl, trivial⟩ ?_
              refine RunW_nil ?_
              refine AW2_cond rfl (fun h8 => ?_) (fun h8 => ?_)
              · replace H := ite_then h8 H
                refine AW2_reg [0, 1, 2, 3, 4] rfl ?_
                refine r_op rfl rfl (MakeD.opD (u_bs 32 rfl Tryd.underlying22 in_5 rfl one_5 (by decide) (by decide) rfl rfl rfl) rfl rfl rfl rfl) ?_
                refine r_op rfl rfl (PureD.opD (u_fa rfl rfl Tryd.underlying48 rfl in_22 (Nat.succ_ne_zero _) rfl rfl (ne_of_lt (n := 0) (Nat.lt_of_lt_of_eq (by decide) (Eq.symm (GSlot.len s1)))))) ?_
                refine r_op rfl rfl (PureD.opD (u_ld rfl rfl Tryd.underlying22 rfl rfl ((Sub.refl _).trans (GSlot.sub2 s1)))) ?_
                refine chkK H fun h9 H => ?_
                refine r_op rfl rfl (u_app [32] rfl rfl rfl rfl Tryd.underlying22 Tryd.underlying22 in_5 rfl rfl rfl (bl ([(1 : UInt8)] : List UInt8)) (by decide) rfl (bl s1.Data) h9 (by decide) rfl rfl (bapp ([(1 : UInt8)] : List UInt8) s1.Data) (lapp ([(1 : UInt8)] : List UInt8) s1.Data)) ?_
                refine r_op rfl rfl (PureD.opD (p_asg rfl rfl)) ?_
                refine RunW_st [(0, .c (.p (AV.int mode0))), (3, .c (.ptr 3 (0))), (6, .c (.own 32 (([(1 : UInt8)] : List UInt8) ++ s1.Data).length 1))] [(3, .pure (GSlot.cs s1)), (32, .pure (bcells (([(1 : UInt8)] : List UInt8) ++ s1.Data)))] rfl ⟨TLes.same _, TLes.same _, TLes.same _, trivial⟩ ⟨rfl, rfl, trivial⟩ ?_
                refine RunW_gho (Gho_ren 32 6 rfl rfl rfl rfl rfl) ?_
                refine RunW_st [(0, .c (.p (AV.int mode0))), (3, .c (.ptr 3 (0))), (6, .c (.own 6 (([(1 : UInt8)] : List UInt8) ++ s1.Data).length 1))] [(3, .pure (GSlot.cs s1)), (6, .pure (bcells (([(1 : UInt8)] : List UInt8) ++ s1.Data)))] rfl ⟨TLes.same _, TLes.same _, TLes.same _, trivial⟩ ⟨rfl, rfl, trivial⟩ ?_
                refine RunW_nil ?_
                have hz := some_elim H
                subst hz
                exact rfl
              · replace H := ite_else (ne_true h8) H
                refine AW2_st [(0, .c (.p (AV.int mode0))), (3, .c (.ptr 3 (0))), (6, .c (.own 6 ([(0 : UInt8)] : List UInt8).length 1))] [(3, .pure (GSlot.cs s1)), (6, .pure (bcells ([(0 : UInt8)] : List UInt8)))] rfl ⟨TLes.same _, TLes.same _, TLes.same _, trivial⟩ ⟨rfl, rfl, trivial⟩ ?_
                refine AW2_skip ?_
                have hz := some_elim H
                subst hz
                exact rfl
            · refine AW2_seq ?_
              refine AW2_reg [0, 1, 2, 3, 4, 5, 6, 7, 8, 9] rfl ?_
              refine r_op rfl rfl (PureD.opD (p_move rfl rfl)) ?_
              refine r_op rfl rfl (PureD.opD (u_fa rfl rfl Tryd.underlying48 rfl in_22 (Nat.succ_ne_zero _) rfl rfl (ne_of_lt (n := 0) (Nat.lt_of_lt_of_eq (by decide) (Eq.symm (GSlot.len s1)))))) ?_
              refine r_op rfl rfl (PureD.opD (u_ld rfl rfl Tryd.underlying22 rfl rfl ((Sub.refl _).trans (GSlot.sub1 s1)))) ?_
              refine r_op rfl rfl (PureD.opD (p_move rfl rfl)) ?_
              refine RunW_gho (Gho_pubs [6, 39] ⟨rfl, rfl, trivial⟩ rfl (bl j'2) (by decide)) ?_
              refine r_op rfl rfl (MakeD.opD (u_bs 40 rfl Tryd.underlying44 in_22 rfl one_22 (by decide) (by decide) rfl rfl rfl) rfl rfl rfl rfl) ?_
              refine RunW_st [(0, .c (.p (AV.int mode0))), (3, .c (.ptr 3 (0))), (6, .c (.p (AV.bytes j'2))), (36, .c (.p (AV.int mode0))), (37, .c (.ptr 3 (0 + 1))), (38, .c (.p (AV.bytes s1.Salt))), (39, .c (.p (AV.bytes j'2))), (40, .c (.own 40 ([s1.Salt, j'2] : List (List UInt8)).length 1))] [(3, .pure (GSlot.cs s1)), (40, .pure (([s1.Salt, j'2] : List (List UInt8)).map AV.bytes))] rfl ⟨TLes.same _, TLes.same _, TLes.same _, TLes.same _, TLes.same _, TLes.same _, TLes.same _, TLes.own rfl, trivial⟩ ⟨rfl, rfl, trivial⟩ ?_
              refine RunW_gho (Gho_pubs [40] ⟨rfl, trivial⟩ rfl (ml AV.bytes ([s1.Salt, j'2] : List (List UInt8))) (by decide)) ?_
              refine bindK H fun r'3 h10 H => ?_
              refine r_op rfl rfl (PureD.opD (p_callp rfl rfl rfl Tryd.func25 rfl rfl (g_oracle_Digest_ac h10) ⟨rfl, rfl, rfl, trivial⟩)) ?_
              refine r_op rfl rfl (PureD.opD (p_ext rfl rfl rfl rfl)) ?_
              refine r_op rfl rfl (PureD.opD (p_ext rfl rfl rfl rfl)) ?_
              refine r_op rfl rfl (PureD.opD (p_asg rfl rfl)) ?_
              refine r_op rfl rfl (PureD.opD (p_asg rfl rfl)) ?_
              refine RunW_st [(4, .c (.p (AV.bytes r'3.1))), (5, .c (.p (AV.int r'3.2)))] [] rfl ⟨TLes.same _, TLes.same _, trivial⟩ trivial ?_
              refine RunW_nil ?_
              refine AW2_ret ?_
              have hz := some_elim H
              subst hz
              exact ⟨⟨res_tmp (.same _), res_tmp (.same _), trivial⟩, trivial⟩

/-! chirographref.LeafOf -/
noncomputable def g_ref_LeafOf (mode0 : Int) (s1 : GSlot) : Option ((List UInt8) × Int) :=
  (g_ref_badMode mode0).bind fun r'1 => (if r'1 = true then some ([], (2 : Int)) else (if ((!s1.Full) = true) ∧ ((s1.Data.length : Int) > (0 : Int)) then some ([], (3 : Int)) else (if ((s1.Salt.length : Int) > (80 : Int)) ∨ ((s1.Data.length : Int) > (400 : Int)) then some ([], (1 : Int)) else ((if s1.Full = true then if [1].length + s1.Data.length ≤ 9223372036854775807 then some ([1] ++ s1.Data) else none else some [0])).bind fun j'2 => (g_ref_DigestOf mode0 (1 : Int) ([s1.Salt, j'2] : List (List UInt8))).bind fun r'3 => some (r'3.1, r'3.2))))
set_option maxHeartbeats 4000000 in
set_option maxRecDepth 100000 in
theorem g_ref_LeafOf_ac {mode0 : Int} {s1 : GSlot} {r : (List UInt8) × Int} (H : g_ref_LeafOf mode0 s1 = some r) : ACp Tryd.prog 28 [(AV.int mode0), (.agg (GSlot.cs s1))] (.tup [(AV.bytes r.1), (AV.int r.2)]) := by
  refine ACp_of (AC2_of_body (vs := [.c (.p (AV.bytes r.1)), .c (.p (AV.int r.2))]) Tryd.func28 rfl rfl (Nat.le_of_ble_eq_true rfl) rfl ?_) (fun _ => .same _)
  unfold g_ref_LeafOf at H
  refine AW2_st [(0, .c (.p (AV.int mode0))), (1, .c (.p (.agg (GSlot.cs s1))))] [] rfl ⟨TLes.same _, TLes.same _, trivial⟩ trivial ?_
  refine AW2_seq ?_
  refine AW2_reg [0, 1, 2] rfl ?_
  refine r_op rfl rfl (MakeD.opD (n_box 3 rfl rfl) rfl rfl rfl rfl) ?_
  refine r_op rfl rfl (PureD.opD (p_asgn rfl)) ?_
  refine r_op rfl rfl (PureD.opD (p_asg rfl rfl)) ?_
  refine RunW_st [(0, .c (.p (AV.int mode0))), (3, .c (.ptr 3 (0)))] [(3, .pure (GSlot.cs s1))] rfl ⟨TLes.same _, TLes.same _, trivial⟩ ⟨rfl, trivial⟩ ?_
  refine RunW_nil ?_
  refine AW2_seq ?_
  refine AW2_block ?_
  refine AW2_seq ?_
  refine AW2_reg [0, 1, 2] rfl ?_
  refine r_op rfl rfl (PureD.opD (p_move rfl rfl)) ?_
  refine bindK H fun r'1 h1 H => ?_
  refine r_op rfl rfl (PureD.opD (p_callp rfl rfl rfl Tryd.func44 rfl rfl (g_ref_badMode_ac h1) ⟨rfl, trivial⟩)) ?_
  refine r_op rfl rfl (PureD.opD (p_asg rfl rfl)) ?_
  refine RunW_st [(0, .c (.p (AV.int mode0))), (3, .c (.ptr 3 (0))), (7, .c (.p (AV.bool r'1)))] [(3, .pure (GSlot.cs s1))] rfl ⟨TLes.same _, TLes.same _, TLes.same _, trivial⟩ ⟨rfl, trivial⟩ ?_
  refine RunW_nil ?_
  refine AW2_cond rfl (fun h2 => ?_) (fun h2 => ?_)
  · replace H := ite_then h2 H
    refine AW2_seq ?_
    refine AW2_reg [0, 1] rfl ?_
    refine r_op rfl rfl (PureD.opD (p_asgn rfl)) ?_
    refine r_op rfl rfl (PureD.opD (p_asg rfl rfl)) ?_
    refine RunW_st [(4, .c (.p .nil)), (5, .c (.p (AV.int (2 : Int))))] [] rfl ⟨TLes.same _, TLes.same _, trivial⟩ trivial ?_
    refine RunW_nil ?_
    refine AW2_ret ?_
    have hz := some_elim H
    subst hz
    exact ⟨⟨res_tmp TLes.nil0, res_tmp (.same _), trivial⟩, trivial⟩
  · replace H := ite_else (ne_true h2) H
    refine AW2_seq ?_
    refine AW2_mid (⟨[(0, .c (.p (AV.int mode0))), (3, .c (.ptr 3 (0))), (10, .c (.p (.bool (decide (((!s1.Full) = true) ∧ ((s1.Data.length : Int) > (0 : Int)))))))], [(3, .pure (GSlot.cs s1))], 46⟩ : TS) ?_ ?_
    · refine AW2_reg [0, 1, 2, 3, 4, 5, 6, 7, 8, 9] rfl ?_
      refine r_op rfl rfl (PureD.opD (u_fa rfl rfl Tryd.underlying48 rfl in_4 (Nat.succ_ne_zero _) rfl rfl (ne_of_lt (n := 0) (Nat.lt_of_lt_of_eq (by decide) (Eq.symm (GSlot.len s1)))))) ?_
      refine r_op rfl rfl (PureD.opD (u_ld rfl rfl Tryd.underlying4 rfl rfl ((Sub.refl _).trans (GSlot.sub0 s1)))) ?_
      refine r_op rfl rfl (PureD.opD (p_not rfl rfl)) ?_
      refine r_op rfl rfl (PureD.opD (p_move rfl rfl)) ?_
      refine (Classical.em ((!s1.Full) = true)).elim (fun h3 => ?_) (fun h3 => ?_)
      · refine r_on rfl rfl rfl rfl h3 rfl (PureD.opD (u_fa rfl rfl Tryd.underlying48 rfl in_22 (Nat.succ_ne_zero _) rfl rfl (ne_of_lt (n := 0) (Nat.lt_of_lt_of_eq (by decide) (Eq.symm (GSlot.len s1)))))) ?_
        refine r_on rfl rfl rfl rfl h3 rfl (PureD.opD (u_ld rfl rfl Tryd.underlying22 rfl rfl ((Sub.refl _).trans (GSlot.sub2 s1)))) ?_
        refine r_on rfl rfl rfl rfl h3 rfl (PureD.opD (p_lenl rfl Tryd.underlying22 rfl rfl)) ?_
        refine r_on rfl rfl rfl rfl h3 rfl (PureD.opD (p_bin rfl rfl rfl rfl)) ?_
        refine r_op rfl rfl (PureD.opD (p_pkt rfl rfl h3 (tb ((and_l (p := (!s1.Full) = true) (q := (s1.Data.length : Int) > (0 : Int)) h3))))) ?_
        refine r_op rfl rfl (PureD.opD (p_asg rfl rfl)) ?_
        refine RunW_st [(0, .c (.p (AV.int mode0))), (3, .c (.ptr 3 (0))), (10, .c (.p (.bool (decide (((!s1.Full) = true) ∧ ((s1.Data.length : Int) > (0 : Int)))))))] [(3, .pure (GSlot.cs s1))] rfl ⟨TLes.same _, TLes.same _, TLes.same _, trivial⟩ ⟨rfl, trivial⟩ ?_
        exact RunW_nil rfl
      · refine r_off rfl rfl rfl rfl (bfalse h3) rfl rfl ?_
        refine r_off rfl rfl rfl rfl (bfalse h3) rfl rfl ?_
        refine r_off rfl rfl rfl rfl (bfalse h3) rfl rfl ?_
        refine r_off rfl rfl rfl rfl (bfalse h3) rfl rfl ?_
        refine r_op rfl rfl (PureD.opD (p_pkf rfl rfl (bfalse h3) (tb (decide_eq_false (p := ((!s1.Full) = true) ∧ ((s1.Data.length : Int) > (0 : Int))) (fun x => h3 x.1)).symm))) ?_
        refine r_op rfl rfl (PureD.opD (p_asg rfl rfl)) ?_
        refine RunW_st [(0, .c (.p (AV.int mode0))), (3, .c (.ptr 3 (0))), (10, .c (.p (.bool (decide (((!s1.Full) = true) ∧ ((s1.Data.length : Int) > (0 : Int)))))))] [(3, .pure (GSlot.cs s1))] rfl ⟨TLes.same _, TLes.same _, TLes.same _, trivial⟩ ⟨rfl, trivial⟩ ?_
        exact RunW_nil rfl
    · refine AW2_if (p := ((!s1.Full) = true) ∧ ((s1.Data.length : Int) > (0 : Int))) rfl (fun h4 => ?_) (fun h4 => ?_)
      · replace H := ite_then h4 H
        refine AW2_seq ?_
        refine AW2_reg [0, 1] rfl ?_
        refine r_op rfl rfl (PureD.opD (p_asgn rfl)) ?_
        refine r_op rfl rfl (PureD.opD (p_asg rfl rfl)) ?_
        refine RunW_st [(4, .c (.p .nil)), (5, .c (.p (AV.int (3 : Int))))] [] rfl ⟨TLes.same _, TLes.same _, trivial⟩ trivial ?_
        refine RunW_nil ?_
        refine AW2_ret ?_
        have hz := some_elim H
        subst hz
        exact ⟨⟨res_tmp TLes.nil0, res_tmp (.same _), trivial⟩, trivial⟩
      · replace H := ite_else h4 H
        refine AW2_seq ?_
        refine AW2_mid (⟨[(0, .c (.p (AV.int mode0))), (3, .c (.ptr 3 (0))), (20, .c (.p (.bool (decide (((s1.Salt.length : Int) > (80 : Int)) ∨ ((s1.Data.length : Int) > (400 : Int)))))))], [(3, .pure (GSlot.cs s1))], 46⟩ : TS) ?_ ?_
        · refine AW2_reg [0, 1, 2, 3, 4, 5, 6, 7, 8, 9, 10] rfl ?_
          refine r_op rfl rfl (PureD.opD (u_fa rfl rfl Tryd.underlying48 rfl in_22 (Nat.succ_ne_zero _) rfl rfl (ne_of_lt (n := 0) (Nat.lt_of_lt_of_eq (by decide) (Eq.symm (GSlot.len s1)))))) ?_
          refine r_op rfl rfl (PureD.opD (u_ld rfl rfl Tryd.underlying22 rfl rfl ((Sub.refl _).trans (GSlot.sub1 s1)))) ?_
          refine r_op rfl rfl (PureD.opD (p_lenl rfl Tryd.underlying22 rfl rfl)) ?_
          refine r_op rfl rfl (PureD.opD (p_bin rfl rfl rfl rfl)) ?_
          refine r_op rfl rfl (PureD.opD (p_move rfl rfl)) ?_
          refine (Classical.em ((s1.Salt.length : Int) > (80 : Int))).elim (fun h5 => ?_) (fun h5 => ?_)
          · refine r_off rfl rfl rfl rfl (decide_eq_true (p := (s1.Salt.length : Int) > (80 : Int)) h5) rfl rfl ?_
            refine r_off rfl rfl rfl rfl (decide_eq_true (p := (s1.Salt.length : Int) > (80 : Int)) h5) rfl rfl ?_
            refine r_off rfl rfl rfl rfl (decide_eq_true (p := (s1.Salt.length : Int) > (80 : Int)) h5) rfl rfl ?_
            refine r_off rfl rfl rfl rfl (decide_eq_true (p := (s1.Salt.length : Int) > (80 : Int)) h5) rfl rfl ?_
            refine r_op rfl rfl (PureD.opD (p_pkt rfl rfl (decide_eq_true (p := (s1.Salt.length : Int) > (80 : Int)) h5) (tb (decide_eq_true (p := ((s1.Salt.length : Int) > (80 : Int)) ∨ ((s1.Data.length : Int) > (400 : Int))) (Or.inl h5)).symm))) ?_
            refine r_op rfl rfl (PureD.opD (p_asg rfl rfl)) ?_
            refine RunW_st [(0, .c (.p (AV.int mode0))), (3, .c (.ptr 3 (0))), (20, .c (.p (.bool (decide (((s1.Salt.length : Int) > (80 : Int)) ∨ ((s1.Data.length : Int) > (400 : Int)))))))] [(3, .pure (GSlot.cs s1))] rfl ⟨TLes.same _, TLes.same _, TLes.same _, trivial⟩ ⟨rfl, trivial⟩ ?_
            exact RunW_nil rfl
          · refine r_on rfl rfl rfl rfl (decide_eq_false (p := (s1.Salt.length : Int) > (80 : Int)) h5) rfl (PureD.opD (u_fa rfl rfl Tryd.underlying48 rfl in_22 (Nat.succ_ne_zero _) rfl rfl (ne_of_lt (n := 0) (Nat.lt_of_lt_of_eq (by decide) (Eq.symm (GSlot.len s1)))))) ?_
            refine r_on rfl rfl rfl rfl (decide_eq_false (p := (s1.Salt.length : Int) > (80 : Int)) h5) rfl (PureD.opD (u_ld rfl rfl Tryd.underlying22 rfl rfl ((Sub.refl _).trans (GSlot.sub2 s1)))) ?_
            refine r_on rfl rfl rfl rfl (decide_eq_false (p := (s1.Salt.length : Int) > (80 : Int)) h5) rfl (PureD.opD (p_lenl rfl Tryd.underlying22 rfl rfl)) ?_
            refine r_on rfl rfl rfl rfl (decide_eq_false (p := (s1.Salt.length : Int) > (80 : Int)) h5) rfl (PureD.opD (p_bin rfl rfl rfl rfl)) ?_
            refine r_op rfl rfl (PureD.opD (p_pkf rfl rfl (decide_eq_false (p := (s1.Salt.length : Int) > (80 : Int)) h5) (tb ((or_l (p := (s1.Salt.length : Int) > (80 : Int)) (q := (s1.Data.length : Int) > (400 : Int)) h5))))) ?_
            refine r_op rfl rfl (PureD.opD (p_asg rfl rfl)) ?_
            refine RunW_st [(0, .c (.p (AV.int mode0))), (3, .c (.ptr 3 (0))), (20, .c (.p (.bool (decide (((s1.Salt.length : Int) > (80 : Int)) ∨ ((s1.Data.length : Int) > (400 : Int)))))))] [(3, .pure (GSlot.cs s1))] rfl ⟨TLes.same _, TLes.same _, TLes.same _, trivial⟩ ⟨rfl, trivial⟩ ?_
            exact RunW_nil rfl
        · refine AW2_if (p := ((s1.Salt.length : Int) > (80 : Int)) ∨ ((s1.Data.length : Int) > (400 : Int))) rfl (fun h6 => ?_) (fun h6 => ?_)
          · replace H := ite_then h6 H
            refine AW2_seq ?_
            refine AW2_reg [0, 1] rfl ?_
            refine r_op rfl rfl (PureD.opD (p_asgn rfl)) ?_
            refine r_op rfl rfl (PureD.opD (p_asg rfl rfl)) ?_
            refine RunW_st [(4, .c (.p .nil)), (5, .c (.p (AV.int (1 : Int))))] [] rfl ⟨TLes.same _, TLes.same _, trivial⟩ trivial ?_
            refine RunW_nil ?_
            refine AW2_ret ?_
            have hz := some_elim H
            subst hz
            exact ⟨⟨res_tmp TLes.nil0, res_tmp (.same _), trivial⟩, trivial⟩
          · replace H := ite_else h6 H
            refine AW2_st [(0, .c (.p (AV.int mode0))), (3, .c (.ptr 3 (0)))] [(3, .pure (GSlot.cs s1))] rfl ⟨TLes.same _, TLes.same _, trivial⟩ ⟨rfl, trivial⟩ ?_
            refine AW2_skip ?_
            refine AW2_seq ?_
            refine AW2_reg [0] rfl ?_
            refine r_op rfl rfl (PureD.opD (p_asg rfl rfl)) ?_
            refine RunW_st [(0, .c (.p (AV.int mode0))), (3, .c (.ptr 3 (0))), (6, .c (.p (AV.txt [0])))] [(3, .pure (GSlot.cs s1))] rfl ⟨TLes.same _, TLes.same _, TLes.same _, trivial⟩ ⟨rfl, trivial⟩ ?_
            refine RunW_nil ?_
            refine AW2_seq ?_
            refine bindK H fun j'2 h7 H => ?_
            refine AW2_mid (⟨[(0, .c (.p (AV.int mode0))), (3, .c (.ptr 3 (0))), (6, .c (.p (AV.txt j'2)))], [(3, .pure (GSlot.cs s1))], 46⟩ : TS) ?_ ?_
            · clear H
              have H := h7
              clear h7
              refine AW2_seq ?_
              refine AW2_reg [0, 1] rfl ?_
              refine r_op rfl rfl (PureD.opD (u_fa rfl rfl Tryd.underlying48 rfl in_4 (Nat.succ_ne_zero _) rfl rfl (ne_of_lt (n := 0) (Nat.lt_of_lt_of_eq (by decide) (Eq.symm (GSlot.len s1)))))) ?_
              refine r_op rfl rfl (PureD.opD (u_ld rfl rfl Tryd.underlying4 rfl rfl ((Sub.refl _).trans (GSlot.sub0 s1)))) ?_
              refine RunW_st [(0, .c (.p (AV.int mode0))), (3, .c (.ptr 3 (0))), (6, .c (.p (AV.txt [0]))), (32, .c (.p (AV.bool s1.Full)))] [(3, .pure (GSlot.cs s1))] rfl ⟨TLes.same _, TLes.same _, TLes.same _, TLes.same _, trivial⟩ ⟨rfl, trivial⟩ ?_
              refine RunW_nil ?_
              refine AW2_cond rfl (fun h8 => ?_) (fun h8 => ?_)
              · replace H := ite_then h8 H
                refine AW2_reg [0, 1, 2, 3, 4] rfl ?_
                refine r_op rfl rfl (PureD.opD (u_fa rfl rfl Tryd.underlying48 rfl in_22 (Nat.succ_ne_zero _) rfl rfl (ne_of_lt (n := 0) (Nat.lt_of_lt_of_eq (by decide) (Eq.symm (GSlot.len s1)))))) ?_
                refine r_op rfl rfl (PureD.opD (u_ld rfl rfl Tryd.underlying22 rfl rfl ((Sub.refl _).trans (GSlot.sub2 s1)))) ?_
                refine r_op rfl rfl (PureD.opD (p_cb rfl rfl Tryd.underlying22 Tryd.underlying5 Tryd.underlying9 rfl)) ?_
                refine chkK H fun h9 H => ?_
                refine r_op rfl rfl (PureD.opD (p_cat rfl rfl rfl h9)) ?_
                refine r_op rfl rfl (PureD.opD (p_asg rfl rfl)) ?_
                refine RunW_st [(0, .c (.p (AV.int mode0))), (3, .c (.ptr 3 (0))), (6, .c (.p (AV.txt ([1] ++ s1.Data))))] [(3, .pure (GSlot.cs s1))] rfl ⟨TLes.same _, TLes.same _, TLes.same _, trivial⟩ ⟨rfl, trivial⟩ ?_
                refine RunW_nil ?_
                have hz := some_elim H
                subst hz
                exact rfl
              · replace H := ite_else (ne_true h8) H
                refine AW2_st [(0, .c (.p (AV.int mode0))), (3, .c (.ptr 3 (0))), (6, .c (.p (AV.txt [0])))] [(3, .pure (GSlot.cs s1))] rfl ⟨TLes.same _, TLes.same _, TLes.same _, trivial⟩ ⟨rfl, trivial⟩ ?_
                refine AW2_skip ?_
                have hz := some_elim H
                subst hz
                exact rfl
            · refine AW2_seq ?_
              refine AW2_reg [0, 1, 2, 3, 4, 5, 6, 7, 8, 9, 10] rfl ?_
              refine r_op rfl rfl (PureD.opD (p_move rfl rfl)) ?_
              refine r_op rfl rfl (PureD.opD (u_fa rfl rfl Tryd.underlying48 rfl in_22 (Nat.succ_ne_zero _) rfl rfl (ne_of_lt (n := 0) (Nat.lt_of_lt_of_eq (by decide) (Eq.symm (GSlot.len s1)))))) ?_
              refine r_op rfl rfl (PureD.opD (u_ld rfl rfl Tryd.underlying22 rfl rfl ((Sub.refl _).trans (GSlot.sub1 s1)))) ?_
              refine r_op rfl rfl (PureD.opD (p_move rfl rfl)) ?_
              refine r_op rfl rfl (MakeD.opD (n_sb 41 rfl Tryd.underlying9 Tryd.underlying22 Tryd.underlying5 rfl) rfl rfl rfl rfl) ?_
              refine RunW_gho (Gho_pubs [41] ⟨rfl, trivial⟩ rfl (bl j'2) (by decide)) ?_
              refine r_op rfl rfl (MakeD.opD (u_bs 42 rfl Tryd.underlying44 in_22 rfl one_22 (by decide) (by decide) rfl rfl rfl) rfl rfl rfl rfl) ?_
              refine RunW_st [(0, .c (.p (AV.int mode0))), (3, .c (.ptr 3 (0))), (6, .c (.p (AV.txt j'2))), (37, .c (.p (AV.int mode0))), (38, .c (.ptr 3 (0 + 1))), (39, .c (.p (AV.bytes s1.Salt))), (40, .c (.p (AV.txt j'2))), (41, .c (.p (AV.bytes j'2))), (42, .c (.own 42 ([s1.Salt, j'2] : List (List UInt8)).length 1))] [(3, .pure (GSlot.cs s1)), (42, .pure (([s1.Salt, j'2] : List (List UInt8)).map AV.bytes))] rfl ⟨TLes.same _, TLes.same _, TLes.same _, TLes.same _, TLes.same _, TLes.same _, TLes.same _, TLes.same _, TLes.own rfl, trivial⟩ ⟨rfl, rfl, trivial⟩ ?_
              refine RunW_gho (Gho_pubs [42] ⟨rfl, trivial⟩ rfl (ml AV.bytes ([s1.Salt, j'2] : List (List UInt8))) (by decide)) ?_
              refine bindK H fun r'3 h10 H => ?_
              refine r_op rfl rfl (PureD.opD (p_callp rfl rfl rfl Tryd.func26 rfl rfl (g_ref_DigestOf_ac h10) ⟨rfl, rfl, rfl, trivial⟩)) ?_
              refine r_op rfl rfl (PureD.opD (p_ext rfl rfl rfl rfl)) ?_
              refine r_op rfl rfl (PureD.opD (p_ext rfl rfl rfl rfl)) ?_
              refine r_op rfl rfl (PureD.opD (p_asg rfl rfl)) ?_
              refine r_op rfl rfl (PureD.opD (p_asg rfl rfl)) ?_
              refine RunW_st [(4, .c (.p (AV.bytes r'3.1))), (5, .c (.p (AV.int r'3.2)))] [] rfl ⟨TLes.same _, TLes.same _, trivial⟩ trivial ?_
              refine RunW_nil ?_
              refine AW2_ret ?_
              have hz := some_elim H
              subst hz
              exact ⟨⟨res_tmp (.same _), res_tmp (.same _), trivial⟩, trivial⟩

/-! chirographlaw.SlotsLeaves -/
noncomputable def g_law_SlotsLeaves (mode0 : Int) (s1 : GSlot) : Option (Bool) :=
  (g_slots_Leaf mode0 s1).bind fun r'1 => (g_ref_LeafOf mode0 s1).bind fun r'2 => ((if r'1.2 = r'2.2 then (g_law_sameBytes r'1.1 r'2.1).bind fun r'4 => some r'4 else some false)).bind fun g'5 => some g'5
set_option maxHeartbeats 4000000 in
set_option maxRecDepth 100000 in
theorem g_law_SlotsLeaves_ac {mode0 : Int} {s1 : GSlot} {r : Bool} (H : g_law_SlotsLeaves mode0 s1 = some r) : ACp Tryd.prog 9 [(AV.int mode0), (.agg (GSlot.cs s1))] (AV.bool r) := by
  refine ACp_of (AC2_of_body (vs := [.c (.p (AV.bool r))]) Tryd.func9 rfl rfl (Nat.le_of_ble_eq_true rfl) rfl ?_) (fun _ => .same _)
  unfold g_law_SlotsLeaves at H
  refine AW2_st [(0, .c (.p (AV.int mode0))), (1, .c (.p (.agg (GSlot.cs s1))))] [] rfl ⟨TLes.same _, TLes.same _, trivial⟩ trivial ?_
  refine AW2_seq ?_
  refine AW2_reg [0, 1] rfl ?_
  refine r_op rfl rfl (MakeD.opD (n_box 3 rfl rfl) rfl rfl rfl rfl) ?_
  refine r_op rfl rfl (PureD.opD (p_asg rfl rfl)) ?_
  refine RunW_st [(0, .c (.p (AV.int mode0))), (3, .c (.ptr 3 (0)))] [(3, .pure (GSlot.cs s1))] rfl ⟨TLes.same _, TLes.same _, trivial⟩ ⟨rfl, trivial⟩ ?_
  refine RunW_nil ?_
  refine AW2_seq ?_
  refine AW2_reg [0, 1, 2, 3, 4, 5, 6, 7] rfl ?_
  refine r_op rfl rfl (PureD.opD (p_move rfl rfl)) ?_
  refine r_op rfl rfl (PureD.opD (u_lda rfl rfl Tryd.underlying48 rfl in_48 rfl (Nat.succ_pos _) (Sub.refl _) (GSlot.len s1))) ?_
  refine bindK H fun r'1 h1 H => ?_
  refine r_op rfl rfl (PureD.opD (p_callp rfl rfl rfl Tryd.func27 rfl rfl (g_slots_Leaf_ac h1) ⟨rfl, rfl, trivial⟩)) ?_
  refine r_op rfl rfl (PureD.opD (p_move rfl rfl)) ?_
  refine r_op rfl rfl (PureD.opD (p_ext rfl rfl rfl rfl)) ?_
  refine r_op rfl rfl (PureD.opD (p_ext rfl rfl rfl rfl)) ?_
  refine r_op rfl rfl (PureD.opD (p_asg rfl rfl)) ?_
  refine r_op rfl rfl (PureD.opD (p_asg rfl rfl)) ?_
  refine RunW_st [(0, .c (.p (AV.int mode0))), (3, .c (.ptr 3 (0))), (5, .c (.p (AV.bytes r'1.1))), (6, .c (.p (AV.int r'1.2)))] [(3, .pure (GSlot.cs s1))] rfl ⟨TLes.same _, TLes.same _, TLes.same _, TLes.same _, trivial⟩ ⟨rfl, trivial⟩ ?_
  refine RunW_nil ?_
  refine AW2_seq ?_
  refine AW2_reg [0, 1, 2, 3, 4, 5, 6, 7] rfl ?_
  refine r_op rfl rfl (PureD.opD (p_move rfl rfl)) ?_
  refine r_op rfl rfl (PureD.opD (u_lda rfl rfl Tryd.underlying48 rfl in_48 rfl (Nat.succ_pos _) (Sub.refl _) (GSlot.len s1))) ?_
  refine bindK H fun r'2 h2 H => ?_
  refine r_op rfl rfl (PureD.opD (p_callp rfl rfl rfl Tryd.func28 rfl rfl (g_ref_LeafOf_ac h2) ⟨rfl, rfl, trivial⟩)) ?_
  refine r_op rfl rfl (PureD.opD (p_move rfl rfl)) ?_
  refine r_op rfl rfl (PureD.opD (p_ext rfl rfl rfl rfl)) ?_
  refine r_op rfl rfl (PureD.opD (p_ext rfl rfl rfl rfl)) ?_
  refine r_op rfl rfl (PureD.opD (p_asg rfl rfl)) ?_
  refine r_op rfl rfl (PureD.opD (p_asg rfl rfl)) ?_
  refine RunW_st [(5, .c (.p (AV.bytes r'1.1))), (6, .c (.p (AV.int r'1.2))), (7, .c (.p (AV.bytes r'2.1))), (8, .c (.p (AV.int r'2.2)))] [] rfl ⟨TLes.same _, TLes.same _, TLes.same _, TLes.same _, trivial⟩ trivial ?_
  refine RunW_nil ?_
  refine AW2_seq ?_
  refine bindK H fun g'5 h6 H => ?_
  refine AW2_mid (⟨[(4, .c (.p (AV.bool g'5)))], [], 29⟩ : TS) ?_ ?_
  · clear H
    have H := h6
    clear h6
    refine AW2_reg [0, 1, 2, 3, 4, 5, 6, 7, 8] rfl ?_
    refine r_op rfl rfl (PureD.opD (p_move rfl rfl)) ?_
    refine r_op rfl rfl (PureD.opD (p_move rfl rfl)) ?_
    refine r_op rfl rfl (PureD.opD (p_ieq rfl rfl rfl)) ?_
    refine r_op rfl rfl (PureD.opD (p_move rfl rfl)) ?_
    refine (Classical.em (r'1.2 = r'2.2)).elim (fun h4 => ?_) (fun h4 => ?_)
    · replace H := ite_then h4 H
      refine r_on rfl rfl rfl rfl (decide_eq_true (p := r'1.2 = r'2.2) h4) rfl (PureD.opD (p_move rfl rfl)) ?_
      refine r_on rfl rfl rfl rfl (decide_eq_true (p := r'1.2 = r'2.2) h4) rfl (PureD.opD (p_move rfl rfl)) ?_
      refine bindK H fun r'4 h5 H => ?_
      refine r_on rfl rfl rfl rfl (decide_eq_true (p := r'1.2 = r'2.2) h4) rfl (PureD.opD (p_callp rfl rfl rfl Tryd.func24 rfl rfl (g_law_sameBytes_ac h5) ⟨rfl, rfl, trivial⟩)) ?_
      refine r_op rfl rfl (PureD.opD (p_pkt rfl rfl (decide_eq_true (p := r'1.2 = r'2.2) h4) (.same _))) ?_
      refine r_op rfl rfl (PureD.opD (p_asg rfl rfl)) ?_
      refine RunW_st [(4, .c (.p (AV.bool r'4)))] [] rfl ⟨TLes.same _, trivial⟩ trivial ?_
      have hz := some_elim H
      subst hz
      exact RunW_nil rfl
    · replace H := ite_else h4 H
      refine r_off rfl rfl rfl rfl (decide_eq_false (p := r'1.2 = r'2.2) h4) rfl rfl ?_
      refine r_off rfl rfl rfl rfl (decide_eq_false (p := r'1.2 = r'2.2) h4) rfl rfl ?_
      refine r_off rfl rfl rfl rfl (decide_eq_false (p := r'1.2 = r'2.2) h4) rfl rfl ?_
      refine r_op rfl rfl (PureD.opD (p_pkf rfl rfl (decide_eq_false (p := r'1.2 = r'2.2) h4) (.same _))) ?_
      refine r_op rfl rfl (PureD.opD (p_asg rfl rfl)) ?_
      refine RunW_st [(4, .c (.p (AV.bool false)))] [] rfl ⟨TLes.same _, trivial⟩ trivial ?_
      have hz := some_elim H
      subst hz
      exact RunW_nil rfl
  · refine AW2_ret ?_
    have hz := some_elim H
    subst hz
    exact ⟨⟨res_tmp (.same _), trivial⟩, trivial⟩

/-! audit.Data -/
noncomputable def g_audit_Data (mode0 : Int) (user1 : Int) (e2 : Int) (text3 : List UInt8) : Option ((List UInt8) × Int) :=
  (if (((user1 < (0 : Int)) ∨ (user1 ≥ (3 : Int))) ∨ (e2 < (0 : Int))) ∨ (e2 > (12 : Int)) then some (([] : List UInt8), (6 : Int)) else (if (text3.length : Int) > (300 : Int) then some (([] : List UInt8), (1 : Int)) else (g_oracle_Digest mode0 (9 : Int) ([text3] : List (List UInt8))).bind fun r'1 => (if r'1.2 ≠ (0 : Int) then some (([] : List UInt8), r'1.2) else if room (([UInt8.ofInt user1, UInt8.ofInt e2] : List UInt8).length + r'1.1.length) 1 then some (([UInt8.ofInt user1, UInt8.ofInt e2] : List UInt8) ++ r'1.1, (0 : Int)) else none)))
set_option maxHeartbeats 4000000 in
set_option maxRecDepth 100000 in
theorem g_audit_Data_ac2 {mode0 : Int} {user1 : Int} {e2 : Int} {text3 : List UInt8} {r : (List UInt8) × Int} (H : g_audit_Data mode0 user1 e2 text3 = some r) : AC2 Tryd.prog 29 (pureT [(AV.int mode0), (AV.int user1), (AV.int e2), (AV.txt text3)]) [] (retV [.c (.own 8 r.1.length 1), .c (.p (AV.int r.2))]) [(8, .pure (bcells r.1))] := by
  refine AC2_of_body (vs := [.c (.own 8 r.1.length 1), .c (.p (AV.int r.2))]) Tryd.func29 rfl rfl (Nat.le_of_ble_eq_true rfl) rfl ?_
  unfold g_audit_Data at H
  refine AW2_st [(0, .c (.p (AV.int mode0))), (1, .c (.p (AV.int user1))), (2, .c (.p (AV.int e2))), (3, .c (.p (AV.txt text3)))] [] rfl ⟨TLes.same _, TLes.same _, TLes.same _, TLes.same _, trivial⟩ trivial ?_
  refine AW2_seq ?_
  refine AW2_reg [0, 1] rfl ?_
  refine r_op rfl rfl (PureD.opD (p_asgn rfl)) ?_
  refine r_op rfl rfl (PureD.opD (p_asg rfl rfl)) ?_
  refine RunW_st [(0, .c (.p (AV.int mode0))), (1, .c (.p (AV.int user1))), (2, .c (.p (AV.int e2))), (3, .c (.p (AV.txt text3)))] [] rfl ⟨TLes.same _, TLes.same _, TLes.same _, TLes.same _, trivial⟩ trivial ?_
  refine RunW_nil ?_
  refine AW2_seq ?_
  refine AW2_seq ?_
  refine AW2_mid (⟨[(0, .c (.p (AV.int mode0))), (1, .c (.p (AV.int user1))), (2, .c (.p (AV.int e2))), (3, .c (.p (AV.txt text3))), (25, .c (.p (.bool (decide ((((user1 < (0 : Int)) ∨ (user1 ≥ (3 : Int))) ∨ (e2 < (0 : Int))) ∨ (e2 > (12 : Int)))))))], [], 47⟩ : TS) ?_ ?_
  · refine AW2_reg [0, 1, 2, 3, 4, 5, 6, 7, 8, 9, 10, 11, 12, 13] rfl ?_
    refine r_op rfl rfl (PureD.opD (p_move rfl rfl)) ?_
    refine r_op rfl rfl (PureD.opD (p_bin rfl rfl rfl rfl)) ?_
    refine r_op rfl rfl (PureD.opD (p_move rfl rfl)) ?_
    refine (Classical.em (user1 < (0 : Int))).elim (fun h1 => ?_) (fun h1 => ?_)
    · refine r_off rfl rfl rfl rfl (decide_eq_true (p := user1 < (0 : Int)) h1) rfl rfl ?_
      refine r_off rfl rfl rfl rfl (decide_eq_true (p := user1 < (0 : Int)) h1) rfl rfl ?_
      refine r_op rfl rfl (PureD.opD (p_pkt rfl rfl (decide_eq_true (p := user1 < (0 : Int)) h1) (tb (decide_eq_true (p := (user1 < (0 : Int)) ∨ (user1 ≥ (3 : Int))) (Or.inl h1)).symm))) ?_
      refine r_op rfl rfl (PureD.opD (p_move rfl rfl)) ?_
      refine r_off rfl rfl rfl rfl (decide_eq_true (p := (user1 < (0 : Int)) ∨ (user1 ≥ (3 : Int))) (Or.inl h1)) rfl rfl ?_
      refine r_off rfl rfl rfl rfl (decide_eq_true (p := (user1 < (0 : Int)) ∨ (user1 ≥ (3 : Int))) (Or.inl h1)) rfl rfl ?_
      refine r_op rfl rfl (PureD.opD (p_pkt rfl rfl (decide_eq_true (p := (user1 < (0 : Int)) ∨ (user1 ≥ (3 : Int))) (Or.inl h1)) (tb (decide_eq_true (p := ((user1 < (0 : Int)) ∨ (user1 ≥ (3 : Int))) ∨ (e2 < (0 : Int))) (Or.inl (Or.inl h1))).symm))) ?_
      refine r_op rfl rfl (PureD.opD (p_move rfl rfl)) ?_
      refine r_off rfl rfl rfl rfl (decide_eq_true (p := ((user1 < (0 : Int)) ∨ (user1 ≥ (3 : Int))) ∨ (e2 < (0 : Int))) (Or.inl (Or.inl h1))) rfl rfl ?_
      refine r_off rfl rfl rfl rfl (decide_eq_true (p := ((user1 < (0 : Int)) ∨ (user1 ≥ (3 : Int))) ∨ (e2 < (0 : Int))) (Or.inl (Or.inl h1))) rfl rfl ?_
      refine r_op rfl rfl (PureD.opD (p_pkt rfl rfl (decide_eq_true (p := ((user1 < (0 : Int)) ∨ (user1 ≥ (3 : Int))) ∨ (e2 < (0 : Int))) (Or.inl (Or.inl h1))) (tb (decide_eq_true (p := (((user1 < (0 : Int)) ∨ (user1 ≥ (3 : Int))) ∨ (e2 < (0 : Int))) ∨ (e2 > (12 : Int))) (Or.inl (Or.inl (Or.inl h1)))).symm))) ?_
      refine RunW_st [(0, .c (.p (AV.int mode0))), (1, .c (.p (AV.int user1))), (2, .c (.p (AV.int e2))), (3, .c (.p (AV.txt text3))), (25, .c (.p (.bool (decide ((((user1 < (0 : Int)) ∨ (user1 ≥ (3 : Int))) ∨ (e2 < (0 : Int))) ∨ (e2 > (12 : Int)))))))] [] rfl ⟨TLes.same _, TLes.same _, TLes.same _, TLes.same _, TLes.same _, trivial⟩ trivial ?_
      exact RunW_nil rfl
    · refine r_on rfl rfl rfl rfl (decide_eq_false (p := user1 < (0 : Int)) h1) rfl (PureD.opD (p_move rfl rfl)) ?_
      refine r_on rfl rfl rfl rfl (decide_eq_false (p := user1 < (0 : Int)) h1) rfl (PureD.opD (p_bin rfl rfl rfl rfl)) ?_
      refine r_op rfl rfl (PureD.opD (p_pkf rfl rfl (decide_eq_false (p := user1 < (0 : Int)) h1) (tb ((or_l (p := user1 < (0 : Int)) (q := user1 ≥ (3 : Int)) h1))))) ?_
      refine r_op rfl rfl (PureD.opD (p_move rfl rfl)) ?_
      refine (Classical.em (user1 ≥ (3 : Int))).elim (fun h2 => ?_) (fun h2 => ?_)
      · refine r_off rfl rfl rfl rfl (decide_eq_true (p := (user1 < (0 : Int)) ∨ (user1 ≥ (3 : Int))) (Or.inr h2)) rfl rfl ?_
        refine r_off rfl rfl rfl rfl (decide_eq_true (p := (user1 < (0 : Int)) ∨ (user1 ≥ (3 : Int))) (Or.inr h2)) rfl rfl ?_
        refine r_op rfl rfl (PureD.opD (p_pkt rfl rfl (decide_eq_true (p := (user1 < (0 : Int)) ∨ (user1 ≥ (3 : Int))) (Or.inr h2)) (tb (decide_eq_true (p := ((user1 < (0 : Int)) ∨ (user1 ≥ (3 : Int))) ∨ (e2 < (0 : Int))) (Or.inl (Or.inr h2))).symm))) ?_
        refine r_op rfl rfl (PureD.opD (p_move rfl rfl)) ?_
        refine r_off rfl rfl rfl rfl (decide_eq_true (p := ((user1 < (0 : Int)) ∨ (user1 ≥ (3 : Int))) ∨ (e2 < (0 : Int))) (Or.inl (Or.inr h2))) rfl rfl ?_
        refine r_off rfl rfl rfl rfl (decide_eq_true (p := ((user1 < (0 : Int)) ∨ (user1 ≥ (3 : Int))) ∨ (e2 < (0 : Int))) (Or.inl (Or.inr h2))) rfl rfl ?_
        refine r_op rfl rfl (PureD.opD (p_pkt rfl rfl (decide_eq_true (p := ((user1 < (0 : Int)) ∨ (user1 ≥ (3 : Int))) ∨ (e2 < (0 : Int))) (Or.inl (Or.inr h2))) (tb (decide_eq_true (p := (((user1 < (0 : Int)) ∨ (user1 ≥ (3 : Int))) ∨ (e2 < (0 : Int))) ∨ (e2 > (12 : Int))) (Or.inl (Or.inl (Or.inr h2)))).symm))) ?_
        refine RunW_st [(0, .c (.p (AV.int mode0))), (1, .c (.p (AV.int user1))), (2, .c (.p (AV.int e2))), (3, .c (.p (AV.txt text3))), (25, .c (.p (.bool (decide ((((user1 < (0 : Int)) ∨ (user1 ≥ (3 : Int))) ∨ (e2 < (0 : Int))) ∨ (e2 > (12 : Int)))))))] [] rfl ⟨TLes.same _, TLes.same _, TLes.same _, TLes.same _, TLes.same _, trivial⟩ trivial ?_
        exact RunW_nil rfl
      · refine r_on rfl rfl rfl rfl (decide_eq_false (p := (user1 < (0 : Int)) ∨ (user1 ≥ (3 : Int))) (not_or.2 ⟨h1, h2⟩)) rfl (PureD.opD (p_move rfl rfl)) ?_
        refine r_on rfl rfl rfl rfl (decide_eq_false (p := (user1 < (0 : Int)) ∨ (user1 ≥ (3 : Int))) (not_or.2 ⟨h1, h2⟩)) rfl (PureD.opD (p_bin rfl rfl rfl rfl)) ?_
        refine r_op rfl rfl (PureD.opD (p_pkf rfl rfl (decide_eq_false (p := (user1 < (0 : Int)) ∨ (user1 ≥ (3 : Int))) (not_or.2 ⟨h1, h2⟩)) (tb ((or_l (p := (user1 < (0 : Int)) ∨ (user1 ≥ (3 : Int))) (q := e2 < (0 : Int)) (not_or.2 ⟨h1, h2⟩)))))) ?_
        refine r_op rfl rfl (PureD.opD (p_move rfl rfl)) ?_
        refine (Classical.em (e2 < (0 : Int))).elim (fun h3 => ?_) (fun h3 => ?_)
        · refine r_off rfl rfl rfl rfl (decide_eq_true (p := ((user1 < (0 : Int)) ∨ (user1 ≥ (3 : Int))) ∨ (e2 < (0 : Int))) (Or.inr h3)) rfl rfl ?_
          refine r_off rfl rfl rfl rfl (decide_eq_true (p := ((user1 < (0 : Int)) ∨ (user1 ≥ (3 : Int))) ∨ (e2 < (0 : Int))) (Or.inr h3)) rfl rfl ?_
          refine r_op rfl rfl (PureD.opD (p_pkt rfl rfl (decide_eq_true (p := ((user1 < (0 : Int)) ∨ (user1 ≥ (3 : Int))) ∨ (e2 < (0 : Int))) (Or.inr h3)) (tb (decide_eq_true (p := (((user1 < (0 : Int)) ∨ (user1 ≥ (3 : Int))) ∨ (e2 < (0 : Int))) ∨ (e2 > (12 : Int))) (Or.inl (Or.inr h3))).symm))) ?_
          refine RunW_st [(0, .c (.p (AV.int mode0))), (1, .c (.p (AV.int user1))), (2, .c (.p (AV.int e2))), (3, .c (.p (AV.txt text3))), (25, .c (.p (.bool (decide ((((user1 < (0 : Int)) ∨ (user1 ≥ (3 : Int))) ∨ (e2 < (0 : Int))) ∨ (e2 > (12 : Int)))))))] [] rfl ⟨TLes.same _, TLes.same _, TLes.same _, TLes.same _, TLes.same _, trivial⟩ trivial ?_
          exact RunW_nil rfl
        · refine r_on rfl rfl rfl rfl (decide_eq_false (p := ((user1 < (0 : Int)) ∨ (user1 ≥ (3 : Int))) ∨ (e2 < (0 : Int))) (not_or.2 ⟨(not_or.2 ⟨h1, h2⟩), h3⟩)) rfl (PureD.opD (p_move rfl rfl)) ?_
          refine r_on rfl rfl rfl rfl (decide_eq_false (p := ((user1 < (0 : Int)) ∨ (user1 ≥ (3 : Int))) ∨ (e2 < (0 : Int))) (not_or.2 ⟨(not_or.2 ⟨h1, h2⟩), h3⟩)) rfl (PureD.opD (p_bin rfl rfl rfl rfl)) ?_
          refine r_op rfl rfl (PureD.opD (p_pkf rfl rfl (decide_eq_false (p := ((user1 < (0 : Int)) ∨ (user1 ≥ (3 : Int))) ∨ (e2 < (0 : Int))) (not_or.2 ⟨(not_or.2 ⟨h1, h2⟩), h3⟩)) (tb ((or_l (p := ((user1 < (0 : Int)) ∨ (user1 ≥ (3 : Int))) ∨ (e2 < (0 : Int))) (q := e2 > (12 : Int)) (not_or.2 ⟨(not_or.2 ⟨h1, h2⟩), h3⟩)))))) ?_
          refine RunW_st [(0, .c (.p (AV.int mode0))), (1, .c (.p (AV.int user1))), (2, .c (.p (AV.int e2))), (3, .c (.p (AV.txt text3))), (25, .c (.p (.bool (decide ((((user1 < (0 : Int)) ∨ (user1 ≥ (3 : Int))) ∨ (e2 < (0 : Int))) ∨ (e2 > (12 : Int)))))))] [] rfl ⟨TLes.same _, TLes.same _, TLes.same _, TLes.same _, TLes.same _, trivial⟩ trivial ?_
          exact RunW_nil rfl
  · refine AW2_if (p := (((user1 < (0 : Int)) ∨ (user1 ≥ (3 : Int))) ∨ (e2 < (0 : Int))) ∨ (e2 > (12 : Int))) rfl (fun h4 => ?_) (fun h4 => ?_)
    · replace H := ite_then h4 H
      refine AW2_seq ?_
      refine AW2_reg [0, 1] rfl ?_
      refine r_op rfl rfl (PureD.opD (p_asgn rfl)) ?_
      refine r_op rfl rfl (PureD.opD (p_asg rfl rfl)) ?_
      refine RunW_st [(8, .c (.p .nil)), (9, .c (.p (AV.int (6 : Int))))] [] rfl ⟨TLes.same _, TLes.same _, trivial⟩ trivial ?_
      refine RunW_nil ?_
      refine AW2_st [(8, .c (.p .nil)), (9, .c (.p (AV.int (6 : Int))))] [] rfl ⟨TLes.same _, TLes.same _, trivial⟩ trivial ?_
      refine AW2_gho (Gho_own (d := 8) (b := 8) (z := 1) rfl rfl rfl rfl) ?_
      refine AW2_st [(8, .c (.own 8 ([] : List UInt8).length 1)), (9, .c (.p (AV.int (6 : Int))))] [(8, .pure (bcells ([] : List UInt8)))] rfl ⟨TLes.own rfl, TLes.same _, trivial⟩ ⟨rfl, trivial⟩ ?_
      refine AW2_ret ?_
      have hz := some_elim H
      subst hz
      exact ⟨⟨res_tmp (.same _), res_tmp (.same _), trivial⟩, ⟨rfl, trivial⟩⟩
    · replace H := ite_else h4 H
      refine AW2_st [(0, .c (.p (AV.int mode0))), (1, .c (.p (AV.int user1))), (2, .c (.p (AV.int e2))), (3, .c (.p (AV.txt text3)))] [] rfl ⟨TLes.same _, TLes.same _, TLes.same _, TLes.same _, trivial⟩ trivial ?_
      refine AW2_skip ?_
      refine AW2_seq ?_
      refine AW2_seq ?_
      refine AW2_reg [0, 1, 2] rfl ?_
      refine r_op rfl rfl (PureD.opD (p_move rfl rfl)) ?_
      refine r_op rfl rfl (PureD.opD (p_lent rfl Tryd.underlying9 rfl)) ?_
      refine r_op rfl rfl (PureD.opD (p_bin rfl rfl rfl rfl)) ?_
      refine RunW_st [(0, .c (.p (AV.int mode0))), (1, .c (.p (AV.int user1))), (2, .c (.p (AV.int e2))), (3, .c (.p (AV.txt text3))), (28, .c (.p (.bool (decide ((text3.length : Int) > (300 : Int))))))] [] rfl ⟨TLes.same _, TLes.same _, TLes.same _, TLes.same _, TLes.same _, trivial⟩ trivial ?_
      refine RunW_nil ?_
      refine AW2_if (p := (text3.length : Int) > (300 : Int)) rfl (fun h5 => ?_) (fun h5 => ?_)
      · replace H := ite_then h5 H
        refine AW2_seq ?_
        refine AW2_reg [0, 1] rfl ?_
        refine r_op rfl rfl (PureD.opD (p_asgn rfl)) ?_
        refine r_op rfl rfl (PureD.opD (p_asg rfl rfl)) ?_
        refine RunW_st [(8, .c (.p .nil)), (9, .c (.p (AV.int (1 : Int))))] [] rfl ⟨TLes.same _, TLes.same _, trivial⟩ trivial ?_
        refine RunW_nil ?_
        refine AW2_st [(8, .c (.p .nil)), (9, .c (.p (AV.int (1 : Int))))] [] rfl ⟨TLes.same _, TLes.same _, trivial⟩ trivial ?_
        refine AW2_gho (Gho_own (d := 8) (b := 8) (z := 1) rfl rfl rfl rfl) ?_
        refine AW2_st [(8, .c (.own 8 ([] : List UInt8).length 1)), (9, .c (.p (AV.int (1 : Int))))] [(8, .pure (bcells ([] : List UInt8)))] rfl ⟨TLes.own rfl, TLes.same _, trivial⟩ ⟨rfl, trivial⟩ ?_
        refine AW2_ret ?_
        have hz := some_elim H
        subst hz
        exact ⟨⟨res_tmp (.same _), res_tmp (.same _), trivial⟩, ⟨rfl, trivial⟩⟩
      · replace H := ite_else h5 H
        refine AW2_st [(0, .c (.p (AV.int mode0))), (1, .c (.p (AV.int user1))), (2, .c (.p (AV.int e2))), (3, .c (.p (AV.txt text3)))] [] rfl ⟨TLes.same _, TLes.same _, TLes.same _, TLes.same _, trivial⟩ trivial ?_
        refine AW2_skip ?_
        refine AW2_seq ?_
        refine AW2_reg [0, 1, 2, 3, 4, 5, 6, 7, 8, 9] rfl ?_
        refine r_op rfl rfl (PureD.opD (p_move rfl rfl)) ?_
        refine r_op rfl rfl (PureD.opD (p_move rfl rfl)) ?_
        refine r_op rfl rfl (MakeD.opD (n_sb 32 rfl Tryd.underlying9 Tryd.underlying22 Tryd.underlying5 rfl) rfl rfl rfl rfl) ?_
        refine RunW_gho (Gho_pubs [32] ⟨rfl, trivial⟩ rfl (bl text3) (by decide)) ?_
        refine r_op rfl rfl (MakeD.opD (u_bs 33 rfl Tryd.underlying44 in_22 rfl one_22 (by decide) (by decide) rfl rfl rfl) rfl rfl rfl rfl) ?_
        refine RunW_st [(0, .c (.p (AV.int mode0))), (1, .c (.p (AV.int user1))), (2, .c (.p (AV.int e2))), (3, .c (.p (AV.txt text3))), (30, .c (.p (AV.int mode0))), (31, .c (.p (AV.txt text3))), (32, .c (.p (AV.bytes text3))), (33, .c (.own 33 ([text3] : List (List UInt8)).length 1))] [(33, .pure (([text3] : List (List UInt8)).map AV.bytes))] rfl ⟨TLes.same _, TLes.same _, TLes.same _, TLes.same _, TLes.same _, TLes.same _, TLes.same _, TLes.own rfl, trivial⟩ ⟨rfl, trivial⟩ ?_
        refine RunW_gho (Gho_pubs [33] ⟨rfl, trivial⟩ rfl (ml AV.bytes ([text3] : List (List UInt8))) (by decide)) ?_
        refine bindK H fun r'1 h6 H => ?_
        refine r_op rfl rfl (PureD.opD (p_callp rfl rfl rfl Tryd.func25 rfl rfl (g_oracle_Digest_ac h6) ⟨rfl, rfl, rfl, trivial⟩)) ?_
        refine r_op rfl rfl (PureD.opD (p_move rfl rfl)) ?_
        refine r_op rfl rfl (PureD.opD (p_ext rfl rfl rfl rfl)) ?_
        refine r_op rfl rfl (PureD.opD (p_ext rfl rfl rfl rfl)) ?_
        refine r_op rfl rfl (PureD.opD (p_asg rfl rfl)) ?_
        refine r_op rfl rfl (PureD.opD (p_asg rfl rfl)) ?_
        refine RunW_st [(1, .c (.p (AV.int user1))), (2, .c (.p (AV.int e2))), (10, .c (.p (AV.bytes r'1.1))), (11, .c (.p (AV.int r'1.2)))] [] rfl ⟨TLes.same _, TLes.same _, TLes.same _, TLes.same _, trivial⟩ trivial ?_
        refine RunW_nil ?_
        refine AW2_seq ?_
        refine AW2_seq ?_
        refine AW2_reg [0, 1] rfl ?_
        refine r_op rfl rfl (PureD.opD (p_move rfl rfl)) ?_
        refine r_op rfl rfl (PureD.opD (p_ine rfl rfl rfl)) ?_
        refine RunW_st [(1, .c (.p (AV.int user1))), (2, .c (.p (AV.int e2))), (10, .c (.p (AV.bytes r'1.1))), (11, .c (.p (AV.int r'1.2))), (38, .c (.p (.bool (decide (r'1.2 ≠ (0 : Int))))))] [] rfl ⟨TLes.same _, TLes.same _, TLes.same _, TLes.same _, TLes.same _, trivial⟩ trivial ?_
        refine RunW_nil ?_
        refine AW2_if (p := r'1.2 ≠ (0 : Int)) rfl (fun h7 => ?_) (fun h7 => ?_)
        · replace H := ite_then h7 H
          refine AW2_seq ?_
          refine AW2_reg [0, 1, 2] rfl ?_
          refine r_op rfl rfl (PureD.opD (p_move rfl rfl)) ?_
          refine r_op rfl rfl (PureD.opD (p_asgn rfl)) ?_
          refine r_op rfl rfl (PureD.opD (p_asg rfl rfl)) ?_
          refine RunW_st [(8, .c (.p .nil)), (9, .c (.p (AV.int r'1.2)))] [] rfl ⟨TLes.same _, TLes.same _, trivial⟩ trivial ?_
          refine RunW_nil ?_
          refine AW2_st [(8, .c (.p .nil)), (9, .c (.p (AV.int r'1.2)))] [] rfl ⟨TLes.same _, TLes.same _, trivial⟩ trivial ?_
          refine AW2_gho (Gho_own (d := 8) (b := 8) (z := 1) rfl rfl rfl rfl) ?_
          refine AW2_st [(8, .c (.own 8 ([] : List UInt8).length 1)), (9, .c (.p (AV.int r'1.2)))] [(8, .pure (bcells ([] : List UInt8)))] rfl ⟨TLes.own rfl, TLes.same _, trivial⟩ ⟨rfl, trivial⟩ ?_
          refine AW2_ret ?_
          have hz := some_elim H
          subst hz
          exact ⟨⟨res_tmp (.same _), res_tmp (.same _), trivial⟩, ⟨rfl, trivial⟩⟩
        · replace H := ite_else h7 H
          refine AW2_st [(1, .c (.p (AV.int user1))), (2, .c (.p (AV.int e2))), (10, .c (.p (AV.bytes r'1.1)))] [] rfl ⟨TLes.same _, TLes.same _, TLes.same _, trivial⟩ trivial ?_
          refine AW2_skip ?_
          refine AW2_seq ?_
          refine AW2_reg [0, 1, 2, 3, 4, 5, 6, 7, 8] rfl ?_
          refine r_op rfl rfl (PureD.opD (p_move rfl rfl)) ?_
          refine r_op rfl rfl (PureD.opD (p_i_u8 rfl Tryd.underlying3 Tryd.underlying5 rfl)) ?_
          refine r_op rfl rfl (PureD.opD (p_move rfl rfl)) ?_
          refine r_op rfl rfl (PureD.opD (p_i_u8 rfl Tryd.underlying31 Tryd.underlying5 rfl)) ?_
          refine r_op rfl rfl (MakeD.opD (u_bs 44 rfl Tryd.underlying22 in_5 rfl one_5 (by decide) (by decide) rfl rfl rfl) rfl rfl rfl rfl) ?_
          refine r_op rfl rfl (PureD.opD (p_move rfl rfl)) ?_
          refine chkK H fun h8 H => ?_
          refine r_op rfl rfl (u_app [44] rfl rfl rfl rfl Tryd.underlying22 Tryd.underlying22 in_5 rfl rfl rfl (bl ([UInt8.ofInt user1, UInt8.ofInt e2] : List UInt8)) (by decide) rfl (bl r'1.1) h8 (by decide) rfl rfl (bapp ([UInt8.ofInt user1, UInt8.ofInt e2] : List UInt8) r'1.1) (lapp ([UInt8.ofInt user1, UInt8.ofInt e2] : List UInt8) r'1.1)) ?_
          refine r_op rfl rfl (PureD.opD (p_asg rfl rfl)) ?_
          refine r_op rfl rfl (PureD.opD (p_asg rfl rfl)) ?_
          refine RunW_st [(8, .c (.own 44 (([UInt8.ofInt user1, UInt8.ofInt e2] : List UInt8) ++ r'1.1).length 1)), (9, .c (.p (AV.int (0 : Int))))] [(44, .pure (bcells (([UInt8.ofInt user1, UInt8.ofInt e2] : List UInt8) ++ r'1.1)))] rfl ⟨TLes.same _, TLes.same _, trivial⟩ ⟨rfl, trivial⟩ ?_
          refine RunW_gho (Gho_ren 44 8 rfl rfl rfl rfl rfl) ?_
          refine RunW_st [(8, .c (.own 8 (([UInt8.ofInt user1, UInt8.ofInt e2] : List UInt8) ++ r'1.1).length 1)), (9, .c (.p (AV.int (0 : Int))))] [(8, .pure (bcells (([UInt8.ofInt user1, UInt8.ofInt e2] : List UInt8) ++ r'1.1)))] rfl ⟨TLes.same _, TLes.same _, trivial⟩ ⟨rfl, trivial⟩ ?_
          refine RunW_nil ?_
          refine AW2_st [(8, .c (.own 8 (([UInt8.ofInt user1, UInt8.ofInt e2] : List UInt8) ++ r'1.1).length 1)), (9, .c (.p (AV.int (0 : Int))))] [(8, .pure (bcells (([UInt8.ofInt user1, UInt8.ofInt e2] : List UInt8) ++ r'1.1)))] rfl ⟨TLes.same _, TLes.same _, trivial⟩ ⟨rfl, trivial⟩ ?_
          refine AW2_ret ?_
          have hz := some_elim H
          subst hz
          exact ⟨⟨res_tmp (.same _), res_tmp (.same _), trivial⟩, ⟨rfl, trivial⟩⟩
theorem g_audit_Data_ac {mode0 : Int} {user1 : Int} {e2 : Int} {text3 : List UInt8} {r : (List UInt8) × Int} (H : g_audit_Data mode0 user1 e2 text3 = some r) : ACp Tryd.prog 29 [(AV.int mode0), (AV.int user1), (AV.int e2), (AV.txt text3)] (.tup [(AV.bytes r.1), (AV.int r.2)]) := ACp_pub (g_audit_Data_ac2 H) (fun _ _ hm => lent_tup ⟨lent_own hm rfl (bl r.1) (by decide), .same _, trivial⟩)
end Go.Proofs.YtoepdjccgngpdaaDoor.VM
