/- Functions of the program, as they answer, and that their code comes to these answers. -/
import Derived.Test.YtfekkhinjdmcbaaDoorGv0
namespace Go.Proofs.YtfekkhinjdmcbaaDoor.VM
open Go Go.RowKit

structure GValue where
  Kind : Int
  Int_ : Int
  Bits : UInt64
  Text : List UInt8
deriving DecidableEq, Inhabited
def GValue.zero : GValue := ⟨(0 : Int), (0 : Int), (0 : UInt64), []⟩
def GValue.cs (x : GValue) : List AV := ([(AV.int x.Kind)]) ++ (([(AV.int x.Int_)]) ++ (([(AV.u64 x.Bits)]) ++ ([(AV.txt x.Text)])))
theorem GValue.len (x : GValue) : (GValue.cs x).length = 4 := by
  simp only [GValue.cs, List.length_append]
  rw [show ([(AV.int x.Kind)]).length = 1 from (show ([(AV.int x.Kind)]).length = 1 from rfl), show ([(AV.int x.Int_)]).length = 1 from (show ([(AV.int x.Int_)]).length = 1 from rfl), show ([(AV.u64 x.Bits)]).length = 1 from (show ([(AV.u64 x.Bits)]).length = 1 from rfl), show ([(AV.txt x.Text)]).length = 1 from (show ([(AV.txt x.Text)]).length = 1 from rfl)]
theorem GValue.sub0 (x : GValue) : Sub (GValue.cs x) 0 ([(AV.int x.Kind)]) := Sub.head _ _
theorem GValue.upd0 (x : GValue) (y : Int) : Upd (GValue.cs x) 0 ([(AV.int y)]) (GValue.cs { x with Kind := y }) := Upd.head (show ([(AV.int y)]).length = ([(AV.int x.Kind)]).length from rfl)
theorem GValue.sub1 (x : GValue) : Sub (GValue.cs x) 1 ([(AV.int x.Int_)]) := Sub.skip (k := 1) (show ([(AV.int x.Kind)]).length = 1 from rfl) (Sub.head _ _)
theorem GValue.upd1 (x : GValue) (y : Int) : Upd (GValue.cs x) 1 ([(AV.int y)]) (GValue.cs { x with Int_ := y }) := Upd.skip (k := 1) (show ([(AV.int x.Kind)]).length = 1 from rfl) (Upd.head (show ([(AV.int y)]).length = ([(AV.int x.Int_)]).length from rfl))
theorem GValue.sub2 (x : GValue) : Sub (GValue.cs x) 2 ([(AV.u64 x.Bits)]) := Sub.skip (k := 1) (show ([(AV.int x.Kind)]).length = 1 from rfl) (Sub.skip (k := 1) (show ([(AV.int x.Int_)]).length = 1 from rfl) (Sub.head _ _))
theorem GValue.upd2 (x : GValue) (y : UInt64) : Upd (GValue.cs x) 2 ([(AV.u64 y)]) (GValue.cs { x with Bits := y }) := Upd.skip (k := 1) (show ([(AV.int x.Kind)]).length = 1 from rfl) (Upd.skip (k := 1) (show ([(AV.int x.Int_)]).length = 1 from rfl) (Upd.head (show ([(AV.u64 y)]).length = ([(AV.u64 x.Bits)]).length from rfl)))
theorem GValue.sub3 (x : GValue) : Sub (GValue.cs x) 3 ([(AV.txt x.Text)]) := Sub.skip (k := 1) (show ([(AV.int x.Kind)]).length = 1 from rfl) (Sub.skip (k := 1) (show ([(AV.int x.Int_)]).length = 1 from rfl) (Sub.skip (k := 1) (show ([(AV.u64 x.Bits)]).length = 1 from rfl) (Sub.refl _)))
theorem GValue.upd3 (x : GValue) (y : List UInt8) : Upd (GValue.cs x) 3 ([(AV.txt y)]) (GValue.cs { x with Text := y }) := Upd.skip (k := 1) (show ([(AV.int x.Kind)]).length = 1 from rfl) (Upd.skip (k := 1) (show ([(AV.int x.Int_)]).length = 1 from rfl) (Upd.skip (k := 1) (show ([(AV.u64 x.Bits)]).length = 1 from rfl) (Upd.refl (show ([(AV.txt y)]).length = ([(AV.txt x.Text)]).length from rfl))))
theorem GValue.nl (x : GValue) : (GValue.cs x).all noLst1 = true := nlA rfl (nlA rfl (nlA rfl (rfl)))
theorem in_3 : Info Tryd.prog 3 1 8 (.int .i64 0) := by unfold Info; kernel_rfl
theorem one_3 : (.int .i64 0 : Value).cells.all (·.oneCell') = true := by kernel_rfl
theorem zc_3 : ((.int .i64 0 : Value).cells.toList.map zcell) = [(AV.int (0 : Int))] := by rfl
theorem in_9 : Info Tryd.prog 9 1 16 (.string ⟨#[]⟩) := by unfold Info; kernel_rfl
theorem one_9 : (.string ⟨#[]⟩ : Value).cells.all (·.oneCell') = true := by kernel_rfl
theorem zc_9 : ((.string ⟨#[]⟩ : Value).cells.toList.map zcell) = [(AV.txt [])] := by rfl
theorem in_22 : Info Tryd.prog 22 1 8 (.int .u64 0) := by unfold Info; kernel_rfl
theorem one_22 : (.int .u64 0 : Value).cells.all (·.oneCell') = true := by kernel_rfl
theorem zc_22 : ((.int .u64 0 : Value).cells.toList.map zcell) = [(AV.u64 (0 : UInt64))] := by rfl
theorem in_24 : Info Tryd.prog 24 4 40 (.agg #[.int .i64 0, .int .i64 0, .int .u64 0, .string ⟨#[]⟩]) := by unfold Info; kernel_rfl
theorem one_24 : (.agg #[.int .i64 0, .int .i64 0, .int .u64 0, .string ⟨#[]⟩] : Value).cells.all (·.oneCell') = true := by kernel_rfl
theorem zc_24 : ((.agg #[.int .i64 0, .int .i64 0, .int .u64 0, .string ⟨#[]⟩] : Value).cells.toList.map zcell) = GValue.cs GValue.zero := by rfl
theorem pl_24 : placesOf Tryd.prog 24 = some [(0, 1), (1, 1), (2, 1), (3, 1)] := by kernel_rfl
theorem eq_24 : EqT Tryd.prog 24 2 (fun x : GValue => .agg (GValue.cs x)) :=
  eqt_struct [fun a b => a.Kind = b.Kind, fun a b => a.Int_ = b.Int_, fun a b => a.Bits = b.Bits, fun a b => a.Text = b.Text] Tryd.underlying24 (by kernel_rfl) ⟨(FieldEq.more (fe_one (by decide) Tryd.underlying3 rfl (eqt_int Tryd.underlying3) (fun a => GValue.sub0 a)) (by decide : 1 ≤ 1)), (FieldEq.more (fe_one (by decide) Tryd.underlying3 rfl (eqt_int Tryd.underlying3) (fun a => GValue.sub1 a)) (by decide : 1 ≤ 1)), (FieldEq.more (fe_one (by decide) Tryd.underlying22 rfl (eqt_u64 Tryd.underlying22) (fun a => GValue.sub2 a)) (by decide : 1 ≤ 1)), (FieldEq.more (fe_one (by decide) Tryd.underlying9 rfl (eqt_txt Tryd.underlying9) (fun a => GValue.sub3 a)) (by decide : 1 ≤ 1)), trivial⟩ (fun a b => by
    cases a; cases b
    simp)
set_option maxRecDepth 100000 in
theorem ty_3 {d : Nat} {cs : List AV} (h : Typed Tryd.prog d 3 cs) : ∃ x : Int, cs = [(AV.int x)] ∧ okI x := match d, h with
  | 0, h => False.elim h
  | d + 1, h => ty_int Tryd.underlying3 h
set_option maxRecDepth 100000 in
theorem ty_22 {d : Nat} {cs : List AV} (h : Typed Tryd.prog d 22 cs) : ∃ x : UInt64, cs = [(AV.u64 x)] ∧ okA x := match d, h with
  | 0, h => False.elim h
  | d + 1, h => ty_u64 Tryd.underlying22 h
set_option maxRecDepth 100000 in
theorem ty_9 {d : Nat} {cs : List AV} (h : Typed Tryd.prog d 9 cs) : ∃ x : List UInt8, cs = [(AV.txt x)] ∧ okT x := match d, h with
  | 0, h => False.elim h
  | d + 1, h => ty_text Tryd.underlying9 h
def GValue.ok (x : GValue) : Prop := okI x.Kind ∧ okI x.Int_ ∧ okA x.Bits ∧ okT x.Text
set_option maxRecDepth 100000 in
theorem ty_24 {d : Nat} {cs : List AV} (h : Typed Tryd.prog d 24 cs) : ∃ x : GValue, cs = GValue.cs x ∧ GValue.ok x := match d, h with
  | 0, h => False.elim h
  | d + 1, h => by
    obtain ⟨es, rfl, hl, hf⟩ := ty_struct Tryd.underlying24 h
    match es, hl, hf with
    | [e0, e1, e2, e3], _, hf =>
    obtain ⟨x0, h0, q0⟩ := ty_3 (hf 0 _ e0 rfl rfl)
    obtain ⟨x1, h1, q1⟩ := ty_3 (hf 1 _ e1 rfl rfl)
    obtain ⟨x2, h2, q2⟩ := ty_22 (hf 2 _ e2 rfl rfl)
    obtain ⟨x3, h3, q3⟩ := ty_9 (hf 3 _ e3 rfl rfl)
    refine ⟨⟨x0, x1, x2, x3⟩, ?_, ⟨q0, q1, q2, q3⟩⟩
    rw [h0, h1, h2, h3]
    simp only [List.flatten_cons, List.flatten_nil, List.append_nil, GValue.cs]

/-! value.Check -/
noncomputable def g_value_Check (v0 : GValue) : Option (Int) :=
  (if (v0.Kind < (0 : Int)) ∨ (v0.Kind > (4 : Int)) then some (2 : Int) else (if (v0.Text.length : Int) > (40 : Int) then some (1 : Int) else letO (decide ((((v0.Kind ≠ (4 : Int)) ∧ (v0.Text ≠ [])) ∨ ((v0.Kind ≠ (3 : Int)) ∧ (v0.Bits ≠ (0 : UInt64)))) ∨ (((v0.Kind ≠ (2 : Int)) ∧ (v0.Kind ≠ (1 : Int))) ∧ (v0.Int_ ≠ (0 : Int))))) fun t48'1 => (if t48'1 = true then some (3 : Int) else (show Option (Int ⊕ Unit) from (if v0.Kind = (1 : Int) then (if (v0.Int_ ≠ (0 : Int)) ∧ (v0.Int_ ≠ (1 : Int)) then some (.inl (3 : Int)) else some (.inr ())) else (if v0.Kind = (3 : Int) then ((if (fneq v0.Bits v0.Bits) = true then some true else (if (feq v0.Bits (0 : F64)) = true then (g_math_Signbit v0.Bits).bind fun r'4 => some r'4 else some false))).bind fun g'5 => (if g'5 = true then some (.inl (3 : Int)) else some (.inr ())) else (if v0.Kind = (4 : Int) then (g_utf8_ValidString v0.Text).bind fun r'6 => (if (!r'6) = true then some (.inl (3 : Int)) else some (.inr ())) else some (.inr ()))))).bind fun o'8 => match o'8 with | .inl y'7 => some y'7 | .inr j'2 => some (0 : Int))))
set_option maxHeartbeats 4000000 in
set_option maxRecDepth 100000 in
theorem g_value_Check_ac {v0 : GValue} {r : Int} (H : g_value_Check v0 = some r) : ACp Tryd.prog 14 [(.agg (GValue.cs v0))] (AV.int r) := by
  refine ACp_of (AC2_of_body (vs := [.i r]) Tryd.func14 rfl rfl (Nat.le_of_ble_eq_true rfl) rfl ?_) (fun _ => .same _)
  unfold g_value_Check at H
  refine as2 [(0, .g (GValue.cs v0))] [] rfl rfl rfl ?_
  refine sg [0, 1] rfl ?_
  refine r_op rfl rfl (MakeD.opD (n_box 1 rfl rfl) rfl rfl rfl rfl) ?_
  refine rp rfl rfl (p_asg rfl rfl) ?_
  refine rz [(1, .q 1 (0))] [(1, .pure (GValue.cs v0))] rfl rfl rfl ?_
  refine AW2_seq ?_
  refine AW2_seq ?_
  refine AW2_mid (⟨[(1, .q 1 (0)), (11, .b (decide ((v0.Kind < (0 : Int)) ∨ (v0.Kind > (4 : Int)))))], [(1, .pure (GValue.cs v0))], 83⟩ : TS) ?_ ?_
  · refine AW2_reg [0, 1, 2, 3, 4, 5, 6, 7] rfl ?_
    refine rp rfl rfl (u_fa rfl rfl Tryd.underlying24 rfl in_3 (Nat.succ_ne_zero _) rfl rfl (ne_of_lt (n := 0) (Nat.lt_of_lt_of_eq (by decide) (Eq.symm (GValue.len v0))))) ?_
    refine rp rfl rfl (u_ld rfl rfl Tryd.underlying3 rfl rfl ((Sub.refl _).trans (GValue.sub0 v0))) ?_
    refine rp rfl rfl (p_bin rfl rfl rfl rfl) ?_
    refine rp rfl rfl (p_move rfl rfl) ?_
    refine (Classical.em (v0.Kind < (0 : Int))).elim (fun h1 => ?_) (fun h1 => ?_)
    · refine r_off rfl rfl rfl rfl (decide_eq_true (p := v0.Kind < (0 : Int)) h1) rfl rfl ?_
      refine r_off rfl rfl rfl rfl (decide_eq_true (p := v0.Kind < (0 : Int)) h1) rfl rfl ?_
      refine r_off rfl rfl rfl rfl (decide_eq_true (p := v0.Kind < (0 : Int)) h1) rfl rfl ?_
      refine rp rfl rfl (p_pkt rfl rfl (decide_eq_true (p := v0.Kind < (0 : Int)) h1) (tb (decide_eq_true (p := (v0.Kind < (0 : Int)) ∨ (v0.Kind > (4 : Int))) (Or.inl h1)).symm)) ?_
      refine rs [(1, .q 1 (0)), (11, .b (decide ((v0.Kind < (0 : Int)) ∨ (v0.Kind > (4 : Int)))))] [(1, .pure (GValue.cs v0))] rfl rfl rfl ?_
      exact RunW_nil rfl
    · refine r_on rfl rfl rfl rfl (decide_eq_false (p := v0.Kind < (0 : Int)) h1) rfl (PureD.opD (u_fa rfl rfl Tryd.underlying24 rfl in_3 (Nat.succ_ne_zero _) rfl rfl (ne_of_lt (n := 0) (Nat.lt_of_lt_of_eq (by decide) (Eq.symm (GValue.len v0)))))) ?_
      refine r_on rfl rfl rfl rfl (decide_eq_false (p := v0.Kind < (0 : Int)) h1) rfl (PureD.opD (u_ld rfl rfl Tryd.underlying3 rfl rfl ((Sub.refl _).trans (GValue.sub0 v0)))) ?_
      refine r_on rfl rfl rfl rfl (decide_eq_false (p := v0.Kind < (0 : Int)) h1) rfl (PureD.opD (p_bin rfl rfl rfl rfl)) ?_
      refine rp rfl rfl (p_pkf rfl rfl (decide_eq_false (p := v0.Kind < (0 : Int)) h1) (tb ((or_l (p := v0.Kind < (0 : Int)) (q := v0.Kind > (4 : Int)) h1)))) ?_
      refine rs [(1, .q 1 (0)), (11, .b (decide ((v0.Kind < (0 : Int)) ∨ (v0.Kind > (4 : Int)))))] [(1, .pure (GValue.cs v0))] rfl rfl rfl ?_
      exact RunW_nil rfl
  · refine AW2_if (p := (v0.Kind < (0 : Int)) ∨ (v0.Kind > (4 : Int))) rfl (fun h2 => ?_) (fun h2 => ?_)
    · replace H := ite_then h2 H
      refine sg [0] rfl ?_
      refine rp rfl rfl (p_asg rfl rfl) ?_
      refine rz [(2, .i (2 : Int))] [] rfl rfl rfl ?_
      refine AW2_ret ?_
      have hz := some_elim H
      subst hz
      exact ⟨⟨res_tmp (.same _), trivial⟩, trivial⟩
    · replace H := ite_else h2 H
      refine as2 [(1, .q 1 (0))] [(1, .pure (GValue.cs v0))] rfl rfl rfl ?_
      refine AW2_skip ?_
      refine AW2_seq ?_
      refine sg [0, 1, 2, 3] rfl ?_
      refine rp rfl rfl (u_fa rfl rfl Tryd.underlying24 rfl in_9 (Nat.succ_ne_zero _) rfl rfl (ne_of_lt (n := 0) (Nat.lt_of_lt_of_eq (by decide) (Eq.symm (GValue.len v0))))) ?_
      refine rp rfl rfl (u_ld rfl rfl Tryd.underlying9 rfl rfl ((Sub.refl _).trans (GValue.sub3 v0))) ?_
      refine rp rfl rfl (p_lent rfl Tryd.underlying9 rfl) ?_
      refine rp rfl rfl (p_bin rfl rfl rfl rfl) ?_
      refine rz [(1, .q 1 (0)), (15, .b (decide ((v0.Text.length : Int) > (40 : Int))))] [(1, .pure (GValue.cs v0))] rfl rfl rfl ?_
      refine AW2_if (p := (v0.Text.length : Int) > (40 : Int)) rfl (fun h3 => ?_) (fun h3 => ?_)
      · replace H := ite_then h3 H
        refine sg [0] rfl ?_
        refine rp rfl rfl (p_asg rfl rfl) ?_
        refine rz [(2, .i (1 : Int))] [] rfl rfl rfl ?_
        refine AW2_ret ?_
        have hz := some_elim H
        subst hz
        exact ⟨⟨res_tmp (.same _), trivial⟩, trivial⟩
      · replace H := ite_else h3 H
        refine as2 [(1, .q 1 (0))] [(1, .pure (GValue.cs v0))] rfl rfl rfl ?_
        refine AW2_skip ?_
        refine AW2_seq ?_
        refine AW2_seq ?_
        refine AW2_mid (⟨[(1, .q 1 (0)), (48, .b (decide ((((v0.Kind ≠ (4 : Int)) ∧ (v0.Text ≠ [])) ∨ ((v0.Kind ≠ (3 : Int)) ∧ (v0.Bits ≠ (0 : UInt64)))) ∨ (((v0.Kind ≠ (2 : Int)) ∧ (v0.Kind ≠ (1 : Int))) ∧ (v0.Int_ ≠ (0 : Int))))))], [(1, .pure (GValue.cs v0))], 83⟩ : TS) ?_ ?_
        · refine AW2_reg [0, 1, 2, 3, 4, 5, 6, 7, 8, 9, 10, 11, 12, 13, 14, 15, 16, 17, 18, 19, 20, 21, 22, 23, 24, 25, 26, 27, 28, 29, 30, 31, 32] rfl ?_
          refine rp rfl rfl (u_fa rfl rfl Tryd.underlying24 rfl in_3 (Nat.succ_ne_zero _) rfl rfl (ne_of_lt (n := 0) (Nat.lt_of_lt_of_eq (by decide) (Eq.symm (GValue.len v0))))) ?_
          refine rp rfl rfl (u_ld rfl rfl Tryd.underlying3 rfl rfl ((Sub.refl _).trans (GValue.sub0 v0))) ?_
          refine rp rfl rfl (p_ine rfl rfl rfl) ?_
          refine rp rfl rfl (p_move rfl rfl) ?_
          refine (Classical.em (v0.Kind ≠ (4 : Int))).elim (fun h4 => ?_) (fun h4 => ?_)
          · refine r_on rfl rfl rfl rfl (decide_eq_true (p := v0.Kind ≠ (4 : Int)) h4) rfl (PureD.opD (u_fa rfl rfl Tryd.underlying24 rfl in_9 (Nat.succ_ne_zero _) rfl rfl (ne_of_lt (n := 0) (Nat.lt_of_lt_of_eq (by decide) (Eq.symm (GValue.len v0)))))) ?_
            refine r_on rfl rfl rfl rfl (decide_eq_true (p := v0.Kind ≠ (4 : Int)) h4) rfl (PureD.opD (u_ld rfl rfl Tryd.underlying9 rfl rfl ((Sub.refl _).trans (GValue.sub3 v0)))) ?_
            refine r_on rfl rfl rfl rfl (decide_eq_true (p := v0.Kind ≠ (4 : Int)) h4) rfl (PureD.opD (p_sne rfl rfl rfl)) ?_
            refine rp rfl rfl (p_pkt rfl rfl (decide_eq_true (p := v0.Kind ≠ (4 : Int)) h4) (tb ((and_l (p := v0.Kind ≠ (4 : Int)) (q := v0.Text ≠ []) h4)))) ?_
            refine rp rfl rfl (p_move rfl rfl) ?_
            refine (Classical.em (v0.Text ≠ [])).elim (fun h5 => ?_) (fun h5 => ?_)
            · refine r_off rfl rfl rfl rfl (decide_eq_true (p := (v0.Kind ≠ (4 : Int)) ∧ (v0.Text ≠ [])) ⟨h4, h5⟩) rfl rfl ?_
              refine r_off rfl rfl rfl rfl (decide_eq_true (p := (v0.Kind ≠ (4 : Int)) ∧ (v0.Text ≠ [])) ⟨h4, h5⟩) rfl rfl ?_
              refine r_off rfl rfl rfl rfl (decide_eq_true (p := (v0.Kind ≠ (4 : Int)) ∧ (v0.Text ≠ [])) ⟨h4, h5⟩) rfl rfl ?_
              refine r_off rfl rfl rfl rfl (decide_eq_true (p := (v0.Kind ≠ (4 : Int)) ∧ (v0.Text ≠ [])) ⟨h4, h5⟩) rfl rfl ?_
              refine r_off2 rfl rfl rfl rfl rfl rfl ?_
              refine r_off2 rfl rfl rfl rfl rfl rfl ?_
              refine r_off2 rfl rfl rfl rfl rfl rfl ?_
              refine r_off rfl rfl rfl rfl (decide_eq_true (p := (v0.Kind ≠ (4 : Int)) ∧ (v0.Text ≠ [])) ⟨h4, h5⟩) rfl rfl ?_
              refine rp rfl rfl (p_pkt rfl rfl (decide_eq_true (p := (v0.Kind ≠ (4 : Int)) ∧ (v0.Text ≠ [])) ⟨h4, h5⟩) (tb (decide_eq_true (p := ((v0.Kind ≠ (4 : Int)) ∧ (v0.Text ≠ [])) ∨ ((v0.Kind ≠ (3 : Int)) ∧ (v0.Bits ≠ (0 : UInt64)))) (Or.inl ⟨h4, h5⟩)).symm)) ?_
              refine rp rfl rfl (p_move rfl rfl) ?_
              refine r_off rfl rfl rfl rfl (decide_eq_true (p := ((v0.Kind ≠ (4 : Int)) ∧ (v0.Text ≠ [])) ∨ ((v0.Kind ≠ (3 : Int)) ∧ (v0.Bits ≠ (0 : UInt64)))) (Or.inl ⟨h4, h5⟩)) rfl rfl ?_
              refine r_off rfl rfl rfl rfl (decide_eq_true (p := ((v0.Kind ≠ (4 : Int)) ∧ (v0.Text ≠ [])) ∨ ((v0.Kind ≠ (3 : Int)) ∧ (v0.Bits ≠ (0 : UInt64)))) (Or.inl ⟨h4, h5⟩)) rfl rfl ?_
              refine r_off rfl rfl rfl rfl (decide_eq_true (p := ((v0.Kind ≠ (4 : Int)) ∧ (v0.Text ≠ [])) ∨ ((v0.Kind ≠ (3 : Int)) ∧ (v0.Bits ≠ (0 : UInt64)))) (Or.inl ⟨h4, h5⟩)) rfl rfl ?_
              refine r_off rfl rfl rfl rfl (decide_eq_true (p := ((v0.Kind ≠ (4 : Int)) ∧ (v0.Text ≠ [])) ∨ ((v0.Kind ≠ (3 : Int)) ∧ (v0.Bits ≠ (0 : UInt64)))) (Or.inl ⟨h4, h5⟩)) rfl rfl ?_
              refine r_off2 rfl rfl rfl rfl rfl rfl ?_
              refine r_off2 rfl rfl rfl rfl rfl rfl ?_
              refine r_off2 rfl rfl rfl rfl rfl rfl ?_
              refine r_off rfl rfl rfl rfl (decide_eq_true (p := ((v0.Kind ≠ (4 : Int)) ∧ (v0.Text ≠ [])) ∨ ((v0.Kind ≠ (3 : Int)) ∧ (v0.Bits ≠ (0 : UInt64)))) (Or.inl ⟨h4, h5⟩)) rfl rfl ?_
              refine r_off rfl rfl rfl rfl (decide_eq_true (p := ((v0.Kind ≠ (4 : Int)) ∧ (v0.Text ≠ [])) ∨ ((v0.Kind ≠ (3 : Int)) ∧ (v0.Bits ≠ (0 : UInt64)))) (Or.inl ⟨h4, h5⟩)) rfl rfl ?_
              refine r_off2 rfl rfl rfl rfl rfl rfl ?_
              refine r_off2 rfl rfl rfl rfl rfl rfl ?_
              refine r_off2 rfl rfl rfl rfl rfl rfl ?_
              refine r_off rfl rfl rfl rfl (decide_eq_true (p := ((v0.Kind ≠ (4 : Int)) ∧ (v0.Text ≠ [])) ∨ ((v0.Kind ≠ (3 : Int)) ∧ (v0.Bits ≠ (0 : UInt64)))) (Or.inl ⟨h4, h5⟩)) rfl rfl ?_
              refine rp rfl rfl (p_pkt rfl rfl (decide_eq_true (p := ((v0.Kind ≠ (4 : Int)) ∧ (v0.Text ≠ [])) ∨ ((v0.Kind ≠ (3 : Int)) ∧ (v0.Bits ≠ (0 : UInt64)))) (Or.inl ⟨h4, h5⟩)) (tb (decide_eq_true (p := (((v0.Kind ≠ (4 : Int)) ∧ (v0.Text ≠ [])) ∨ ((v0.Kind ≠ (3 : Int)) ∧ (v0.Bits ≠ (0 : UInt64)))) ∨ (((v0.Kind ≠ (2 : Int)) ∧ (v0.Kind ≠ (1 : Int))) ∧ (v0.Int_ ≠ (0 : Int)))) (Or.inl (Or.inl ⟨h4, h5⟩))).symm)) ?_
              refine rs [(1, .q 1 (0)), (48, .b (decide ((((v0.Kind ≠ (4 : Int)) ∧ (v0.Text ≠ [])) ∨ ((v0.Kind ≠ (3 : Int)) ∧ (v0.Bits ≠ (0 : UInt64)))) ∨ (((v0.Kind ≠ (2 : Int)) ∧ (v0.Kind ≠ (1 : Int))) ∧ (v0.Int_ ≠ (0 : Int))))))] [(1, .pure (GValue.cs v0))] rfl rfl rfl ?_
              exact RunW_nil rfl
            · refine r_on rfl rfl rfl rfl (decide_eq_false (p := (v0.Kind ≠ (4 : Int)) ∧ (v0.Text ≠ [])) (fun h => h5 h.2)) rfl (PureD.opD (u_fa rfl rfl Tryd.underlying24 rfl in_3 (Nat.succ_ne_zero _) rfl rfl (ne_of_lt (n := 0) (Nat.lt_of_lt_of_eq (by decide) (Eq.symm (GValue.len v0)))))) ?_
              refine r_on rfl rfl rfl rfl (decide_eq_false (p := (v0.Kind ≠ (4 : Int)) ∧ (v0.Text ≠ [])) (fun h => h5 h.2)) rfl (PureD.opD (u_ld rfl rfl Tryd.underlying3 rfl rfl ((Sub.refl _).trans (GValue.sub0 v0)))) ?_
              refine r_on rfl rfl rfl rfl (decide_eq_false (p := (v0.Kind ≠ (4 : Int)) ∧ (v0.Text ≠ [])) (fun h => h5 h.2)) rfl (PureD.opD (p_ine rfl rfl rfl)) ?_
              refine r_on rfl rfl rfl rfl (decide_eq_false (p := (v0.Kind ≠ (4 : Int)) ∧ (v0.Text ≠ [])) (fun h => h5 h.2)) rfl (PureD.opD (p_move rfl rfl)) ?_
              refine (Classical.em (v0.Kind ≠ (3 : Int))).elim (fun h6 => ?_) (fun h6 => ?_)
              · refine r_on rfl rfl rfl rfl (decide_eq_true (p := v0.Kind ≠ (3 : Int)) h6) rfl (PureD.opD (u_fa rfl rfl Tryd.underlying24 rfl in_22 (Nat.succ_ne_zero _) rfl rfl (ne_of_lt (n := 0) (Nat.lt_of_lt_of_eq (by decide) (Eq.symm (GValue.len v0)))))) ?_
                refine r_on rfl rfl rfl rfl (decide_eq_true (p := v0.Kind ≠ (3 : Int)) h6) rfl (PureD.opD (u_ld rfl rfl Tryd.underlying22 rfl rfl ((Sub.refl _).trans (GValue.sub2 v0)))) ?_
                refine r_on rfl rfl rfl rfl (decide_eq_true (p := v0.Kind ≠ (3 : Int)) h6) rfl (PureD.opD (p_u64ne (a := v0.Bits) (b := (0 : UInt64)) rfl rfl rfl)) ?_
                refine r_on rfl rfl rfl rfl (decide_eq_false (p := (v0.Kind ≠ (4 : Int)) ∧ (v0.Text ≠ [])) (fun h => h5 h.2)) rfl (PureD.opD (p_pkt rfl rfl (decide_eq_true (p := v0.Kind ≠ (3 : Int)) h6) (tb ((and_l (p := v0.Kind ≠ (3 : Int)) (q := v0.Bits ≠ (0 : UInt64)) h6))))) ?_
                refine rp rfl rfl (p_pkf rfl rfl (decide_eq_false (p := (v0.Kind ≠ (4 : Int)) ∧ (v0.Text ≠ [])) (fun h => h5 h.2)) (tb ((or_l (p := (v0.Kind ≠ (4 : Int)) ∧ (v0.Text ≠ [])) (q := (v0.Kind ≠ (3 : Int)) ∧ (v0.Bits ≠ (0 : UInt64))) (fun h => h5 h.2))))) ?_
                refine rp rfl rfl (p_move rfl rfl) ?_
                refine (Classical.em (v0.Bits ≠ (0 : UInt64))).elim (fun h7 => ?_) (fun h7 => ?_)
                · refine r_off rfl rfl rfl rfl (decide_eq_true (p := ((v0.Kind ≠ (4 : Int)) ∧ (v0.Text ≠ [])) ∨ ((v0.Kind ≠ (3 : Int)) ∧ (v0.Bits ≠ (0 : UInt64)))) (Or.inr ⟨h6, h7⟩)) rfl rfl ?_
                  refine r_off rfl rfl rfl rfl (decide_eq_true (p := ((v0.Kind ≠ (4 : Int)) ∧ (v0.Text ≠ [])) ∨ ((v0.Kind ≠ (3 : Int)) ∧ (v0.Bits ≠ (0 : UInt64)))) (Or.inr ⟨h6, h7⟩)) rfl rfl ?_
                  refine r_off rfl rfl rfl rfl (decide_eq_true (p := ((v0.Kind ≠ (4 : Int)) ∧ (v0.Text ≠ [])) ∨ ((v0.Kind ≠ (3 : Int)) ∧ (v0.Bits ≠ (0 : UInt64)))) (Or.inr ⟨h6, h7⟩)) rfl rfl ?_
                  refine r_off rfl rfl rfl rfl (decide_eq_true (p := ((v0.Kind ≠ (4 : Int)) ∧ (v0.Text ≠ [])) ∨ ((v0.Kind ≠ (3 : Int)) ∧ (v0.Bits ≠ (0 : UInt64)))) (Or.inr ⟨h6, h7⟩)) rfl rfl ?_
                  refine r_off2 rfl rfl rfl rfl rfl rfl ?_
                  refine r_off2 rfl rfl rfl rfl rfl rfl ?_
                  refine r_off2 rfl rfl rfl rfl rfl rfl ?_
                  refine r_off rfl rfl rfl rfl (decide_eq_true (p := ((v0.Kind ≠ (4 : Int)) ∧ (v0.Text ≠ [])) ∨ ((v0.Kind ≠ (3 : Int)) ∧ (v0.Bits ≠ (0 : UInt64)))) (Or.inr ⟨h6, h7⟩)) rfl rfl ?_
                  refine r_off rfl rfl rfl rfl (decide_eq_true (p := ((v0.Kind ≠ (4 : Int)) ∧ (v0.Text ≠ [])) ∨ ((v0.Kind ≠ (3 : Int)) ∧ (v0.Bits ≠ (0 : UInt64)))) (Or.inr ⟨h6, h7⟩)) rfl rfl ?_
                  refine r_off2 rfl rfl rfl rfl rfl rfl ?_
                  refine r_off2 rfl rfl rfl rfl rfl rfl ?_
                  refine r_off2 rfl rfl rfl rfl rfl rfl ?_
                  refine r_off rfl rfl rfl rfl (decide_eq_true (p := ((v0.Kind ≠ (4 : Int)) ∧ (v0.Text ≠ [])) ∨ ((v0.Kind ≠ (3 : Int)) ∧ (v0.Bits ≠ (0 : UInt64)))) (Or.inr ⟨h6, h7⟩)) rfl rfl ?_
                  refine rp rfl rfl (p_pkt rfl rfl (decide_eq_true (p := ((v0.Kind ≠ (4 : Int)) ∧ (v0.Text ≠ [])) ∨ ((v0.Kind ≠ (3 : Int)) ∧ (v0.Bits ≠ (0 : UInt64)))) (Or.inr ⟨h6, h7⟩)) (tb (decide_eq_true (p := (((v0.Kind ≠ (4 : Int)) ∧ (v0.Text ≠ [])) ∨ ((v0.Kind ≠ (3 : Int)) ∧ (v0.Bits ≠ (0 : UInt64)))) ∨ (((v0.Kind ≠ (2 : Int)) ∧ (v0.Kind ≠ (1 : Int))) ∧ (v0.Int_ ≠ (0 : Int)))) (Or.inl (Or.inr ⟨h6, h7⟩))).symm)) ?_
                  refine rs [(1, .q 1 (0)), (48, .b (decide ((((v0.Kind ≠ (4 : Int)) ∧ (v0.Text ≠ [])) ∨ ((v0.Kind ≠ (3 : Int)) ∧ (v0.Bits ≠ (0 : UInt64)))) ∨ (((v0.Kind ≠ (2 : Int)) ∧ (v0.Kind ≠ (1 : Int))) ∧ (v0.Int_ ≠ (0 : Int))))))] [(1, .pure (GValue.cs v0))] rfl rfl rfl ?_
                  exact RunW_nil rfl
                · refine r_on rfl rfl rfl rfl (decide_eq_false (p := ((v0.Kind ≠ (4 : Int)) ∧ (v0.Text ≠ [])) ∨ ((v0.Kind ≠ (3 : Int)) ∧ (v0.Bits ≠ (0 : UInt64)))) (not_or.2 ⟨(fun h => h5 h.2), (fun h => h7 h.2)⟩)) rfl (PureD.opD (u_fa rfl rfl Tryd.underlying24 rfl in_3 (Nat.succ_ne_zero _) rfl rfl (ne_of_lt (n := 0) (Nat.lt_of_lt_of_eq (by decide) (Eq.symm (GValue.len v0)))))) ?_
                  refine r_on rfl rfl rfl rfl (decide_eq_false (p := ((v0.Kind ≠ (4 : Int)) ∧ (v0.Text ≠ [])) ∨ ((v0.Kind ≠ (3 : Int)) ∧ (v0.Bits ≠ (0 : UInt64)))) (not_or.2 ⟨(fun h => h5 h.2), (fun h => h7 h.2)⟩)) rfl (PureD.opD (u_ld rfl rfl Tryd.underlying3 rfl rfl ((Sub.refl _).trans (GValue.sub0 v0)))) ?_
                  refine r_on rfl rfl rfl rfl (decide_eq_false (p := ((v0.Kind ≠ (4 : Int)) ∧ (v0.Text ≠ [])) ∨ ((v0.Kind ≠ (3 : Int)) ∧ (v0.Bits ≠ (0 : UInt64)))) (not_or.2 ⟨(fun h => h5 h.2), (fun h => h7 h.2)⟩)) rfl (PureD.opD (p_ine rfl rfl rfl)) ?_
                  refine r_on rfl rfl rfl rfl (decide_eq_false (p := ((v0.Kind ≠ (4 : Int)) ∧ (v0.Text ≠ [])) ∨ ((v0.Kind ≠ (3 : Int)) ∧ (v0.Bits ≠ (0 : UInt64)))) (not_or.2 ⟨(fun h => h5 h.2), (fun h => h7 h.2)⟩)) rfl (PureD.opD (p_move rfl rfl)) ?_
                  refine (Classical.em (v0.Kind ≠ (2 : Int))).elim (fun h8 => ?_) (fun h8 => ?_)
                  · refine r_on rfl rfl rfl rfl (decide_eq_true (p := v0.Kind ≠ (2 : Int)) h8) rfl (PureD.opD (u_fa rfl rfl Tryd.underlying24 rfl in_3 (Nat.succ_ne_zero _) rfl rfl (ne_of_lt (n := 0) (Nat.lt_of_lt_of_eq (by decide) (Eq.symm (GValue.len v0)))))) ?_
                    refine r_on rfl rfl rfl rfl (decide_eq_true (p := v0.Kind ≠ (2 : Int)) h8) rfl (PureD.opD (u_ld rfl rfl Tryd.underlying3 rfl rfl ((Sub.refl _).trans (GValue.sub0 v0)))) ?_
                    refine r_on rfl rfl rfl rfl (decide_eq_true (p := v0.Kind ≠ (2 : Int)) h8) rfl (PureD.opD (p_ine rfl rfl rfl)) ?_
                    refine r_on rfl rfl rfl rfl (decide_eq_false (p := ((v0.Kind ≠ (4 : Int)) ∧ (v0.Text ≠ [])) ∨ ((v0.Kind ≠ (3 : Int)) ∧ (v0.Bits ≠ (0 : UInt64)))) (not_or.2 ⟨(fun h => h5 h.2), (fun h => h7 h.2)⟩)) rfl (PureD.opD (p_pkt rfl rfl (decide_eq_true (p := v0.Kind ≠ (2 : Int)) h8) (tb ((and_l (p := v0.Kind ≠ (2 : Int)) (q := v0.Kind ≠ (1 : Int)) h8))))) ?_
                    refine r_on rfl rfl rfl rfl (decide_eq_false (p := ((v0.Kind ≠ (4 : Int)) ∧ (v0.Text ≠ [])) ∨ ((v0.Kind ≠ (3 : Int)) ∧ (v0.Bits ≠ (0 : UInt64)))) (not_or.2 ⟨(fun h => h5 h.2), (fun h => h7 h.2)⟩)) rfl (PureD.opD (p_move rfl rfl)) ?_
                    refine (Classical.em (v0.Kind ≠ (1 : Int))).elim (fun h9 => ?_) (fun h9 => ?_)
                    · refine r_on rfl rfl rfl rfl (decide_eq_true (p := (v0.Kind ≠ (2 : Int)) ∧ (v0.Kind ≠ (1 : Int))) ⟨h8, h9⟩) rfl (PureD.opD (u_fa rfl rfl Tryd.underlying24 rfl in_3 (Nat.succ_ne_zero _) rfl rfl (ne_of_lt (n := 0) (Nat.lt_of_lt_of_eq (by decide) (Eq.symm (GValue.len v0)))))) ?_
                      refine r_on rfl rfl rfl rfl (decide_eq_true (p := (v0.Kind ≠ (2 : Int)) ∧ (v0.Kind ≠ (1 : Int))) ⟨h8, h9⟩) rfl (PureD.opD (u_ld rfl rfl Tryd.underlying3 rfl rfl ((Sub.refl _).trans (GValue.sub1 v0)))) ?_
                      refine r_on rfl rfl rfl rfl (decide_eq_true (p := (v0.Kind ≠ (2 : Int)) ∧ (v0.Kind ≠ (1 : Int))) ⟨h8, h9⟩) rfl (PureD.opD (p_ine rfl rfl rfl)) ?_
                      refine r_on rfl rfl rfl rfl (decide_eq_false (p := ((v0.Kind ≠ (4 : Int)) ∧ (v0.Text ≠ [])) ∨ ((v0.Kind ≠ (3 : Int)) ∧ (v0.Bits ≠ (0 : UInt64)))) (not_or.2 ⟨(fun h => h5 h.2), (fun h => h7 h.2)⟩)) rfl (PureD.opD (p_pkt rfl rfl (decide_eq_true (p := (v0.Kind ≠ (2 : Int)) ∧ (v0.Kind ≠ (1 : Int))) ⟨h8, h9⟩) (tb ((and_l (p := (v0.Kind ≠ (2 : Int)) ∧ (v0.Kind ≠ (1 : Int))) (q := v0.Int_ ≠ (0 : Int)) ⟨h8, h9⟩))))) ?_
                      refine rp rfl rfl (p_pkf rfl rfl (decide_eq_false (p := ((v0.Kind ≠ (4 : Int)) ∧ (v0.Text ≠ [])) ∨ ((v0.Kind ≠ (3 : Int)) ∧ (v0.Bits ≠ (0 : UInt64)))) (not_or.2 ⟨(fun h => h5 h.2), (fun h => h7 h.2)⟩)) (tb ((or_l (p := ((v0.Kind ≠ (4 : Int)) ∧ (v0.Text ≠ [])) ∨ ((v0.Kind ≠ (3 : Int)) ∧ (v0.Bits ≠ (0 : UInt64)))) (q := ((v0.Kind ≠ (2 : Int)) ∧ (v0.Kind ≠ (1 : Int))) ∧ (v0.Int_ ≠ (0 : Int))) (not_or.2 ⟨(fun h => h5 h.2), (fun h => h7 h.2)⟩))))) ?_
                      refine rs [(1, .q 1 (0)), (48, .b (decide ((((v0.Kind ≠ (4 : Int)) ∧ (v0.Text ≠ [])) ∨ ((v0.Kind ≠ (3 : Int)) ∧ (v0.Bits ≠ (0 : UInt64)))) ∨ (((v0.Kind ≠ (2 : Int)) ∧ (v0.Kind ≠ (1 : Int))) ∧ (v0.Int_ ≠ (0 : Int))))))] [(1, .pure (GValue.cs v0))] rfl rfl rfl ?_
                      exact RunW_nil rfl
                    · refine r_off rfl rfl rfl rfl (decide_eq_false (p := (v0.Kind ≠ (2 : Int)) ∧ (v0.Kind ≠ (1 : Int))) (fun h => h9 h.2)) rfl rfl ?_
                      refine r_off rfl rfl rfl rfl (decide_eq_false (p := (v0.Kind ≠ (2 : Int)) ∧ (v0.Kind ≠ (1 : Int))) (fun h => h9 h.2)) rfl rfl ?_
                      refine r_off rfl rfl rfl rfl (decide_eq_false (p := (v0.Kind ≠ (2 : Int)) ∧ (v0.Kind ≠ (1 : Int))) (fun h => h9 h.2)) rfl rfl ?_
                      refine r_on rfl rfl rfl rfl (decide_eq_false (p := ((v0.Kind ≠ (4 : Int)) ∧ (v0.Text ≠ [])) ∨ ((v0.Kind ≠ (3 : Int)) ∧ (v0.Bits ≠ (0 : UInt64)))) (not_or.2 ⟨(fun h => h5 h.2), (fun h => h7 h.2)⟩)) rfl (PureD.opD (p_pkf rfl rfl (decide_eq_false (p := (v0.Kind ≠ (2 : Int)) ∧ (v0.Kind ≠ (1 : Int))) (fun h => h9 h.2)) (tb (decide_eq_false (p := ((v0.Kind ≠ (2 : Int)) ∧ (v0.Kind ≠ (1 : Int))) ∧ (v0.Int_ ≠ (0 : Int))) (fun x => (fun h => h9 h.2) x.1)).symm))) ?_
                      refine rp rfl rfl (p_pkf rfl rfl (decide_eq_false (p := ((v0.Kind ≠ (4 : Int)) ∧ (v0.Text ≠ [])) ∨ ((v0.Kind ≠ (3 : Int)) ∧ (v0.Bits ≠ (0 : UInt64)))) (not_or.2 ⟨(fun h => h5 h.2), (fun h => h7 h.2)⟩)) (tb ((or_l (p := ((v0.Kind ≠ (4 : Int)) ∧ (v0.Text ≠ [])) ∨ ((v0.Kind ≠ (3 : Int)) ∧ (v0.Bits ≠ (0 : UInt64)))) (q := ((v0.Kind ≠ (2 : Int)) ∧ (v0.Kind ≠ (1 : Int))) ∧ (v0.Int_ ≠ (0 : Int))) (not_or.2 ⟨(fun h => h5 h.2), (fun h => h7 h.2)⟩))))) ?_
                      refine rs [(1, .q 1 (0)), (48, .b (decide ((((v0.Kind ≠ (4 : Int)) ∧ (v0.Text ≠ [])) ∨ ((v0.Kind ≠ (3 : Int)) ∧ (v0.Bits ≠ (0 : UInt64)))) ∨ (((v0.Kind ≠ (2 : Int)) ∧ (v0.Kind ≠ (1 : Int))) ∧ (v0.Int_ ≠ (0 : Int))))))] [(1, .pure (GValue.cs v0))] rfl rfl rfl ?_
                      exact RunW_nil rfl
                  · refine r_off rfl rfl rfl rfl (decide_eq_false (p := v0.Kind ≠ (2 : Int)) h8) rfl rfl ?_
                    refine r_off rfl rfl rfl rfl (decide_eq_false (p := v0.Kind ≠ (2 : Int)) h8) rfl rfl ?_
                    refine r_off rfl rfl rfl rfl (decide_eq_false (p := v0.Kind ≠ (2 : Int)) h8) rfl rfl ?_
                    refine r_on rfl rfl rfl rfl (decide_eq_false (p := ((v0.Kind ≠ (4 : Int)) ∧ (v0.Text ≠ [])) ∨ ((v0.Kind ≠ (3 : Int)) ∧ (v0.Bits ≠ (0 : UInt64)))) (not_or.2 ⟨(fun h => h5 h.2), (fun h => h7 h.2)⟩)) rfl (PureD.opD (p_pkf rfl rfl (decide_eq_false (p := v0.Kind ≠ (2 : Int)) h8) (tb (decide_eq_false (p := (v0.Kind ≠ (2 : Int)) ∧ (v0.Kind ≠ (1 : Int))) (fun x => h8 x.1)).symm))) ?_
                    refine r_on rfl rfl rfl rfl (decide_eq_false (p := ((v0.Kind ≠ (4 : Int)) ∧ (v0.Text ≠ [])) ∨ ((v0.Kind ≠ (3 : Int)) ∧ (v0.Bits ≠ (0 : UInt64)))) (not_or.2 ⟨(fun h => h5 h.2), (fun h => h7 h.2)⟩)) rfl (PureD.opD (p_move rfl rfl)) ?_
                    refine r_off rfl rfl rfl rfl (decide_eq_false (p := (v0.Kind ≠ (2 : Int)) ∧ (v0.Kind ≠ (1 : Int))) (fun h => h8 h.1)) rfl rfl ?_
                    refine r_off rfl rfl rfl rfl (decide_eq_false (p := (v0.Kind ≠ (2 : Int)) ∧ (v0.Kind ≠ (1 : Int))) (fun h => h8 h.1)) rfl rfl ?_
                    refine r_off rfl rfl rfl rfl (decide_eq_false (p := (v0.Kind ≠ (2 : Int)) ∧ (v0.Kind ≠ (1 : Int))) (fun h => h8 h.1)) rfl rfl ?_
                    refine r_on rfl rfl rfl rfl (decide_eq_false (p := ((v0.Kind ≠ (4 : Int)) ∧ (v0.Text ≠ [])) ∨ ((v0.Kind ≠ (3 : Int)) ∧ (v0.Bits ≠ (0 : UInt64)))) (not_or.2 ⟨(fun h => h5 h.2), (fun h => h7 h.2)⟩)) rfl (PureD.opD (p_pkf rfl rfl (decide_eq_false (p := (v0.Kind ≠ (2 : Int)) ∧ (v0.Kind ≠ (1 : Int))) (fun h => h8 h.1)) (tb (decide_eq_false (p := ((v0.Kind ≠ (2 : Int)) ∧ (v0.Kind ≠ (1 : Int))) ∧ (v0.Int_ ≠ (0 : Int))) (fun x => (fun h => h8 h.1) x.1)).symm))) ?_
                    refine rp rfl rfl (p_pkf rfl rfl (decide_eq_false (p := ((v0.Kind ≠ (4 : Int)) ∧ (v0.Text ≠ [])) ∨ ((v0.Kind ≠ (3 : Int)) ∧ (v0.Bits ≠ (0 : UInt64)))) (not_or.2 ⟨(fun h => h5 h.2), (fun h => h7 h.2)⟩)) (tb ((or_l (p := ((v0.Kind ≠ (4 : Int)) ∧ (v0.Text ≠ [])) ∨ ((v0.Kind ≠ (3 : Int)) ∧ (v0.Bits ≠ (0 : UInt64)))) (q := ((v0.Kind ≠ (2 : Int)) ∧ (v0.Kind ≠ (1 : Int))) ∧ (v0.Int_ ≠ (0 : Int))) (not_or.2 ⟨(fun h => h5 h.2), (fun h => h7 h.2)⟩))))) ?_
                    refine rs [(1, .q 1 (0)), (48, .b (decide ((((v0.Kind ≠ (4 : Int)) ∧ (v0.Text ≠ [])) ∨ ((v0.Kind ≠ (3 : Int)) ∧ (v0.Bits ≠ (0 : UInt64)))) ∨ (((v0.Kind ≠ (2 : Int)) ∧ (v0.Kind ≠ (1 : Int))) ∧ (v0.Int_ ≠ (0 : Int))))))] [(1, .pure (GValue.cs v0))] rfl rfl rfl ?_
                    exact RunW_nil rfl
              · refine r_off rfl rfl rfl rfl (decide_eq_false (p := v0.Kind ≠ (3 : Int)) h6) rfl rfl ?_
                refine r_off rfl rfl rfl rfl (decide_eq_false (p := v0.Kind ≠ (3 : Int)) h6) rfl rfl ?_
                refine r_off rfl rfl rfl rfl (decide_eq_false (p := v0.Kind ≠ (3 : Int)) h6) rfl rfl ?_
                refine r_on rfl rfl rfl rfl (decide_eq_false (p := (v0.Kind ≠ (4 : Int)) ∧ (v0.Text ≠ [])) (fun h => h5 h.2)) rfl (PureD.opD (p_pkf rfl rfl (decide_eq_false (p := v0.Kind ≠ (3 : Int)) h6) (tb (decide_eq_false (p := (v0.Kind ≠ (3 : Int)) ∧ (v0.Bits ≠ (0 : UInt64))) (fun x => h6 x.1)).symm))) ?_
                refine rp rfl rfl (p_pkf rfl rfl (decide_eq_false (p := (v0.Kind ≠ (4 : Int)) ∧ (v0.Text ≠ [])) (fun h => h5 h.2)) (tb ((or_l (p := (v0.Kind ≠ (4 : Int)) ∧ (v0.Text ≠ [])) (q := (v0.Kind ≠ (3 : Int)) ∧ (v0.Bits ≠ (0 : UInt64))) (fun h => h5 h.2))))) ?_
                refine rp rfl rfl (p_move rfl rfl) ?_
                refine r_on rfl rfl rfl rfl (decide_eq_false (p := ((v0.Kind ≠ (4 : Int)) ∧ (v0.Text ≠ [])) ∨ ((v0.Kind ≠ (3 : Int)) ∧ (v0.Bits ≠ (0 : UInt64)))) (not_or.2 ⟨(fun h => h5 h.2), (fun h => h6 h.1)⟩)) rfl (PureD.opD (u_fa rfl rfl Tryd.underlying24 rfl in_3 (Nat.succ_ne_zero _) rfl rfl (ne_of_lt (n := 0) (Nat.lt_of_lt_of_eq (by decide) (Eq.symm (GValue.len v0)))))) ?_
                refine r_on rfl rfl rfl rfl (decide_eq_false (p := ((v0.Kind ≠ (4 : Int)) ∧ (v0.Text ≠ [])) ∨ ((v0.Kind ≠ (3 : Int)) ∧ (v0.Bits ≠ (0 : UInt64)))) (not_or.2 ⟨(fun h => h5 h.2), (fun h => h6 h.1)⟩)) rfl (PureD.opD (u_ld rfl rfl Tryd.underlying3 rfl rfl ((Sub.refl _).trans (GValue.sub0 v0)))) ?_
                refine r_on rfl rfl rfl rfl (decide_eq_false (p := ((v0.Kind ≠ (4 : Int)) ∧ (v0.Text ≠ [])) ∨ ((v0.Kind ≠ (3 : Int)) ∧ (v0.Bits ≠ (0 : UInt64)))) (not_or.2 ⟨(fun h => h5 h.2), (fun h => h6 h.1)⟩)) rfl (PureD.opD (p_ine rfl rfl rfl)) ?_
                refine r_on rfl rfl rfl rfl (decide_eq_false (p := ((v0.Kind ≠ (4 : Int)) ∧ (v0.Text ≠ [])) ∨ ((v0.Kind ≠ (3 : Int)) ∧ (v0.Bits ≠ (0 : UInt64)))) (not_or.2 ⟨(fun h => h5 h.2), (fun h => h6 h.1)⟩)) rfl (PureD.opD (p_move rfl rfl)) ?_
                refine (Classical.em (v0.Kind ≠ (2 : Int))).elim (fun h10 => ?_) (fun h10 => ?_)
                · refine r_on rfl rfl rfl rfl (decide_eq_true (p := v0.Kind ≠ (2 : Int)) h10) rfl (PureD.opD (u_fa rfl rfl Tryd.underlying24 rfl in_3 (Nat.succ_ne_zero _) rfl rfl (ne_of_lt (n := 0) (Nat.lt_of_lt_of_eq (by decide) (Eq.symm (GValue.len v0)))))) ?_
                  refine r_on rfl rfl rfl rfl (decide_eq_true (p := v0.Kind ≠ (2 : Int)) h10) rfl (PureD.opD (u_ld rfl rfl Tryd.underlying3 rfl rfl ((Sub.refl _).trans (GValue.sub0 v0)))) ?_
                  refine r_on rfl rfl rfl rfl (decide_eq_true (p := v0.Kind ≠ (2 : Int)) h10) rfl (PureD.opD (p_ine rfl rfl rfl)) ?_
                  refine r_on rfl rfl rfl rfl (decide_eq_false (p := ((v0.Kind ≠ (4 : Int)) ∧ (v0.Text ≠ [])) ∨ ((v0.Kind ≠ (3 : Int)) ∧ (v0.Bits ≠ (0 : UInt64)))) (not_or.2 ⟨(fun h => h5 h.2), (fun h => h6 h.1)⟩)) rfl (PureD.opD (p_pkt rfl rfl (decide_eq_true (p := v0.Kind ≠ (2 : Int)) h10) (tb ((and_l (p := v0.Kind ≠ (2 : Int)) (q := v0.Kind ≠ (1 : Int)) h10))))) ?_
                  refine r_on rfl rfl rfl rfl (decide_eq_false (p := ((v0.Kind ≠ (4 : Int)) ∧ (v0.Text ≠ [])) ∨ ((v0.Kind ≠ (3 : Int)) ∧ (v0.Bits ≠ (0 : UInt64)))) (not_or.2 ⟨(fun h => h5 h.2), (fun h => h6 h.1)⟩)) rfl (PureD.opD (p_move rfl rfl)) ?_
                  refine (Classical.em (v0.Kind ≠ (1 : Int))).elim (fun h11 => ?_) (fun h11 => ?_)
                  · refine r_on rfl rfl rfl rfl (decide_eq_true (p := (v0.Kind ≠ (2 : Int)) ∧ (v0.Kind ≠ (1 : Int))) ⟨h10, h11⟩) rfl (PureD.opD (u_fa rfl rfl Tryd.underlying24 rfl in_3 (Nat.succ_ne_zero _) rfl rfl (ne_of_lt (n := 0) (Nat.lt_of_lt_of_eq (by decide) (Eq.symm (GValue.len v0)))))) ?_
                    refine r_on rfl rfl rfl rfl (decide_eq_true (p := (v0.Kind ≠ (2 : Int)) ∧ (v0.Kind ≠ (1 : Int))) ⟨h10, h11⟩) rfl (PureD.opD (u_ld rfl rfl Tryd.underlying3 rfl rfl ((Sub.refl _).trans (GValue.sub1 v0)))) ?_
                    refine r_on rfl rfl rfl rfl (decide_eq_true (p := (v0.Kind ≠ (2 : Int)) ∧ (v0.Kind ≠ (1 : Int))) ⟨h10, h11⟩) rfl (PureD.opD (p_ine rfl rfl rfl)) ?_
                    refine r_on rfl rfl rfl rfl (decide_eq_false (p := ((v0.Kind ≠ (4 : Int)) ∧ (v0.Text ≠ [])) ∨ ((v0.Kind ≠ (3 : Int)) ∧ (v0.Bits ≠ (0 : UInt64)))) (not_or.2 ⟨(fun h => h5 h.2), (fun h => h6 h.1)⟩)) rfl (PureD.opD (p_pkt rfl rfl (decide_eq_true (p := (v0.Kind ≠ (2 : Int)) ∧ (v0.Kind ≠ (1 : Int))) ⟨h10, h11⟩) (tb ((and_l (p := (v0.Kind ≠ (2 : Int)) ∧ (v0.Kind ≠ (1 : Int))) (q := v0.Int_ ≠ (0 : Int)) ⟨h10, h11⟩))))) ?_
                    refine rp rfl rfl (p_pkf rfl rfl (decide_eq_false (p := ((v0.Kind ≠ (4 : Int)) ∧ (v0.Text ≠ [])) ∨ ((v0.Kind ≠ (3 : Int)) ∧ (v0.Bits ≠ (0 : UInt64)))) (not_or.2 ⟨(fun h => h5 h.2), (fun h => h6 h.1)⟩)) (tb ((or_l (p := ((v0.Kind ≠ (4 : Int)) ∧ (v0.Text ≠ [])) ∨ ((v0.Kind ≠ (3 : Int)) ∧ (v0.Bits ≠ (0 : UInt64)))) (q := ((v0.Kind ≠ (2 : Int)) ∧ (v0.Kind ≠ (1 : Int))) ∧ (v0.Int_ ≠ (0 : Int))) (not_or.2 ⟨(fun h => h5 h.2), (fun h => h6 h.1)⟩))))) ?_
                    refine rs [(1, .q 1 (0)), (48, .b (decide ((((v0.Kind ≠ (4 : Int)) ∧ (v0.Text ≠ [])) ∨ ((v0.Kind ≠ (3 : Int)) ∧ (v0.Bits ≠ (0 : UInt64)))) ∨ (((v0.Kind ≠ (2 : Int)) ∧ (v0.Kind ≠ (1 : Int))) ∧ (v0.Int_ ≠ (0 : Int))))))] [(1, .pure (GValue.cs v0))] rfl rfl rfl ?_
                    exact RunW_nil rfl
                  · refine r_off rfl rfl rfl rfl (decide_eq_false (p := (v0.Kind ≠ (2 : Int)) ∧ (v0.Kind ≠ (1 : Int))) (fun h => h11 h.2)) rfl rfl ?_
                    refine r_off rfl rfl rfl rfl (decide_eq_false (p := (v0.Kind ≠ (2 : Int)) ∧ (v0.Kind ≠ (1 : Int))) (fun h => h11 h.2)) rfl rfl ?_
                    refine r_off rfl rfl rfl rfl (decide_eq_false (p := (v0.Kind ≠ (2 : Int)) ∧ (v0.Kind ≠ (1 : Int))) (fun h => h11 h.2)) rfl rfl ?_
                    refine r_on rfl rfl rfl rfl (decide_eq_false (p := ((v0.Kind ≠ (4 : Int)) ∧ (v0.Text ≠ [])) ∨ ((v0.Kind ≠ (3 : Int)) ∧ (v0.Bits ≠ (0 : UInt64)))) (not_or.2 ⟨(fun h => h5 h.2), (fun h => h6 h.1)⟩)) rfl (PureD.opD (p_pkf rfl rfl (decide_eq_false (p := (v0.Kind ≠ (2 : Int)) ∧ (v0.Kind ≠ (1 : Int))) (fun h => h11 h.2)) (tb (decide_eq_false (p := ((v0.Kind ≠ (2 : Int)) ∧ (v0.Kind ≠ (1 : Int))) ∧ (v0.Int_ ≠ (0 : Int))) (fun x => (fun h => h11 h.2) x.1)).symm))) ?_
                    refine rp rfl rfl (p_pkf rfl rfl (decide_eq_false (p := ((v0.Kind ≠ (4 : Int)) ∧ (v0.Text ≠ [])) ∨ ((v0.Kind ≠ (3 : Int)) ∧ (v0.Bits ≠ (0 : UInt64)))) (not_or.2 ⟨(fun h => h5 h.2), (fun h => h6 h.1)⟩)) (tb ((or_l (p := ((v0.Kind ≠ (4 : Int)) ∧ (v0.Text ≠ [])) ∨ ((v0.Kind ≠ (3 : Int)) ∧ (v0.Bits ≠ (0 : UInt64)))) (q := ((v0.Kind ≠ (2 : Int)) ∧ (v0.Kind ≠ (1 : Int))) ∧ (v0.Int_ ≠ (0 : Int))) (not_or.2 ⟨(fun h => h5 h.2), (fun h => h6 h.1)⟩))))) ?_
                    refine rs [(1, .q 1 (0)), (48, .b (decide ((((v0.Kind ≠ (4 : Int)) ∧ (v0.Text ≠ [])) ∨ ((v0.Kind ≠ (3 : Int)) ∧ (v0.Bits ≠ (0 : UInt64)))) ∨ (((v0.Kind ≠ (2 : Int)) ∧ (v0.Kind ≠ (1 : Int))) ∧ (v0.Int_ ≠ (0 : Int))))))] [(1, .pure (GValue.cs v0))] rfl rfl rfl ?_
                    exact RunW_nil rfl
                · refine r_off rfl rfl rfl rfl (decide_eq_false (p := v0.Kind ≠ (2 : Int)) h10) rfl rfl ?_
                  refine r_off rfl rfl rfl rfl (decide_eq_false (p := v0.Kind ≠ (2 : Int)) h10) rfl rfl ?_
                  refine r_off rfl rfl rfl rfl (decide_eq_false (p := v0.Kind ≠ (2 : Int)) h10) rfl rfl ?_
                  refine r_on rfl rfl rfl rfl (decide_eq_false (p := ((v0.Kind ≠ (4 : Int)) ∧ (v0.Text ≠ [])) ∨ ((v0.Kind ≠ (3 : Int)) ∧ (v0.Bits ≠ (0 : UInt64)))) (not_or.2 ⟨(fun h => h5 h.2), (fun h => h6 h.1)⟩)) rfl (PureD.opD (p_pkf rfl rfl (decide_eq_false (p := v0.Kind ≠ (2 : Int)) h10) (tb (decide_eq_false (p := (v0.Kind ≠ (2 : Int)) ∧ (v0.Kind ≠ (1 : Int))) (fun x => h10 x.1)).symm))) ?_
                  refine r_on rfl rfl rfl rfl (decide_eq_false (p := ((v0.Kind ≠ (4 : Int)) ∧ (v0.Text ≠ [])) ∨ ((v0.Kind ≠ (3 : Int)) ∧ (v0.Bits ≠ (0 : UInt64)))) (not_or.2 ⟨(fun h => h5 h.2), (fun h => h6 h.1)⟩)) rfl (PureD.opD (p_move rfl rfl)) ?_
                  refine r_off rfl rfl rfl rfl (decide_eq_false (p := (v0.Kind ≠ (2 : Int)) ∧ (v0.Kind ≠ (1 : Int))) (fun h => h10 h.1)) rfl rfl ?_
                  refine r_off rfl rfl rfl rfl (decide_eq_false (p := (v0.Kind ≠ (2 : Int)) ∧ (v0.Kind ≠ (1 : Int))) (fun h => h10 h.1)) rfl rfl ?_
                  refine r_off rfl rfl rfl rfl (decide_eq_false (p := (v0.Kind ≠ (2 : Int)) ∧ (v0.Kind ≠ (1 : Int))) (fun h => h10 h.1)) rfl rfl ?_
                  refine r_on rfl rfl rfl rfl (decide_eq_false (p := ((v0.Kind ≠ (4 : Int)) ∧ (v0.Text ≠ [])) ∨ ((v0.Kind ≠ (3 : Int)) ∧ (v0.Bits ≠ (0 : UInt64)))) (not_or.2 ⟨(fun h => h5 h.2), (fun h => h6 h.1)⟩)) rfl (PureD.opD (p_pkf rfl rfl (decide_eq_false (p := (v0.Kind ≠ (2 : Int)) ∧ (v0.Kind ≠ (1 : Int))) (fun h => h10 h.1)) (tb (decide_eq_false (p := ((v0.Kind ≠ (2 : Int)) ∧ (v0.Kind ≠ (1 : Int))) ∧ (v0.Int_ ≠ (0 : Int))) (fun x => (fun h => h10 h.1) x.1)).symm))) ?_
                  refine rp rfl rfl (p_pkf rfl rfl (decide_eq_false (p := ((v0.Kind ≠ (4 : Int)) ∧ (v0.Text ≠ [])) ∨ ((v0.Kind ≠ (3 : Int)) ∧ (v0.Bits ≠ (0 : UInt64)))) (not_or.2 ⟨(fun h => h5 h.2), (fun h => h6 h.1)⟩)) (tb ((or_l (p := ((v0.Kind ≠ (4 : Int)) ∧ (v0.Text ≠ [])) ∨ ((v0.Kind ≠ (3 : Int)) ∧ (v0.Bits ≠ (0 : UInt64)))) (q := ((v0.Kind ≠ (2 : Int)) ∧ (v0.Kind ≠ (1 : Int))) ∧ (v0.Int_ ≠ (0 : Int))) (not_or.2 ⟨(fun h => h5 h.2), (fun h => h6 h.1)⟩))))) ?_
                  refine rs [(1, .q 1 (0)), (48, .b (decide ((((v0.Kind ≠ (4 : Int)) ∧ (v0.Text ≠ [])) ∨ ((v0.Kind ≠ (3 : Int)) ∧ (v0.Bits ≠ (0 : UInt64)))) ∨ (((v0.Kind ≠ (2 : Int)) ∧ (v0.Kind ≠ (1 : Int))) ∧ (v0.Int_ ≠ (0 : Int))))))] [(1, .pure (GValue.cs v0))] rfl rfl rfl ?_
                  exact RunW_nil rfl
          · refine r_off rfl rfl rfl rfl (decide_eq_false (p := v0.Kind ≠ (4 : Int)) h4) rfl rfl ?_
            refine r_off rfl rfl rfl rfl (decide_eq_false (p := v0.Kind ≠ (4 : Int)) h4) rfl rfl ?_
            refine r_off rfl rfl rfl rfl (decide_eq_false (p := v0.Kind ≠ (4 : Int)) h4) rfl rfl ?_
            refine rp rfl rfl (p_pkf rfl rfl (decide_eq_false (p := v0.Kind ≠ (4 : Int)) h4) (tb (decide_eq_false (p := (v0.Kind ≠ (4 : Int)) ∧ (v0.Text ≠ [])) (fun x => h4 x.1)).symm)) ?_
            refine rp rfl rfl (p_move rfl rfl) ?_
            refine r_on rfl rfl rfl rfl (decide_eq_false (p := (v0.Kind ≠ (4 : Int)) ∧ (v0.Text ≠ [])) (fun h => h4 h.1)) rfl (PureD.opD (u_fa rfl rfl Tryd.underlying24 rfl in_3 (Nat.succ_ne_zero _) rfl rfl (ne_of_lt (n := 0) (Nat.lt_of_lt_of_eq (by decide) (Eq.symm (GValue.len v0)))))) ?_
            refine r_on rfl rfl rfl rfl (decide_eq_false (p := (v0.Kind ≠ (4 : Int)) ∧ (v0.Text ≠ [])) (fun h => h4 h.1)) rfl (PureD.opD (u_ld rfl rfl Tryd.underlying3 rfl rfl ((Sub.refl _).trans (GValue.sub0 v0)))) ?_
            refine r_on rfl rfl rfl rfl (decide_eq_false (p := (v0.Kind ≠ (4 : Int)) ∧ (v0.Text ≠ [])) (fun h => h4 h.1)) rfl (PureD.opD (p_ine rfl rfl rfl)) ?_
            refine r_on rfl rfl rfl rfl (decide_eq_false (p := (v0.Kind ≠ (4 : Int)) ∧ (v0.Text ≠ [])) (fun h => h4 h.1)) rfl (PureD.opD (p_move rfl rfl)) ?_
            refine (Classical.em (v0.Kind ≠ (3 : Int))).elim (fun h12 => ?_) (fun h12 => ?_)
            · refine r_on rfl rfl rfl rfl (decide_eq_true (p := v0.Kind ≠ (3 : Int)) h12) rfl (PureD.opD (u_fa rfl rfl Tryd.underlying24 rfl in_22 (Nat.succ_ne_zero _) rfl rfl (ne_of_lt (n := 0) (Nat.lt_of_lt_of_eq (by decide) (Eq.symm (GValue.len v0)))))) ?_
              refine r_on rfl rfl rfl rfl (decide_eq_true (p := v0.Kind ≠ (3 : Int)) h12) rfl (PureD.opD (u_ld rfl rfl Tryd.underlying22 rfl rfl ((Sub.refl _).trans (GValue.sub2 v0)))) ?_
              refine r_on rfl rfl rfl rfl (decide_eq_true (p := v0.Kind ≠ (3 : Int)) h12) rfl (PureD.opD (p_u64ne (a := v0.Bits) (b := (0 : UInt64)) rfl rfl rfl)) ?_
              refine r_on rfl rfl rfl rfl (decide_eq_false (p := (v0.Kind ≠ (4 : Int)) ∧ (v0.Text ≠ [])) (fun h => h4 h.1)) rfl (PureD.opD (p_pkt rfl rfl (decide_eq_true (p := v0.Kind ≠ (3 : Int)) h12) (tb ((and_l (p := v0.Kind ≠ (3 : Int)) (q := v0.Bits ≠ (0 : UInt64)) h12))))) ?_
              refine rp rfl rfl (p_pkf rfl rfl (decide_eq_false (p := (v0.Kind ≠ (4 : Int)) ∧ (v0.Text ≠ [])) (fun h => h4 h.1)) (tb ((or_l (p := (v0.Kind ≠ (4 : Int)) ∧ (v0.Text ≠ [])) (q := (v0.Kind ≠ (3 : Int)) ∧ (v0.Bits ≠ (0 : UInt64))) (fun h => h4 h.1))))) ?_
              refine rp rfl rfl (p_move rfl rfl) ?_
              refine (Classical.em (v0.Bits ≠ (0 : UInt64))).elim (fun h13 => ?_) (fun h13 => ?_)
              · refine r_off rfl rfl rfl rfl (decide_eq_true (p := ((v0.Kind ≠ (4 : Int)) ∧ (v0.Text ≠ [])) ∨ ((v0.Kind ≠ (3 : Int)) ∧ (v0.Bits ≠ (0 : UInt64)))) (Or.inr ⟨h12, h13⟩)) rfl rfl ?_
                refine r_off rfl rfl rfl rfl (decide_eq_true (p := ((v0.Kind ≠ (4 : Int)) ∧ (v0.Text ≠ [])) ∨ ((v0.Kind ≠ (3 : Int)) ∧ (v0.Bits ≠ (0 : UInt64)))) (Or.inr ⟨h12, h13⟩)) rfl rfl ?_
                refine r_off rfl rfl rfl rfl (decide_eq_true (p := ((v0.Kind ≠ (4 : Int)) ∧ (v0.Text ≠ [])) ∨ ((v0.Kind ≠ (3 : Int)) ∧ (v0.Bits ≠ (0 : UInt64)))) (Or.inr ⟨h12, h13⟩)) rfl rfl ?_
                refine r_off rfl rfl rfl rfl (decide_eq_true (p := ((v0.Kind ≠ (4 : Int)) ∧ (v0.Text ≠ [])) ∨ ((v0.Kind ≠ (3 : Int)) ∧ (v0.Bits ≠ (0 : UInt64)))) (Or.inr ⟨h12, h13⟩)) rfl rfl ?_
                refine r_off2 rfl rfl rfl rfl rfl rfl ?_
                refine r_off2 rfl rfl rfl rfl rfl rfl ?_
                refine r_off2 rfl rfl rfl rfl rfl rfl ?_
                refine r_off rfl rfl rfl rfl (decide_eq_true (p := ((v0.Kind ≠ (4 : Int)) ∧ (v0.Text ≠ [])) ∨ ((v0.Kind ≠ (3 : Int)) ∧ (v0.Bits ≠ (0 : UInt64)))) (Or.inr ⟨h12, h13⟩)) rfl rfl ?_
                refine r_off rfl rfl rfl rfl (decide_eq_true (p := ((v0.Kind ≠ (4 : Int)) ∧ (v0.Text ≠ [])) ∨ ((v0.Kind ≠ (3 : Int)) ∧ (v0.Bits ≠ (0 : UInt64)))) (Or.inr ⟨h12, h13⟩)) rfl rfl ?_
                refine r_off2 rfl rfl rfl rfl rfl rfl ?_
                refine r_off2 rfl rfl rfl rfl rfl rfl ?_
                refine r_off2 rfl rfl rfl rfl rfl rfl ?_
                refine r_off rfl rfl rfl rfl (decide_eq_true (p := ((v0.Kind ≠ (4 : Int)) ∧ (v0.Text ≠ [])) ∨ ((v0.Kind ≠ (3 : Int)) ∧ (v0.Bits ≠ (0 : UInt64)))) (Or.inr ⟨h12, h13⟩)) rfl rfl ?_
                refine rp rfl rfl (p_pkt rfl rfl (decide_eq_true (p := ((v0.Kind ≠ (4 : Int)) ∧ (v0.Text ≠ [])) ∨ ((v0.Kind ≠ (3 : Int)) ∧ (v0.Bits ≠ (0 : UInt64)))) (Or.inr ⟨h12, h13⟩)) (tb (decide_eq_true (p := (((v0.Kind ≠ (4 : Int)) ∧ (v0.Text ≠ [])) ∨ ((v0.Kind ≠ (3 : Int)) ∧ (v0.Bits ≠ (0 : UInt64)))) ∨ (((v0.Kind ≠ (2 : Int)) ∧ (v0.Kind ≠ (1 : Int))) ∧ (v0.Int_ ≠ (0 : Int)))) (Or.inl (Or.inr ⟨h12, h13⟩))).symm)) ?_
                refine rs [(1, .q 1 (0)), (48, .b (decide ((((v0.Kind ≠ (4 : Int)) ∧ (v0.Text ≠ [])) ∨ ((v0.Kind ≠ (3 : Int)) ∧ (v0.Bits ≠ (0 : UInt64)))) ∨ (((v0.Kind ≠ (2 : Int)) ∧ (v0.Kind ≠ (1 : Int))) ∧ (v0.Int_ ≠ (0 : Int))))))] [(1, .pure (GValue.cs v0))] rfl rfl rfl ?_
                exact RunW_nil rfl
              · refine r_on rfl rfl rfl rfl (decide_eq_false (p := ((v0.Kind ≠ (4 : Int)) ∧ (v0.Text ≠ [])) ∨ ((v0.Kind ≠ (3 : Int)) ∧ (v0.Bits ≠ (0 : UInt64)))) (not_or.2 ⟨(fun h => h4 h.1), (fun h => h13 h.2)⟩)) rfl (PureD.opD (u_fa rfl rfl Tryd.underlying24 rfl in_3 (Nat.succ_ne_zero _) rfl rfl (ne_of_lt (n := 0) (Nat.lt_of_lt_of_eq (by decide) (Eq.symm (GValue.len v0)))))) ?_
                refine r_on rfl rfl rfl rfl (decide_eq_false (p := ((v0.Kind ≠ (4 : Int)) ∧ (v0.Text ≠ [])) ∨ ((v0.Kind ≠ (3 : Int)) ∧ (v0.Bits ≠ (0 : UInt64)))) (not_or.2 ⟨(fun h => h4 h.1), (fun h => h13 h.2)⟩)) rfl (PureD.opD (u_ld rfl rfl Tryd.underlying3 rfl rfl ((Sub.refl _).trans (GValue.sub0 v0)))) ?_
                refine r_on rfl rfl rfl rfl (decide_eq_false (p := ((v0.Kind ≠ (4 : Int)) ∧ (v0.Text ≠ [])) ∨ ((v0.Kind ≠ (3 : Int)) ∧ (v0.Bits ≠ (0 : UInt64)))) (not_or.2 ⟨(fun h => h4 h.1), (fun h => h13 h.2)⟩)) rfl (PureD.opD (p_ine rfl rfl rfl)) ?_
                refine r_on rfl rfl rfl rfl (decide_eq_false (p := ((v0.Kind ≠ (4 : Int)) ∧ (v0.Text ≠ [])) ∨ ((v0.Kind ≠ (3 : Int)) ∧ (v0.Bits ≠ (0 : UInt64)))) (not_or.2 ⟨(fun h => h4 h.1), (fun h => h13 h.2)⟩)) rfl (PureD.opD (p_move rfl rfl)) ?_
                refine (Classical.em (v0.Kind ≠ (2 : Int))).elim (fun h14 => ?_) (fun h14 => ?_)
                · refine r_on rfl rfl rfl rfl (decide_eq_true (p := v0.Kind ≠ (2 : Int)) h14) rfl (PureD.opD (u_fa rfl rfl Tryd.underlying24 rfl in_3 (Nat.succ_ne_zero _) rfl rfl (ne_of_lt (n := 0) (Nat.lt_of_lt_of_eq (by decide) (Eq.symm (GValue.len v0)))))) ?_
                  refine r_on rfl rfl rfl rfl (decide_eq_true (p := v0.Kind ≠ (2 : Int)) h14) rfl (PureD.opD (u_ld rfl rfl Tryd.underlying3 rfl rfl ((Sub.refl _).trans (GValue.sub0 v0)))) ?_
                  refine r_on rfl rfl rfl rfl (decide_eq_true (p := v0.Kind ≠ (2 : Int)) h14) rfl (PureD.opD (p_ine rfl rfl rfl)) ?_
                  refine r_on rfl rfl rfl rfl (decide_eq_false (p := ((v0.Kind ≠ (4 : Int)) ∧ (v0.Text ≠ [])) ∨ ((v0.Kind ≠ (3 : Int)) ∧ (v0.Bits ≠ (0 : UInt64)))) (not_or.2 ⟨(fun h => h4 h.1), (fun h => h13 h.2)⟩)) rfl (PureD.opD (p_pkt rfl rfl (decide_eq_true (p := v0.Kind ≠ (2 : Int)) h14) (tb ((and_l (p := v0.Kind ≠ (2 : Int)) (q := v0.Kind ≠ (1 : Int)) h14))))) ?_
                  refine r_on rfl rfl rfl rfl (decide_eq_false (p := ((v0.Kind ≠ (4 : Int)) ∧ (v0.Text ≠ [])) ∨ ((v0.Kind ≠ (3 : Int)) ∧ (v0.Bits ≠ (0 : UInt64)))) (not_or.2 ⟨(fun h => h4 h.1), (fun h => h13 h.2)⟩)) rfl (PureD.opD (p_move rfl rfl)) ?_
                  refine (Classical.em (v0.Kind ≠ (1 : Int))).elim (fun h15 => ?_) (fun h15 => ?_)
                  · refine r_on rfl rfl rfl rfl (decide_eq_true (p := (v0.Kind ≠ (2 : Int)) ∧ (v0.Kind ≠ (1 : Int))) ⟨h14, h15⟩) rfl (PureD.opD (u_fa rfl rfl Tryd.underlying24 rfl in_3 (Nat.succ_ne_zero _) rfl rfl (ne_of_lt (n := 0) (Nat.lt_of_lt_of_eq (by decide) (Eq.symm (GValue.len v0)))))) ?_
                    refine r_on rfl rfl rfl rfl (decide_eq_true (p := (v0.Kind ≠ (2 : Int)) ∧ (v0.Kind ≠ (1 : Int))) ⟨h14, h15⟩) rfl (PureD.opD (u_ld rfl rfl Tryd.underlying3 rfl rfl ((Sub.refl _).trans (GValue.sub1 v0)))) ?_
                    refine r_on rfl rfl rfl rfl (decide_eq_true (p := (v0.Kind ≠ (2 : Int)) ∧ (v0.Kind ≠ (1 : Int))) ⟨h14, h15⟩) rfl (PureD.opD (p_ine rfl rfl rfl)) ?_
                    refine r_on rfl rfl rfl rfl (decide_eq_false (p := ((v0.Kind ≠ (4 : Int)) ∧ (v0.Text ≠ [])) ∨ ((v0.Kind ≠ (3 : Int)) ∧ (v0.Bits ≠ (0 : UInt64)))) (not_or.2 ⟨(fun h => h4 h.1), (fun h => h13 h.2)⟩)) rfl (PureD.opD (p_pkt rfl rfl (decide_eq_true (p := (v0.Kind ≠ (2 : Int)) ∧ (v0.Kind ≠ (1 : Int))) ⟨h14, h15⟩) (tb ((and_l (p := (v0.Kind ≠ (2 : Int)) ∧ (v0.Kind ≠ (1 : Int))) (q := v0.Int_ ≠ (0 : Int)) ⟨h14, h15⟩))))) ?_
                    refine rp rfl rfl (p_pkf rfl rfl (decide_eq_false (p := ((v0.Kind ≠ (4 : Int)) ∧ (v0.Text ≠ [])) ∨ ((v0.Kind ≠ (3 : Int)) ∧ (v0.Bits ≠ (0 : UInt64)))) (not_or.2 ⟨(fun h => h4 h.1), (fun h => h13 h.2)⟩)) (tb ((or_l (p := ((v0.Kind ≠ (4 : Int)) ∧ (v0.Text ≠ [])) ∨ ((v0.Kind ≠ (3 : Int)) ∧ (v0.Bits ≠ (0 : UInt64)))) (q := ((v0.Kind ≠ (2 : Int)) ∧ (v0.Kind ≠ (1 : Int))) ∧ (v0.Int_ ≠ (0 : Int))) (not_or.2 ⟨(fun h => h4 h.1), (fun h => h13 h.2)⟩))))) ?_
                    refine rs [(1, .q 1 (0)), (48, .b (decide ((((v0.Kind ≠ (4 : Int)) ∧ (v0.Text ≠ [])) ∨ ((v0.Kind ≠ (3 : Int)) ∧ (v0.Bits ≠ (0 : UInt64)))) ∨ (((v0.Kind ≠ (2 : Int)) ∧ (v0.Kind ≠ (1 : Int))) ∧ (v0.Int_ ≠ (0 : Int))))))] [(1, .pure (GValue.cs v0))] rfl rfl rfl ?_
                    exact RunW_nil rfl
                  · refine r_off rfl rfl rfl rfl (decide_eq_false (p := (v0.Kind ≠ (2 : Int)) ∧ (v0.Kind ≠ (1 : Int))) (fun h => h15 h.2)) rfl rfl ?_
                    refine r_off rfl rfl rfl rfl (decide_eq_false (p := (v0.Kind ≠ (2 : Int)) ∧ (v0.Kind ≠ (1 : Int))) (fun h => h15 h.2)) rfl rfl ?_
                    refine r_off rfl rfl rfl rfl (decide_eq_false (p := (v0.Kind ≠ (2 : Int)) ∧ (v0.Kind ≠ (1 : Int))) (fun h => h15 h.2)) rfl rfl ?_
                    refine r_on rfl rfl rfl rfl (decide_eq_false (p := ((v0.Kind ≠ (4 : Int)) ∧ (v0.Text ≠ [])) ∨ ((v0.Kind ≠ (3 : Int)) ∧ (v0.Bits ≠ (0 : UInt64)))) (not_or.2 ⟨(fun h => h4 h.1), (fun h => h13 h.2)⟩)) rfl (PureD.opD (p_pkf rfl rfl (decide_eq_false (p := (v0.Kind ≠ (2 : Int)) ∧ (v0.Kind ≠ (1 : Int))) (fun h => h15 h.2)) (tb (decide_eq_false (p := ((v0.Kind ≠ (2 : Int)) ∧ (v0.Kind ≠ (1 : Int))) ∧ (v0.Int_ ≠ (0 : Int))) (fun x => (fun h => h15 h.2) x.1)).symm))) ?_
                    refine rp rfl rfl (p_pkf rfl rfl (decide_eq_false (p := ((v0.Kind ≠ (4 : Int)) ∧ (v0.Text ≠ [])) ∨ ((v0.Kind ≠ (3 : Int)) ∧ (v0.Bits ≠ (0 : UInt64)))) (not_or.2 ⟨(fun h => h4 h.1), (fun h => h13 h.2)⟩)) (tb ((or_l (p := ((v0.Kind ≠ (4 : Int)) ∧ (v0.Text ≠ [])) ∨ ((v0.Kind ≠ (3 : Int)) ∧ (v0.Bits ≠ (0 : UInt64)))) (q := ((v0.Kind ≠ (2 : Int)) ∧ (v0.Kind ≠ (1 : Int))) ∧ (v0.Int_ ≠ (0 : Int))) (not_or.2 ⟨(fun h => h4 h.1), (fun h => h13 h.2)⟩))))) ?_
                    refine rs [(1, .q 1 (0)), (48, .b (decide ((((v0.Kind ≠ (4 : Int)) ∧ (v0.Text ≠ [])) ∨ ((v0.Kind ≠ (3 : Int)) ∧ (v0.Bits ≠ (0 : UInt64)))) ∨ (((v0.Kind ≠ (2 : Int)) ∧ (v0.Kind ≠ (1 : Int))) ∧ (v0.Int_ ≠ (0 : Int))))))] [(1, .pure (GValue.cs v0))] rfl rfl rfl ?_
                    exact RunW_nil rfl
                · refine r_off rfl rfl rfl rfl (decide_eq_false (p := v0.Kind ≠ (2 : Int)) h14) rfl rfl ?_
                  refine r_off rfl rfl rfl rfl (decide_eq_false (p := v0.Kind ≠ (2 : Int)) h14) rfl rfl ?_
                  refine r_off rfl rfl rfl rfl (decide_eq_false (p := v0.Kind ≠ (2 : Int)) h14) rfl rfl ?_
                  refine r_on rfl rfl rfl rfl (decide_eq_false (p := ((v0.Kind ≠ (4 : Int)) ∧ (v0.Text ≠ [])) ∨ ((v0.Kind ≠ (3 : Int)) ∧ (v0.Bits ≠ (0 : UInt64)))) (not_or.2 ⟨(fun h => h4 h.1), (fun h => h13 h.2)⟩)) rfl (PureD.opD (p_pkf rfl rfl (decide_eq_false (p := v0.Kind ≠ (2 : Int)) h14) (tb (decide_eq_false (p := (v0.Kind ≠ (2 : Int)) ∧ (v0.Kind ≠ (1 : Int))) (fun x => h14 x.1)).symm))) ?_
                  refine r_on rfl rfl rfl rfl (decide_eq_false (p := ((v0.Kind ≠ (4 : Int)) ∧ (v0.Text ≠ [])) ∨ ((v0.Kind ≠ (3 : Int)) ∧ (v0.Bits ≠ (0 : UInt64)))) (not_or.2 ⟨(fun h => h4 h.1), (fun h => h13 h.2)⟩)) rfl (PureD.opD (p_move rfl rfl)) ?_
                  refine r_off rfl rfl rfl rfl (decide_eq_false (p := (v0.Kind ≠ (2 : Int)) ∧ (v0.Kind ≠ (1 : Int))) (fun h => h14 h.1)) rfl rfl ?_
                  refine r_off rfl rfl rfl rfl (decide_eq_false (p := (v0.Kind ≠ (2 : Int)) ∧ (v0.Kind ≠ (1 : Int))) (fun h => h14 h.1)) rfl rfl ?_
                  refine r_off rfl rfl rfl rfl (decide_eq_false (p := (v0.Kind ≠ (2 : Int)) ∧ (v0.Kind ≠ (1 : Int))) (fun h => h14 h.1)) rfl rfl ?_
                  refine r_on rfl rfl rfl rfl (decide_eq_false (p := ((v0.Kind ≠ (4 : Int)) ∧ (v0.Text ≠ [])) ∨ ((v0.Kind ≠ (3 : Int)) ∧ (v0.Bits ≠ (0 : UInt64)))) (not_or.2 ⟨(fun h => h4 h.1), (fun h => h13 h.2)⟩)) rfl (PureD.opD (p_pkf rfl rfl (decide_eq_false (p := (v0.Kind ≠ (2 : Int)) ∧ (v0.Kind ≠ (1 : Int))) (fun h => h14 h.1)) (tb (decide_eq_false (p := ((v0.Kind ≠ (2 : Int)) ∧ (v0.Kind ≠ (1 : Int))) ∧ (v0.Int_ ≠ (0 : Int))) (fun x => (fun h => h14 h.1) x.1)).symm))) ?_
                  refine rp rfl rfl (p_pkf rfl rfl (decide_eq_false (p := ((v0.Kind ≠ (4 : Int)) ∧ (v0.Text ≠ [])) ∨ ((v0.Kind ≠ (3 : Int)) ∧ (v0.Bits ≠ (0 : UInt64)))) (not_or.2 ⟨(fun h => h4 h.1), (fun h => h13 h.2)⟩)) (tb ((or_l (p := ((v0.Kind ≠ (4 : Int)) ∧ (v0.Text ≠ [])) ∨ ((v0.Kind ≠ (3 : Int)) ∧ (v0.Bits ≠ (0 : UInt64)))) (q := ((v0.Kind ≠ (2 : Int)) ∧ (v0.Kind ≠ (1 : Int))) ∧ (v0.Int_ ≠ (0 : Int))) (not_or.2 ⟨(fun h => h4 h.1), (fun h => h13 h.2)⟩))))) ?_
                  refine rs [(1, .q 1 (0)), (48, .b (decide ((((v0.Kind ≠ (4 : Int)) ∧ (v0.Text ≠ [])) ∨ ((v0.Kind ≠ (3 : Int)) ∧ (v0.Bits ≠ (0 : UInt64)))) ∨ (((v0.Kind ≠ (2 : Int)) ∧ (v0.Kind ≠ (1 : Int))) ∧ (v0.Int_ ≠ (0 : Int))))))] [(1, .pure (GValue.cs v0))] rfl rfl rfl ?_
                  exact RunW_nil rfl
            · refine r_off rfl rfl rfl rfl (decide_eq_false (p := v0.Kind ≠ (3 : Int)) h12) rfl rfl ?_
              refine r_off rfl rfl rfl rfl (decide_eq_false (p := v0.Kind ≠ (3 : Int)) h12) rfl rfl ?_
              refine r_off rfl rfl rfl rfl (decide_eq_false (p := v0.Kind ≠ (3 : Int)) h12) rfl rfl ?_
              refine r_on rfl rfl rfl rfl (decide_eq_false (p := (v0.Kind ≠ (4 : Int)) ∧ (v0.Text ≠ [])) (fun h => h4 h.1)) rfl (PureD.opD (p_pkf rfl rfl (decide_eq_false (p := v0.Kind ≠ (3 : Int)) h12) (tb (decide_eq_false (p := (v0.Kind ≠ (3 : Int)) ∧ (v0.Bits ≠ (0 : UInt64))) (fun x => h12 x.1)).symm))) ?_
              refine rp rfl rfl (p_pkf rfl rfl (decide_eq_false (p := (v0.Kind ≠ (4 : Int)) ∧ (v0.Text ≠ [])) (fun h => h4 h.1)) (tb ((or_l (p := (v0.Kind ≠ (4 : Int)) ∧ (v0.Text ≠ [])) (q := (v0.Kind ≠ (3 : Int)) ∧ (v0.Bits ≠ (0 : UInt64))) (fun h => h4 h.1))))) ?_
              refine rp rfl rfl (p_move rfl rfl) ?_
              refine r_on rfl rfl rfl rfl (decide_eq_false (p := ((v0.Kind ≠ (4 : Int)) ∧ (v0.Text ≠ [])) ∨ ((v0.Kind ≠ (3 : Int)) ∧ (v0.Bits ≠ (0 : UInt64)))) (not_or.2 ⟨(fun h => h4 h.1), (fun h => h12 h.1)⟩)) rfl (PureD.opD (u_fa rfl rfl Tryd.underlying24 rfl in_3 (Nat.succ_ne_zero _) rfl rfl (ne_of_lt (n := 0) (Nat.lt_of_lt_of_eq (by decide) (Eq.symm (GValue.len v0)))))) ?_
              refine r_on rfl rfl rfl rfl (decide_eq_false (p := ((v0.Kind ≠ (4 : Int)) ∧ (v0.Text ≠ [])) ∨ ((v0.Kind ≠ (3 : Int)) ∧ (v0.Bits ≠ (0 : UInt64)))) (not_or.2 ⟨(fun h => h4 h.1), (fun h => h12 h.1)⟩)) rfl (PureD.opD (u_ld rfl rfl Tryd.underlying3 rfl rfl ((Sub.refl _).trans (GValue.sub0 v0)))) ?_
              refine r_on rfl rfl rfl rfl (decide_eq_false (p := ((v0.Kind ≠ (4 : Int)) ∧ (v0.Text ≠ [])) ∨ ((v0.Kind ≠ (3 : Int)) ∧ (v0.Bits ≠ (0 : UInt64)))) (not_or.2 ⟨(fun h => h4 h.1), (fun h => h12 h.1)⟩)) rfl (PureD.opD (p_ine rfl rfl rfl)) ?_
              refine r_on rfl rfl rfl rfl (decide_eq_false (p := ((v0.Kind ≠ (4 : Int)) ∧ (v0.Text ≠ [])) ∨ ((v0.Kind ≠ (3 : Int)) ∧ (v0.Bits ≠ (0 : UInt64)))) (not_or.2 ⟨(fun h => h4 h.1), (fun h => h12 h.1)⟩)) rfl (PureD.opD (p_move rfl rfl)) ?_
              refine (Classical.em (v0.Kind ≠ (2 : Int))).elim (fun h16 => ?_) (fun h16 => ?_)
              · refine r_on rfl rfl rfl rfl (decide_eq_true (p := v0.Kind ≠ (2 : Int)) h16) rfl (PureD.opD (u_fa rfl rfl Tryd.underlying24 rfl in_3 (Nat.succ_ne_zero _) rfl rfl (ne_of_lt (n := 0) (Nat.lt_of_lt_of_eq (by decide) (Eq.symm (GValue.len v0)))))) ?_
                refine r_on rfl rfl rfl rfl (decide_eq_true (p := v0.Kind ≠ (2 : Int)) h16) rfl (PureD.opD (u_ld rfl rfl Tryd.underlying3 rfl rfl ((Sub.refl _).trans (GValue.sub0 v0)))) ?_
                refine r_on rfl rfl rfl rfl (decide_eq_true (p := v0.Kind ≠ (2 : Int)) h16) rfl (PureD.opD (p_ine rfl rfl rfl)) ?_
                refine r_on rfl rfl rfl rfl (decide_eq_false (p := ((v0.Kind ≠ (4 : Int)) ∧ (v0.Text ≠ [])) ∨ ((v0.Kind ≠ (3 : Int)) ∧ (v0.Bits ≠ (0 : UInt64)))) (not_or.2 ⟨(fun h => h4 h.1), (fun h => h12 h.1)⟩)) rfl (PureD.opD (p_pkt rfl rfl (decide_eq_true (p := v0.Kind ≠ (2 : Int)) h16) (tb ((and_l (p := v0.Kind ≠ (2 : Int)) (q := v0.Kind ≠ (1 : Int)) h16))))) ?_
                refine r_on rfl rfl rfl rfl (decide_eq_false (p := ((v0.Kind ≠ (4 : Int)) ∧ (v0.Text ≠ [])) ∨ ((v0.Kind ≠ (3 : Int)) ∧ (v0.Bits ≠ (0 : UInt64)))) (not_or.2 ⟨(fun h => h4 h.1), (fun h => h12 h.1)⟩)) rfl (PureD.opD (p_move rfl rfl)) ?_
                refine (Classical.em (v0.Kind ≠ (1 : Int))).elim (fun h17 => ?_) (fun h17 => ?_)
                · refine r_on rfl rfl rfl rfl (decide_eq_true (p := (v0.Kind ≠ (2 : Int)) ∧ (v0.Kind ≠ (1 : Int))) ⟨h16, h17⟩) rfl (PureD.opD (u_fa rfl rfl Tryd.underlying24 rfl in_3 (Nat.succ_ne_zero _) rfl rfl (ne_of_lt (n := 0) (Nat.lt_of_lt_of_eq (by decide) (Eq.symm (GValue.len v0)))))) ?_
                  refine r_on rfl rfl rfl rfl (decide_eq_true (p := (v0.Kind ≠ (2 : Int)) ∧ (v0.Kind ≠ (1 : Int))) ⟨h16, h17⟩) rfl (PureD.opD (u_ld rfl rfl Tryd.underlying3 rfl rfl ((Sub.refl _).trans (GValue.sub1 v0)))) ?_
                  refine r_on rfl rfl rfl rfl (decide_eq_true (p := (v0.Kind ≠ (2 : Int)) ∧ (v0.Kind ≠ (1 : Int))) ⟨h16, h17⟩) rfl (PureD.opD (p_ine rfl rfl rfl)) ?_
                  refine r_on rfl rfl rfl rfl (decide_eq_false (p := ((v0.Kind ≠ (4 : Int)) ∧ (v0.Text ≠ [])) ∨ ((v0.Kind ≠ (3 : Int)) ∧ (v0.Bits ≠ (0 : UInt64)))) (not_or.2 ⟨(fun h => h4 h.1), (fun h => h12 h.1)⟩)) rfl (PureD.opD (p_pkt rfl rfl (decide_eq_true (p := (v0.Kind ≠ (2 : Int)) ∧ (v0.Kind ≠ (1 : Int))) ⟨h16, h17⟩) (tb ((and_l (p := (v0.Kind ≠ (2 : Int)) ∧ (v0.Kind ≠ (1 : Int))) (q := v0.Int_ ≠ (0 : Int)) ⟨h16, h17⟩))))) ?_
                  refine rp rfl rfl (p_pkf rfl rfl (decide_eq_false (p := ((v0.Kind ≠ (4 : Int)) ∧ (v0.Text ≠ [])) ∨ ((v0.Kind ≠ (3 : Int)) ∧ (v0.Bits ≠ (0 : UInt64)))) (not_or.2 ⟨(fun h => h4 h.1), (fun h => h12 h.1)⟩)) (tb ((or_l (p := ((v0.Kind ≠ (4 : Int)) ∧ (v0.Text ≠ [])) ∨ ((v0.Kind ≠ (3 : Int)) ∧ (v0.Bits ≠ (0 : UInt64)))) (q := ((v0.Kind ≠ (2 : Int)) ∧ (v0.Kind ≠ (1 : Int))) ∧ (v0.Int_ ≠ (0 : Int))) (not_or.2 ⟨(fun h => h4 h.1), (fun h => h12 h.1)⟩))))) ?_
                  refine rs [(1, .q 1 (0)), (48, .b (decide ((((v0.Kind ≠ (4 : Int)) ∧ (v0.Text ≠ [])) ∨ ((v0.Kind ≠ (3 : Int)) ∧ (v0.Bits ≠ (0 : UInt64)))) ∨ (((v0.Kind ≠ (2 : Int)) ∧ (v0.Kind ≠ (1 : Int))) ∧ (v0.Int_ ≠ (0 : Int))))))] [(1, .pure (GValue.cs v0))] rfl rfl rfl ?_
                  exact RunW_nil rfl
                · refine r_off rfl rfl rfl rfl (decide_eq_false (p := (v0.Kind ≠ (2 : Int)) ∧ (v0.Kind ≠ (1 : Int))) (fun h => h17 h.2)) rfl rfl ?_
                  refine r_off rfl rfl rfl rfl (decide_eq_false (p := (v0.Kind ≠ (2 : Int)) ∧ (v0.Kind ≠ (1 : Int))) (fun h => h17 h.2)) rfl rfl ?_
                  refine r_off rfl rfl rfl rfl (decide_eq_false (p := (v0.Kind ≠ (2 : Int)) ∧ (v0.Kind ≠ (1 : Int))) (fun h => h17 h.2)) rfl rfl ?_
                  refine r_on rfl rfl rfl rfl (decide_eq_false (p := ((v0.Kind ≠ (4 : Int)) ∧ (v0.Text ≠ [])) ∨ ((v0.Kind ≠ (3 : Int)) ∧ (v0.Bits ≠ (0 : UInt64)))) (not_or.2 ⟨(fun h => h4 h.1), (fun h => h12 h.1)⟩)) rfl (PureD.opD (p_pkf rfl rfl (decide_eq_false (p := (v0.Kind ≠ (2 : Int)) ∧ (v0.Kind ≠ (1 : Int))) (fun h => h17 h.2)) (tb (decide_eq_false (p := ((v0.Kind ≠ (2 : Int)) ∧ (v0.Kind ≠ (1 : Int))) ∧ (v0.Int_ ≠ (0 : Int))) (fun x => (fun h => h17 h.2) x.1)).symm))) ?_
                  refine rp rfl rfl (p_pkf rfl rfl (decide_eq_false (p := ((v0.Kind ≠ (4 : Int)) ∧ (v0.Text ≠ [])) ∨ ((v0.Kind ≠ (3 : Int)) ∧ (v0.Bits ≠ (0 : UInt64)))) (not_or.2 ⟨(fun h => h4 h.1), (fun h => h12 h.1)⟩)) (tb ((or_l (p := ((v0.Kind ≠ (4 : Int)) ∧ (v0.Text ≠ [])) ∨ ((v0.Kind ≠ (3 : Int)) ∧ (v0.Bits ≠ (0 : UInt64)))) (q := ((v0.Kind ≠ (2 : Int)) ∧ (v0.Kind ≠ (1 : Int))) ∧ (v0.Int_ ≠ (0 : Int))) (not_or.2 ⟨(fun h => h4 h.1), (fun h => h12 h.1)⟩))))) ?_
                  refine rs [(1, .q 1 (0)), (48, .b (decide ((((v0.Kind ≠ (4 : Int)) ∧ (v0.Text ≠ [])) ∨ ((v0.Kind ≠ (3 : Int)) ∧ (v0.Bits ≠ (0 : UInt64)))) ∨ (((v0.Kind ≠ (2 : Int)) ∧ (v0.Kind ≠ (1 : Int))) ∧ (v0.Int_ ≠ (0 : Int))))))] [(1, .pure (GValue.cs v0))] rfl rfl rfl ?_
                  exact RunW_nil rfl
              · refine r_off rfl rfl rfl rfl (decide_eq_false (p := v0.Kind ≠ (2 : Int)) h16) rfl rfl ?_
                refine r_off rfl rfl rfl rfl (decide_eq_false (p := v0.Kind ≠ (2 : Int)) h16) rfl rfl ?_
                refine r_off rfl rfl rfl rfl (decide_eq_false (p := v0.Kind ≠ (2 : Int)) h16) rfl rfl ?_
                refine r_on rfl rfl rfl rfl (decide_eq_false (p := ((v0.Kind ≠ (4 : Int)) ∧ (v0.Text ≠ [])) ∨ ((v0.Kind ≠ (3 : Int)) ∧ (v0.Bits ≠ (0 : UInt64)))) (not_or.2 ⟨(fun h => h4 h.1), (fun h => h12 h.1)⟩)) rfl (PureD.opD (p_pkf rfl rfl (decide_eq_false (p := v0.Kind ≠ (2 : Int)) h16) (tb (decide_eq_false (p := (v0.Kind ≠ (2 : Int)) ∧ (v0.Kind ≠ (1 : Int))) (fun x => h16 x.1)).symm))) ?_
                refine r_on rfl rfl rfl rfl (decide_eq_false (p := ((v0.Kind ≠ (4 : Int)) ∧ (v0.Text ≠ [])) ∨ ((v0.Kind ≠ (3 : Int)) ∧ (v0.Bits ≠ (0 : UInt64)))) (not_or.2 ⟨(fun h => h4 h.1), (fun h => h12 h.1)⟩)) rfl (PureD.opD (p_move rfl rfl)) ?_
                refine r_off rfl rfl rfl rfl (decide_eq_false (p := (v0.Kind ≠ (2 : Int)) ∧ (v0.Kind ≠ (1 : Int))) (fun h => h16 h.1)) rfl rfl ?_
                refine r_off rfl rfl rfl rfl (decide_eq_false (p := (v0.Kind ≠ (2 : Int)) ∧ (v0.Kind ≠ (1 : Int))) (fun h => h16 h.1)) rfl rfl ?_
                refine r_off rfl rfl rfl rfl (decide_eq_false (p := (v0.Kind ≠ (2 : Int)) ∧ (v0.Kind ≠ (1 : Int))) (fun h => h16 h.1)) rfl rfl ?_
                refine r_on rfl rfl rfl rfl (decide_eq_false (p := ((v0.Kind ≠ (4 : Int)) ∧ (v0.Text ≠ [])) ∨ ((v0.Kind ≠ (3 : Int)) ∧ (v0.Bits ≠ (0 : UInt64)))) (not_or.2 ⟨(fun h => h4 h.1), (fun h => h12 h.1)⟩)) rfl (PureD.opD (p_pkf rfl rfl (decide_eq_false (p := (v0.Kind ≠ (2 : Int)) ∧ (v0.Kind ≠ (1 : Int))) (fun h => h16 h.1)) (tb (decide_eq_false (p := ((v0.Kind ≠ (2 : Int)) ∧ (v0.Kind ≠ (1 : Int))) ∧ (v0.Int_ ≠ (0 : Int))) (fun x => (fun h => h16 h.1) x.1)).symm))) ?_
                refine rp rfl rfl (p_pkf rfl rfl (decide_eq_false (p := ((v0.Kind ≠ (4 : Int)) ∧ (v0.Text ≠ [])) ∨ ((v0.Kind ≠ (3 : Int)) ∧ (v0.Bits ≠ (0 : UInt64)))) (not_or.2 ⟨(fun h => h4 h.1), (fun h => h12 h.1)⟩)) (tb ((or_l (p := ((v0.Kind ≠ (4 : Int)) ∧ (v0.Text ≠ [])) ∨ ((v0.Kind ≠ (3 : Int)) ∧ (v0.Bits ≠ (0 : UInt64)))) (q := ((v0.Kind ≠ (2 : Int)) ∧ (v0.Kind ≠ (1 : Int))) ∧ (v0.Int_ ≠ (0 : Int))) (not_or.2 ⟨(fun h => h4 h.1), (fun h => h12 h.1)⟩))))) ?_
                refine rs [(1, .q 1 (0)), (48, .b (decide ((((v0.Kind ≠ (4 : Int)) ∧ (v0.Text ≠ [])) ∨ ((v0.Kind ≠ (3 : Int)) ∧ (v0.Bits ≠ (0 : UInt64)))) ∨ (((v0.Kind ≠ (2 : Int)) ∧ (v0.Kind ≠ (1 : Int))) ∧ (v0.Int_ ≠ (0 : Int))))))] [(1, .pure (GValue.cs v0))] rfl rfl rfl ?_
                exact RunW_nil rfl
        · refine gen1 (fun t48'1 => (⟨[(1, .q 1 (0)), (48, .b t48'1)], [(1, .pure (GValue.cs v0))], 83⟩ : TS)) H ?_
          intro t48'1 H
          refine AW2_cond rfl (fun h18 => ?_) (fun h18 => ?_)
          · replace H := ite_then h18 H
            refine sg [0] rfl ?_
            refine rp rfl rfl (p_asg rfl rfl) ?_
            refine rz [(2, .i (3 : Int))] [] rfl rfl rfl ?_
            refine AW2_ret ?_
            have hz := some_elim H
            subst hz
            exact ⟨⟨res_tmp (.same _), trivial⟩, trivial⟩
          · replace H := ite_else (ne_true h18) H
            refine as2 [(1, .q 1 (0))] [(1, .pure (GValue.cs v0))] rfl rfl rfl ?_
            refine AW2_skip ?_
            refine AW2_seq ?_
            refine bindK H fun o'8 h19 H => ?_
            refine AW2_join (fun j'2 : Unit => (⟨[], [], 83⟩ : TS)) (fun r e s' => e = Go.Exit.ret ∧ ResAll Tryd.prog s' [ResultVar.tmp 2] [.i r] ∧ HFits s' []) (x := o'8) ?_ (fun j'2 hy => ?_) (fun y'7 e s' hy hs => ?_)
            · clear H
              have H := h19
              clear h19
              refine sg [0, 1] rfl ?_
              refine rp rfl rfl (u_fa rfl rfl Tryd.underlying24 rfl in_3 (Nat.succ_ne_zero _) rfl rfl (ne_of_lt (n := 0) (Nat.lt_of_lt_of_eq (by decide) (Eq.symm (GValue.len v0))))) ?_
              refine rp rfl rfl (u_ld rfl rfl Tryd.underlying3 rfl rfl ((Sub.refl _).trans (GValue.sub0 v0))) ?_
              refine rz [(1, .q 1 (0)), (50, .i v0.Kind)] [(1, .pure (GValue.cs v0))] rfl rfl rfl ?_
              refine AW2_block ?_
              refine sg [0, 1] rfl ?_
              refine rp rfl rfl (p_ieq rfl rfl rfl) ?_
              refine rp rfl rfl (p_asg rfl rfl) ?_
              refine rz [(1, .q 1 (0)), (50, .i v0.Kind), (51, .b (decide (v0.Kind = (1 : Int))))] [(1, .pure (GValue.cs v0))] rfl rfl rfl ?_
              refine AW2_if (p := v0.Kind = (1 : Int)) rfl (fun h20 => ?_) (fun h20 => ?_)
              · replace H := ite_then h20 H
                refine AW2_seq ?_
                refine AW2_mid (⟨[(60, .b (decide ((v0.Int_ ≠ (0 : Int)) ∧ (v0.Int_ ≠ (1 : Int)))))], [], 83⟩ : TS) ?_ ?_
                · refine AW2_reg [0, 1, 2, 3, 4, 5, 6, 7] rfl ?_
                  refine rp rfl rfl (u_fa rfl rfl Tryd.underlying24 rfl in_3 (Nat.succ_ne_zero _) rfl rfl (ne_of_lt (n := 0) (Nat.lt_of_lt_of_eq (by decide) (Eq.symm (GValue.len v0))))) ?_
                  refine rp rfl rfl (u_ld rfl rfl Tryd.underlying3 rfl rfl ((Sub.refl _).trans (GValue.sub1 v0))) ?_
                  refine rp rfl rfl (p_ine rfl rfl rfl) ?_
                  refine rp rfl rfl (p_move rfl rfl) ?_
                  refine (Classical.em (v0.Int_ ≠ (0 : Int))).elim (fun h21 => ?_) (fun h21 => ?_)
                  · refine r_on rfl rfl rfl rfl (decide_eq_true (p := v0.Int_ ≠ (0 : Int)) h21) rfl (PureD.opD (u_fa rfl rfl Tryd.underlying24 rfl in_3 (Nat.succ_ne_zero _) rfl rfl (ne_of_lt (n := 0) (Nat.lt_of_lt_of_eq (by decide) (Eq.symm (GValue.len v0)))))) ?_
                    refine r_on rfl rfl rfl rfl (decide_eq_true (p := v0.Int_ ≠ (0 : Int)) h21) rfl (PureD.opD (u_ld rfl rfl Tryd.underlying3 rfl rfl ((Sub.refl _).trans (GValue.sub1 v0)))) ?_
                    refine r_on rfl rfl rfl rfl (decide_eq_true (p := v0.Int_ ≠ (0 : Int)) h21) rfl (PureD.opD (p_ine rfl rfl rfl)) ?_
                    refine rp rfl rfl (p_pkt rfl rfl (decide_eq_true (p := v0.Int_ ≠ (0 : Int)) h21) (tb ((and_l (p := v0.Int_ ≠ (0 : Int)) (q := v0.Int_ ≠ (1 : Int)) h21)))) ?_
                    refine rs [(60, .b (decide ((v0.Int_ ≠ (0 : Int)) ∧ (v0.Int_ ≠ (1 : Int)))))] [] rfl rfl rfl ?_
                    exact RunW_nil rfl
                  · refine r_off rfl rfl rfl rfl (decide_eq_false (p := v0.Int_ ≠ (0 : Int)) h21) rfl rfl ?_
                    refine r_off rfl rfl rfl rfl (decide_eq_false (p := v0.Int_ ≠ (0 : Int)) h21) rfl rfl ?_
                    refine r_off rfl rfl rfl rfl (decide_eq_false (p := v0.Int_ ≠ (0 : Int)) h21) rfl rfl ?_
                    refine rp rfl rfl (p_pkf rfl rfl (decide_eq_false (p := v0.Int_ ≠ (0 : Int)) h21) (tb (decide_eq_false (p := (v0.Int_ ≠ (0 : Int)) ∧ (v0.Int_ ≠ (1 : Int))) (fun x => h21 x.1)).symm)) ?_
                    refine rs [(60, .b (decide ((v0.Int_ ≠ (0 : Int)) ∧ (v0.Int_ ≠ (1 : Int)))))] [] rfl rfl rfl ?_
                    exact RunW_nil rfl
                · refine AW2_if (p := (v0.Int_ ≠ (0 : Int)) ∧ (v0.Int_ ≠ (1 : Int))) rfl (fun h22 => ?_) (fun h22 => ?_)
                  · replace H := ite_then h22 H
                    refine sg [0] rfl ?_
                    refine rp rfl rfl (p_asg rfl rfl) ?_
                    refine rz [(2, .i (3 : Int))] [] rfl rfl rfl ?_
                    refine AW2_ret ?_
                    have hz := some_elim H
                    subst hz
                    exact ⟨rfl, ⟨res_tmp (.same _), trivial⟩, trivial⟩
                  · replace H := ite_else h22 H
                    refine as2 [] [] rfl rfl rfl ?_
                    refine AW2_skip ?_
                    have hz := some_elim H
                    subst hz
                    exact ⟨rfl, rfl⟩
              · replace H := ite_else h20 H
                refine sg [0, 1] rfl ?_
                refine rp rfl rfl (p_ieq rfl rfl rfl) ?_
                refine rp rfl rfl (p_asg rfl rfl) ?_
                refine rz [(1, .q 1 (0)), (50, .i v0.Kind), (61, .b (decide (v0.Kind = (3 : Int))))] [(1, .pure (GValue.cs v0))] rfl rfl rfl ?_
                refine AW2_if (p := v0.Kind = (3 : Int)) rfl (fun h23 => ?_) (fun h23 => ?_)
                · replace H := ite_then h23 H
                  refine sg [0, 1, 2, 3] rfl ?_
                  refine rp rfl rfl (u_fa rfl rfl Tryd.underlying24 rfl in_22 (Nat.succ_ne_zero _) rfl rfl (ne_of_lt (n := 0) (Nat.lt_of_lt_of_eq (by decide) (Eq.symm (GValue.len v0))))) ?_
                  refine rp rfl rfl (u_ld rfl rfl Tryd.underlying22 rfl rfl ((Sub.refl _).trans (GValue.sub2 v0))) ?_
                  refine rp rfl rfl (p_frombits (a := v0.Bits) rfl rfl rfl Tryd.func38 rfl rfl (by kernel_rfl) (by kernel_rfl) rfl) ?_
                  refine rp rfl rfl (p_asg rfl rfl) ?_
                  refine rz [(3, .p (AV.f64 v0.Bits))] [] rfl rfl rfl ?_
                  refine AW2_seq ?_
                  refine bindK H fun g'5 h28 H => ?_
                  refine AW2_mid (⟨[(76, .b g'5)], [], 83⟩ : TS) ?_ ?_
                  · clear H
                    have H := h28
                    clear h28
                    refine AW2_reg [0, 1, 2, 3, 4, 5, 6, 7, 8, 9, 10] rfl ?_
                    refine rp rfl rfl (p_move rfl rfl) ?_
                    refine rp rfl rfl (p_move rfl rfl) ?_
                    refine rp rfl rfl (p_fbin (a := v0.Bits) (b := v0.Bits) (v := fneq v0.Bits v0.Bits) rfl rfl rfl rfl) ?_
                    refine rp rfl rfl (p_move rfl rfl) ?_
                    refine (Classical.em ((fneq v0.Bits v0.Bits) = true)).elim (fun h25 => ?_) (fun h25 => ?_)
                    · replace H := ite_then h25 H
                      refine r_off rfl rfl rfl rfl h25 rfl rfl ?_
                      refine r_off rfl rfl rfl rfl h25 rfl rfl ?_
                      refine r_off rfl rfl rfl rfl h25 rfl rfl ?_
                      refine r_off2 rfl rfl rfl rfl rfl rfl ?_
                      refine r_off2 rfl rfl rfl rfl rfl rfl ?_
                      refine r_off rfl rfl rfl rfl h25 rfl rfl ?_
                      refine rp rfl rfl (p_pkt rfl rfl h25 (.same _)) ?_
                      refine rs [(76, .b true)] [] rfl rfl rfl ?_
                      have hz := some_elim H
                      subst hz
                      exact RunW_nil rfl
                    · replace H := ite_else h25 H
                      refine r_on rfl rfl rfl rfl (bfalse h25) rfl (PureD.opD (p_move rfl rfl)) ?_
                      refine r_on rfl rfl rfl rfl (bfalse h25) rfl (PureD.opD (p_fbin (a := v0.Bits) (b := (0 : F64)) (v := feq v0.Bits (0 : F64)) rfl rfl rfl rfl)) ?_
                      refine r_on rfl rfl rfl rfl (bfalse h25) rfl (PureD.opD (p_move rfl rfl)) ?_
                      refine (Classical.em ((feq v0.Bits (0 : F64)) = true)).elim (fun h26 => ?_) (fun h26 => ?_)
                      · replace H := ite_then h26 H
                        refine rn rfl rfl rfl rfl h26 rfl (p_move rfl rfl) ?_
                        refine bindK H fun r'4 h27 H => ?_
                        refine rn rfl rfl rfl rfl h26 rfl (p_callp rfl rfl rfl Tryd.func39 rfl rfl (g_math_Signbit_ac h27) ⟨rfl, trivial⟩) ?_
                        refine r_on rfl rfl rfl rfl (bfalse h25) rfl (PureD.opD (p_pkt rfl rfl h26 (.same _))) ?_
                        refine rp rfl rfl (p_pkf rfl rfl (bfalse h25) (.same _)) ?_
                        refine rs [(76, .b r'4)] [] rfl rfl rfl ?_
                        have hz := some_elim H
                        subst hz
                        exact RunW_nil rfl
                      · replace H := ite_else h26 H
                        refine r_off rfl rfl rfl rfl (bfalse h26) rfl rfl ?_
                        refine r_off rfl rfl rfl rfl (bfalse h26) rfl rfl ?_
                        refine r_on rfl rfl rfl rfl (bfalse h25) rfl (PureD.opD (p_pkf rfl rfl (bfalse h26) (.same _))) ?_
                        refine rp rfl rfl (p_pkf rfl rfl (bfalse h25) (.same _)) ?_
                        refine rs [(76, .b false)] [] rfl rfl rfl ?_
                        have hz := some_elim H
                        subst hz
                        exact RunW_nil rfl
                  · refine AW2_cond rfl (fun h29 => ?_) (fun h29 => ?_)
                    · replace H := ite_then h29 H
                      refine sg [0] rfl ?_
                      refine rp rfl rfl (p_asg rfl rfl) ?_
                      refine rz [(2, .i (3 : Int))] [] rfl rfl rfl ?_
                      refine AW2_ret ?_
                      have hz := some_elim H
                      subst hz
                      exact ⟨rfl, ⟨res_tmp (.same _), trivial⟩, trivial⟩
                    · replace H := ite_else (ne_true h29) H
                      refine as2 [] [] rfl rfl rfl ?_
                      refine AW2_skip ?_
                      have hz := some_elim H
                      subst hz
                      exact ⟨rfl, rfl⟩
                · replace H := ite_else h23 H
                  refine sg [0, 1] rfl ?_
                  refine rp rfl rfl (p_ieq rfl rfl rfl) ?_
                  refine rp rfl rfl (p_asg rfl rfl) ?_
                  refine rz [(1, .q 1 (0)), (77, .b (decide (v0.Kind = (4 : Int))))] [(1, .pure (GValue.cs v0))] rfl rfl rfl ?_
                  refine AW2_if (p := v0.Kind = (4 : Int)) rfl (fun h31 => ?_) (fun h31 => ?_)
                  · replace H := ite_then h31 H
                    refine sg [0, 1, 2, 3] rfl ?_
                    refine rp rfl rfl (u_fa rfl rfl Tryd.underlying24 rfl in_9 (Nat.succ_ne_zero _) rfl rfl (ne_of_lt (n := 0) (Nat.lt_of_lt_of_eq (by decide) (Eq.symm (GValue.len v0))))) ?_
                    refine rp rfl rfl (u_ld rfl rfl Tryd.underlying9 rfl rfl ((Sub.refl _).trans (GValue.sub3 v0))) ?_
                    refine bindK H fun r'6 h32 H => ?_
                    refine rp rfl rfl (p_callp rfl rfl rfl Tryd.func40 rfl rfl (g_utf8_ValidString_ac h32) ⟨rfl, trivial⟩) ?_
                    refine rp rfl rfl (p_not rfl rfl) ?_
                    refine rz [(82, .b (!r'6))] [] rfl rfl rfl ?_
                    refine AW2_cond rfl (fun h33 => ?_) (fun h33 => ?_)
                    · replace H := ite_then h33 H
                      refine sg [0] rfl ?_
                      refine rp rfl rfl (p_asg rfl rfl) ?_
                      refine rz [(2, .i (3 : Int))] [] rfl rfl rfl ?_
                      refine AW2_ret ?_
                      have hz := some_elim H
                      subst hz
                      exact ⟨rfl, ⟨res_tmp (.same _), trivial⟩, trivial⟩
                    · replace H := ite_else (ne_true h33) H
                      refine as2 [] [] rfl rfl rfl ?_
                      refine AW2_skip ?_
                      have hz := some_elim H
                      subst hz
                      exact ⟨rfl, rfl⟩
                  · replace H := ite_else h31 H
                    refine as2 [] [] rfl rfl rfl ?_
                    refine AW2_skip ?_
                    have hz := some_elim H
                    subst hz
                    exact ⟨rfl, rfl⟩
            · subst hy
              refine sg [0] rfl ?_
              refine rp rfl rfl (p_asg rfl rfl) ?_
              refine rz [(2, .i (0 : Int))] [] rfl rfl rfl ?_
              refine AW2_ret ?_
              have hz := some_elim H
              subst hz
              exact ⟨⟨res_tmp (.same _), trivial⟩, trivial⟩
            · subst hy
              obtain ⟨rfl, hs⟩ := hs
              have hz := some_elim H
              subst hz
              exact ⟨hs.1, hs.2⟩

/-! chirographref.badReal -/
noncomputable def g_ref_badReal (b0 : UInt64) : Option (Bool) :=
  some (decide ((b0 = (9223372036854775808 : UInt64)) ∨ ((18437736874454810624 : UInt64) < shl_u64 b0 1)))
set_option maxHeartbeats 4000000 in
set_option maxRecDepth 100000 in
theorem g_ref_badReal_ac {b0 : UInt64} {r : Bool} (H : g_ref_badReal b0 = some r) : ACp Tryd.prog 41 [(AV.u64 b0)] (AV.bool r) := by
  refine ACp_of (AC2_of_body (vs := [.b r]) Tryd.func41 rfl rfl (Nat.le_of_ble_eq_true rfl) rfl ?_) (fun _ => .same _)
  unfold g_ref_badReal at H
  refine as2 [(0, .p (AV.u64 b0))] [] rfl rfl rfl ?_
  refine sg [0] rfl ?_
  refine rp rfl rfl (p_asg rfl rfl) ?_
  refine rz [(0, .p (AV.u64 b0))] [] rfl rfl rfl ?_
  refine AW2_seq ?_
  refine AW2_mid (⟨[(2, .b (decide ((b0 = (9223372036854775808 : UInt64)) ∨ ((18437736874454810624 : UInt64) < shl_u64 b0 1))))], [], 10⟩ : TS) ?_ ?_
  · refine AW2_reg [0, 1, 2, 3, 4, 5, 6, 7] rfl ?_
    refine rp rfl rfl (p_move rfl rfl) ?_
    refine rp rfl rfl (p_u64eq (a := b0) (b := (9223372036854775808 : UInt64)) rfl rfl rfl) ?_
    refine rp rfl rfl (p_move rfl rfl) ?_
    refine (Classical.em (b0 = (9223372036854775808 : UInt64))).elim (fun h1 => ?_) (fun h1 => ?_)
    · refine r_off rfl rfl rfl rfl (decide_eq_true (p := b0 = (9223372036854775808 : UInt64)) h1) rfl rfl ?_
      refine r_off rfl rfl rfl rfl (decide_eq_true (p := b0 = (9223372036854775808 : UInt64)) h1) rfl rfl ?_
      refine r_off rfl rfl rfl rfl (decide_eq_true (p := b0 = (9223372036854775808 : UInt64)) h1) rfl rfl ?_
      refine rp rfl rfl (p_pkt rfl rfl (decide_eq_true (p := b0 = (9223372036854775808 : UInt64)) h1) (tb (decide_eq_true (p := (b0 = (9223372036854775808 : UInt64)) ∨ ((18437736874454810624 : UInt64) < shl_u64 b0 1)) (Or.inl h1)).symm)) ?_
      refine rp rfl rfl (p_asg rfl rfl) ?_
      refine rs [(2, .b (decide ((b0 = (9223372036854775808 : UInt64)) ∨ ((18437736874454810624 : UInt64) < shl_u64 b0 1))))] [] rfl rfl rfl ?_
      exact RunW_nil rfl
    · refine r_on rfl rfl rfl rfl (decide_eq_false (p := b0 = (9223372036854775808 : UInt64)) h1) rfl (PureD.opD (p_move rfl rfl)) ?_
      refine r_on rfl rfl rfl rfl (decide_eq_false (p := b0 = (9223372036854775808 : UInt64)) h1) rfl (PureD.opD (p_u64shl (n := 1) rfl rfl rfl rfl)) ?_
      refine r_on rfl rfl rfl rfl (decide_eq_false (p := b0 = (9223372036854775808 : UInt64)) h1) rfl (PureD.opD (p_u64gt (a := shl_u64 b0 1) (b := (18437736874454810624 : UInt64)) rfl rfl rfl)) ?_
      refine rp rfl rfl (p_pkf rfl rfl (decide_eq_false (p := b0 = (9223372036854775808 : UInt64)) h1) (tb ((or_l (p := b0 = (9223372036854775808 : UInt64)) (q := (18437736874454810624 : UInt64) < shl_u64 b0 1) h1)))) ?_
      refine rp rfl rfl (p_asg rfl rfl) ?_
      refine rs [(2, .b (decide ((b0 = (9223372036854775808 : UInt64)) ∨ ((18437736874454810624 : UInt64) < shl_u64 b0 1))))] [] rfl rfl rfl ?_
      exact RunW_nil rfl
  · refine AW2_ret ?_
    have hz := some_elim H
    subst hz
    exact ⟨⟨res_tmp (.same _), trivial⟩, trivial⟩

/-! chirographref.ValueFault -/
noncomputable def g_ref_ValueFault (v0 : GValue) : Option (Int) :=
  (show Option (Int ⊕ GValue) from (if v0.Kind = (0 : Int) then some (.inr ({ GValue.zero with Kind := v0.Kind })) else ((if v0.Kind = (1 : Int) then some (decide (v0.Kind = (1 : Int))) else some (decide (v0.Kind = (2 : Int))))).bind fun j'2 => (if j'2 = true then some (.inr ({ { GValue.zero with Kind := v0.Kind } with Int_ := v0.Int_ })) else (if v0.Kind = (3 : Int) then some (.inr ({ { GValue.zero with Kind := v0.Kind } with Bits := v0.Bits })) else (if v0.Kind = (4 : Int) then some (.inr ({ { GValue.zero with Kind := v0.Kind } with Text := v0.Text })) else some (.inl (2 : Int))))))).bind fun o'12 => match o'12 with | .inl y'3 => some y'3 | .inr j'1 => (if (v0.Text.length : Int) > (40 : Int) then some (1 : Int) else ((if v0 ≠ j'1 then some true else (if v0.Kind = (1 : Int) then (if (1 : UInt64) < UInt64.ofInt v0.Int_ then some true else (if v0.Kind = (3 : Int) then (g_ref_badReal v0.Bits).bind fun r'5 => (if r'5 = true then some true else (g_utf8_ValidString v0.Text).bind fun r'6 => some (!r'6)) else (g_utf8_ValidString v0.Text).bind fun r'7 => some (!r'7))) else (if v0.Kind = (3 : Int) then (g_ref_badReal v0.Bits).bind fun r'8 => (if r'8 = true then some true else (g_utf8_ValidString v0.Text).bind fun r'9 => some (!r'9)) else (g_utf8_ValidString v0.Text).bind fun r'10 => some (!r'10))))).bind fun g'11 => (if g'11 = true then some (3 : Int) else some (0 : Int)))
set_option maxHeartbeats 4000000 in
set_option maxRecDepth 100000 in
theorem g_ref_ValueFault_ac {v0 : GValue} {r : Int} (H : g_ref_ValueFault v0 = some r) : ACp Tryd.prog 15 [(.agg (GValue.cs v0))] (AV.int r) := by
  refine ACp_of (AC2_of_body (vs := [.i r]) Tryd.func15 rfl rfl (Nat.le_of_ble_eq_true rfl) rfl ?_) (fun _ => .same _)
  unfold g_ref_ValueFault at H
  refine as2 [(0, .g (GValue.cs v0))] [] rfl rfl rfl ?_
  refine sg [0, 1] rfl ?_
  refine r_op rfl rfl (MakeD.opD (n_box 1 rfl rfl) rfl rfl rfl rfl) ?_
  refine rp rfl rfl (p_asg rfl rfl) ?_
  refine rz [(1, .q 1 (0))] [(1, .pure (GValue.cs v0))] rfl rfl rfl ?_
  refine sg [0, 1, 2, 3, 4] rfl ?_
  refine rp rfl rfl (u_fa rfl rfl Tryd.underlying24 rfl in_3 (Nat.succ_ne_zero _) rfl rfl (ne_of_lt (n := 0) (Nat.lt_of_lt_of_eq (by decide) (Eq.symm (GValue.len v0))))) ?_
  refine rp rfl rfl (u_ld rfl rfl Tryd.underlying3 rfl rfl ((Sub.refl _).trans (GValue.sub0 v0))) ?_
  refine rp rfl rfl (u_bld rfl in_24 one_24 zc_24 pl_24 rfl (af_cons rfl rfl (GValue.upd0 GValue.zero v0.Kind) rfl)) ?_
  refine r_op rfl rfl (MakeD.opD (u_alloc 3 rfl in_24 one_24 zc_24) rfl rfl rfl rfl) ?_
  refine r_op rfl rfl (u_st rfl rfl rfl rfl rfl in_24 (GValue.len ({ GValue.zero with Kind := v0.Kind })) (ne_of_lt (n := 0) (Nat.lt_of_lt_of_eq (by decide) (Eq.symm (GValue.len GValue.zero)))) (Upd.refl ((GValue.len ({ GValue.zero with Kind := v0.Kind })).trans (GValue.len GValue.zero).symm))) ?_
  refine rz [(1, .q 1 (0)), (3, .q 3 (0))] [(1, .pure (GValue.cs v0)), (3, .pure (GValue.cs ({ GValue.zero with Kind := v0.Kind })))] rfl rfl rfl ?_
  refine AW2_seq ?_
  refine bindK H fun o'12 h1 H => ?_
  refine AW2_join (fun j'1 : GValue => (⟨[(1, .q 1 (0)), (3, .q 3 (0))], [(1, .pure (GValue.cs v0)), (3, .pure (GValue.cs j'1))], 61⟩ : TS)) (fun r e s' => e = Go.Exit.ret ∧ ResAll Tryd.prog s' [ResultVar.tmp 2] [.i r] ∧ HFits s' []) (x := o'12) ?_ (fun j'1 hy => ?_) (fun y'3 e s' hy hs => ?_)
  · clear H
    have H := h1
    clear h1
    refine sg [0, 1] rfl ?_
    refine rp rfl rfl (u_fa rfl rfl Tryd.underlying24 rfl in_3 (Nat.succ_ne_zero _) rfl rfl (ne_of_lt (n := 0) (Nat.lt_of_lt_of_eq (by decide) (Eq.symm (GValue.len v0))))) ?_
    refine rp rfl rfl (u_ld rfl rfl Tryd.underlying3 rfl rfl ((Sub.refl _).trans (GValue.sub0 v0))) ?_
    refine rz [(1, .q 1 (0)), (3, .q 3 (0)), (8, .i v0.Kind)] [(1, .pure (GValue.cs v0)), (3, .pure (GValue.cs ({ GValue.zero with Kind := v0.Kind })))] rfl rfl rfl ?_
    refine AW2_block ?_
    refine sg [0, 1] rfl ?_
    refine rp rfl rfl (p_ieq rfl rfl rfl) ?_
    refine rp rfl rfl (p_asg rfl rfl) ?_
    refine rz [(1, .q 1 (0)), (3, .q 3 (0)), (8, .i v0.Kind), (9, .b (decide (v0.Kind = (0 : Int))))] [(1, .pure (GValue.cs v0)), (3, .pure (GValue.cs ({ GValue.zero with Kind := v0.Kind })))] rfl rfl rfl ?_
    refine AW2_if (p := v0.Kind = (0 : Int)) rfl (fun h2 => ?_) (fun h2 => ?_)
    · replace H := ite_then h2 H
      refine as2 [(1, .q 1 (0)), (3, .q 3 (0))] [(1, .pure (GValue.cs v0)), (3, .pure (GValue.cs ({ GValue.zero with Kind := v0.Kind })))] rfl rfl rfl ?_
      refine AW2_skip ?_
      have hz := some_elim H
      subst hz
      exact ⟨rfl, rfl⟩
    · replace H := ite_else h2 H
      refine AW2_seq ?_
      refine bindK H fun j'2 h3 H => ?_
      refine AW2_mid (⟨[(1, .q 1 (0)), (3, .q 3 (0)), (8, .i v0.Kind), (11, .b j'2)], [(1, .pure (GValue.cs v0)), (3, .pure (GValue.cs ({ GValue.zero with Kind := v0.Kind })))], 61⟩ : TS) ?_ ?_
      · clear H
        have H := h3
        clear h3
        refine sg [0, 1] rfl ?_
        refine rp rfl rfl (p_ieq rfl rfl rfl) ?_
        refine rp rfl rfl (p_asg rfl rfl) ?_
        refine rz [(1, .q 1 (0)), (3, .q 3 (0)), (8, .i v0.Kind), (11, .b (decide (v0.Kind = (1 : Int))))] [(1, .pure (GValue.cs v0)), (3, .pure (GValue.cs ({ GValue.zero with Kind := v0.Kind })))] rfl rfl rfl ?_
        refine AW2_if (p := v0.Kind = (1 : Int)) rfl (fun h4 => ?_) (fun h4 => ?_)
        · replace H := ite_then h4 H
          refine AW2_skip ?_
          have hz := some_elim H
          subst hz
          exact rfl
        · replace H := ite_else h4 H
          refine AW2_reg [0, 1] rfl ?_
          refine rp rfl rfl (p_ieq rfl rfl rfl) ?_
          refine rp rfl rfl (p_asg rfl rfl) ?_
          refine rz [(1, .q 1 (0)), (3, .q 3 (0)), (8, .i v0.Kind), (11, .b (decide (v0.Kind = (2 : Int))))] [(1, .pure (GValue.cs v0)), (3, .pure (GValue.cs ({ GValue.zero with Kind := v0.Kind })))] rfl rfl rfl ?_
          have hz := some_elim H
          subst hz
          exact rfl
      · refine AW2_cond rfl (fun h5 => ?_) (fun h5 => ?_)
        · replace H := ite_then h5 H
          refine AW2_reg [0, 1, 2, 3] rfl ?_
          refine rp rfl rfl (u_fa rfl rfl Tryd.underlying24 rfl in_3 (Nat.succ_ne_zero _) rfl rfl (ne_of_lt (n := 0) (Nat.lt_of_lt_of_eq (by decide) (Eq.symm (GValue.len v0))))) ?_
          refine rp rfl rfl (u_ld rfl rfl Tryd.underlying3 rfl rfl ((Sub.refl _).trans (GValue.sub1 v0))) ?_
          refine rp rfl rfl (u_fa rfl rfl Tryd.underlying24 rfl in_3 (Nat.succ_ne_zero _) rfl rfl (ne_of_lt (n := 0) (Nat.lt_of_lt_of_eq (by decide) (Eq.symm (GValue.len ({ GValue.zero with Kind := v0.Kind })))))) ?_
          refine r_op rfl rfl (u_st rfl rfl rfl rfl rfl in_3 rfl (ne_of_lt (n := 0) (Nat.lt_of_lt_of_eq (by decide) (Eq.symm (GValue.len ({ GValue.zero with Kind := v0.Kind }))))) (Upd.trans (Sub.refl _) (GValue.upd1 ({ GValue.zero with Kind := v0.Kind }) v0.Int_) (Upd.refl ((GValue.len ({ { GValue.zero with Kind := v0.Kind } with Int_ := v0.Int_ })).trans (GValue.len ({ GValue.zero with Kind := v0.Kind })).symm)))) ?_
          refine rz [(1, .q 1 (0)), (3, .q 3 (0))] [(1, .pure (GValue.cs v0)), (3, .pure (GValue.cs ({ { GValue.zero with Kind := v0.Kind } with Int_ := v0.Int_ })))] rfl rfl rfl ?_
          have hz := some_elim H
          subst hz
          exact ⟨rfl, rfl⟩
        · replace H := ite_else (ne_true h5) H
          refine sg [0, 1] rfl ?_
          refine rp rfl rfl (p_ieq rfl rfl rfl) ?_
          refine rp rfl rfl (p_asg rfl rfl) ?_
          refine rz [(1, .q 1 (0)), (3, .q 3 (0)), (8, .i v0.Kind), (17, .b (decide (v0.Kind = (3 : Int))))] [(1, .pure (GValue.cs v0)), (3, .pure (GValue.cs ({ GValue.zero with Kind := v0.Kind })))] rfl rfl rfl ?_
          refine AW2_if (p := v0.Kind = (3 : Int)) rfl (fun h6 => ?_) (fun h6 => ?_)
          · replace H := ite_then h6 H
            refine AW2_reg [0, 1, 2, 3] rfl ?_
            refine rp rfl rfl (u_fa rfl rfl Tryd.underlying24 rfl in_22 (Nat.succ_ne_zero _) rfl rfl (ne_of_lt (n := 0) (Nat.lt_of_lt_of_eq (by decide) (Eq.symm (GValue.len v0))))) ?_
            refine rp rfl rfl (u_ld rfl rfl Tryd.underlying22 rfl rfl ((Sub.refl _).trans (GValue.sub2 v0))) ?_
            refine rp rfl rfl (u_fa rfl rfl Tryd.underlying24 rfl in_22 (Nat.succ_ne_zero _) rfl rfl (ne_of_lt (n := 0) (Nat.lt_of_lt_of_eq (by decide) (Eq.symm (GValue.len ({ GValue.zero with Kind := v0.Kind })))))) ?_
            refine r_op rfl rfl (u_st rfl rfl rfl rfl rfl in_22 rfl (ne_of_lt (n := 0) (Nat.lt_of_lt_of_eq (by decide) (Eq.symm (GValue.len ({ GValue.zero with Kind := v0.Kind }))))) (Upd.trans (Sub.refl _) (GValue.upd2 ({ GValue.zero with Kind := v0.Kind }) v0.Bits) (Upd.refl ((GValue.len ({ { GValue.zero with Kind := v0.Kind } with Bits := v0.Bits })).trans (GValue.len ({ GValue.zero with Kind := v0.Kind })).symm)))) ?_
            refine rz [(1, .q 1 (0)), (3, .q 3 (0))] [(1, .pure (GValue.cs v0)), (3, .pure (GValue.cs ({ { GValue.zero with Kind := v0.Kind } with Bits := v0.Bits })))] rfl rfl rfl ?_
            have hz := some_elim H
            subst hz
            exact ⟨rfl, rfl⟩
          · replace H := ite_else h6 H
            refine sg [0, 1] rfl ?_
            refine rp rfl rfl (p_ieq rfl rfl rfl) ?_
            refine rp rfl rfl (p_asg rfl rfl) ?_
            refine rz [(1, .q 1 (0)), (3, .q 3 (0)), (22, .b (decide (v0.Kind = (4 : Int))))] [(1, .pure (GValue.cs v0)), (3, .pure (GValue.cs ({ GValue.zero with Kind := v0.Kind })))] rfl rfl rfl ?_
            refine AW2_if (p := v0.Kind = (4 : Int)) rfl (fun h7 => ?_) (fun h7 => ?_)
            · replace H := ite_then h7 H
              refine AW2_reg [0, 1, 2, 3] rfl ?_
              refine rp rfl rfl (u_fa rfl rfl Tryd.underlying24 rfl in_9 (Nat.succ_ne_zero _) rfl rfl (ne_of_lt (n := 0) (Nat.lt_of_lt_of_eq (by decide) (Eq.symm (GValue.len v0))))) ?_
              refine rp rfl rfl (u_ld rfl rfl Tryd.underlying9 rfl rfl ((Sub.refl _).trans (GValue.sub3 v0))) ?_
              refine rp rfl rfl (u_fa rfl rfl Tryd.underlying24 rfl in_9 (Nat.succ_ne_zero _) rfl rfl (ne_of_lt (n := 0) (Nat.lt_of_lt_of_eq (by decide) (Eq.symm (GValue.len ({ GValue.zero with Kind := v0.Kind })))))) ?_
              refine r_op rfl rfl (u_st rfl rfl rfl rfl rfl in_9 rfl (ne_of_lt (n := 0) (Nat.lt_of_lt_of_eq (by decide) (Eq.symm (GValue.len ({ GValue.zero with Kind := v0.Kind }))))) (Upd.trans (Sub.refl _) (GValue.upd3 ({ GValue.zero with Kind := v0.Kind }) v0.Text) (Upd.refl ((GValue.len ({ { GValue.zero with Kind := v0.Kind } with Text := v0.Text })).trans (GValue.len ({ GValue.zero with Kind := v0.Kind })).symm)))) ?_
              refine rz [(1, .q 1 (0)), (3, .q 3 (0))] [(1, .pure (GValue.cs v0)), (3, .pure (GValue.cs ({ { GValue.zero with Kind := v0.Kind } with Text := v0.Text })))] rfl rfl rfl ?_
              have hz := some_elim H
              subst hz
              exact ⟨rfl, rfl⟩
            · replace H := ite_else h7 H
              refine sg [0] rfl ?_
              refine rp rfl rfl (p_asg rfl rfl) ?_
              refine rz [(2, .i (2 : Int))] [] rfl rfl rfl ?_
              refine AW2_ret ?_
              have hz := some_elim H
              subst hz
              exact ⟨rfl, ⟨res_tmp (.same _), trivial⟩, trivial⟩
  · subst hy
    refine AW2_seq ?_
    refine sg [0, 1, 2, 3] rfl ?_
    refine rp rfl rfl (u_fa rfl rfl Tryd.underlying24 rfl in_9 (Nat.succ_ne_zero _) rfl rfl (ne_of_lt (n := 0) (Nat.lt_of_lt_of_eq (by decide) (Eq.symm (GValue.len v0))))) ?_
    refine rp rfl rfl (u_ld rfl rfl Tryd.underlying9 rfl rfl ((Sub.refl _).trans (GValue.sub3 v0))) ?_
    refine rp rfl rfl (p_lent rfl Tryd.underlying9 rfl) ?_
    refine rp rfl rfl (p_bin rfl rfl rfl rfl) ?_
    refine rz [(1, .q 1 (0)), (3, .q 3 (0)), (30, .b (decide ((v0.Text.length : Int) > (40 : Int))))] [(1, .pure (GValue.cs v0)), (3, .pure (GValue.cs j'1))] rfl rfl rfl ?_
    refine AW2_if (p := (v0.Text.length : Int) > (40 : Int)) rfl (fun h8 => ?_) (fun h8 => ?_)
    · replace H := ite_then h8 H
      refine sg [0] rfl ?_
      refine rp rfl rfl (p_asg rfl rfl) ?_
      refine rz [(2, .i (1 : Int))] [] rfl rfl rfl ?_
      refine AW2_ret ?_
      have hz := some_elim H
      subst hz
      exact ⟨⟨res_tmp (.same _), trivial⟩, trivial⟩
    · replace H := ite_else h8 H
      refine as2 [(1, .q 1 (0)), (3, .q 3 (0))] [(1, .pure (GValue.cs v0)), (3, .pure (GValue.cs j'1))] rfl rfl rfl ?_
      refine AW2_skip ?_
      refine AW2_seq ?_
      refine AW2_seq ?_
      refine bindK H fun g'11 h23 H => ?_
      refine AW2_mid (⟨[(60, .b g'11)], [], 61⟩ : TS) ?_ ?_
      · clear H
        have H := h23
        clear h23
        refine AW2_reg [0, 1, 2, 3, 4, 5, 6, 7, 8, 9, 10, 11, 12, 13, 14, 15, 16, 17, 18, 19, 20, 21, 22, 23, 24, 25, 26, 27, 28, 29] rfl ?_
        refine rp rfl rfl (u_lda rfl rfl Tryd.underlying24 rfl in_24 rfl (Nat.succ_pos _) (Sub.refl _) (GValue.len v0)) ?_
        refine rp rfl rfl (u_lda rfl rfl Tryd.underlying24 rfl in_24 rfl (Nat.succ_pos _) (Sub.refl _) (GValue.len j'1)) ?_
        refine rp rfl rfl (p_nea (a := v0) (b := j'1) rfl eq_24 rfl (by kernel_rfl) rfl rfl) ?_
        refine rp rfl rfl (p_move rfl rfl) ?_
        refine (Classical.em (v0 ≠ j'1)).elim (fun h10 => ?_) (fun h10 => ?_)
        · replace H := ite_then h10 H
          refine r_off rfl rfl rfl rfl (decide_eq_true (p := v0 ≠ j'1) h10) rfl rfl ?_
          refine r_off rfl rfl rfl rfl (decide_eq_true (p := v0 ≠ j'1) h10) rfl rfl ?_
          refine r_off rfl rfl rfl rfl (decide_eq_true (p := v0 ≠ j'1) h10) rfl rfl ?_
          refine r_off rfl rfl rfl rfl (decide_eq_true (p := v0 ≠ j'1) h10) rfl rfl ?_
          refine r_off2 rfl rfl rfl rfl rfl rfl ?_
          refine r_off2 rfl rfl rfl rfl rfl rfl ?_
          refine r_off2 rfl rfl rfl rfl rfl rfl ?_
          refine r_off2 rfl rfl rfl rfl rfl rfl ?_
          refine r_off rfl rfl rfl rfl (decide_eq_true (p := v0 ≠ j'1) h10) rfl rfl ?_
          refine rp rfl rfl (p_pkt rfl rfl (decide_eq_true (p := v0 ≠ j'1) h10) (.same _)) ?_
          refine rp rfl rfl (p_move rfl rfl) ?_
          refine r_off rfl rfl rfl rfl rfl rfl rfl ?_
          refine r_off rfl rfl rfl rfl rfl rfl rfl ?_
          refine r_off rfl rfl rfl rfl rfl rfl rfl ?_
          refine r_off rfl rfl rfl rfl rfl rfl rfl ?_
          refine r_off2 rfl rfl rfl rfl rfl rfl ?_
          refine r_off2 rfl rfl rfl rfl rfl rfl ?_
          refine r_off2 rfl rfl rfl rfl rfl rfl ?_
          refine r_off rfl rfl rfl rfl rfl rfl rfl ?_
          refine rp rfl rfl (p_pkt rfl rfl rfl (.same _)) ?_
          refine rp rfl rfl (p_move rfl rfl) ?_
          refine r_off rfl rfl rfl rfl rfl rfl rfl ?_
          refine r_off rfl rfl rfl rfl rfl rfl rfl ?_
          refine r_off rfl rfl rfl rfl rfl rfl rfl ?_
          refine r_off rfl rfl rfl rfl rfl rfl rfl ?_
          refine rp rfl rfl (p_pkt rfl rfl rfl (.same _)) ?_
          refine rs [(60, .b true)] [] rfl rfl rfl ?_
          have hz := some_elim H
          subst hz
          exact RunW_nil rfl
        · replace H := ite_else h10 H
          refine r_on rfl rfl rfl rfl (decide_eq_false (p := v0 ≠ j'1) h10) rfl (PureD.opD (u_fa rfl rfl Tryd.underlying24 rfl in_3 (Nat.succ_ne_zero _) rfl rfl (ne_of_lt (n := 0) (Nat.lt_of_lt_of_eq (by decide) (Eq.symm (GValue.len v0)))))) ?_
          refine r_on rfl rfl rfl rfl (decide_eq_false (p := v0 ≠ j'1) h10) rfl (PureD.opD (u_ld rfl rfl Tryd.underlying3 rfl rfl ((Sub.refl _).trans (GValue.sub0 v0)))) ?_
          refine r_on rfl rfl rfl rfl (decide_eq_false (p := v0 ≠ j'1) h10) rfl (PureD.opD (p_ieq rfl rfl rfl)) ?_
          refine r_on rfl rfl rfl rfl (decide_eq_false (p := v0 ≠ j'1) h10) rfl (PureD.opD (p_move rfl rfl)) ?_
          refine (Classical.em (v0.Kind = (1 : Int))).elim (fun h11 => ?_) (fun h11 => ?_)
          · replace H := ite_then h11 H
            refine r_on rfl rfl rfl rfl (decide_eq_true (p := v0.Kind = (1 : Int)) h11) rfl (PureD.opD (u_fa rfl rfl Tryd.underlying24 rfl in_3 (Nat.succ_ne_zero _) rfl rfl (ne_of_lt (n := 0) (Nat.lt_of_lt_of_eq (by decide) (Eq.symm (GValue.len v0)))))) ?_
            refine r_on rfl rfl rfl rfl (decide_eq_true (p := v0.Kind = (1 : Int)) h11) rfl (PureD.opD (u_ld rfl rfl Tryd.underlying3 rfl rfl ((Sub.refl _).trans (GValue.sub1 v0)))) ?_
            refine r_on rfl rfl rfl rfl (decide_eq_true (p := v0.Kind = (1 : Int)) h11) rfl (PureD.opD (p_i_u64 rfl Tryd.underlying3 Tryd.underlying64 rfl)) ?_
            refine r_on rfl rfl rfl rfl (decide_eq_true (p := v0.Kind = (1 : Int)) h11) rfl (PureD.opD (p_u64gt (a := UInt64.ofInt v0.Int_) (b := (1 : UInt64)) rfl rfl rfl)) ?_
            refine r_on rfl rfl rfl rfl (decide_eq_false (p := v0 ≠ j'1) h10) rfl (PureD.opD (p_pkt rfl rfl (decide_eq_true (p := v0.Kind = (1 : Int)) h11) (.same _))) ?_
            refine rp rfl rfl (p_pkf rfl rfl (decide_eq_false (p := v0 ≠ j'1) h10) (.same _)) ?_
            refine rp rfl rfl (p_move rfl rfl) ?_
            refine (Classical.em ((1 : UInt64) < UInt64.ofInt v0.Int_)).elim (fun h12 => ?_) (fun h12 => ?_)
            · replace H := ite_then h12 H
              refine r_off rfl rfl rfl rfl (decide_eq_true (p := (1 : UInt64) < UInt64.ofInt v0.Int_) h12) rfl rfl ?_
              refine r_off rfl rfl rfl rfl (decide_eq_true (p := (1 : UInt64) < UInt64.ofInt v0.Int_) h12) rfl rfl ?_
              refine r_off rfl rfl rfl rfl (decide_eq_true (p := (1 : UInt64) < UInt64.ofInt v0.Int_) h12) rfl rfl ?_
              refine r_off rfl rfl rfl rfl (decide_eq_true (p := (1 : UInt64) < UInt64.ofInt v0.Int_) h12) rfl rfl ?_
              refine r_off2 rfl rfl rfl rfl rfl rfl ?_
              refine r_off2 rfl rfl rfl rfl rfl rfl ?_
              refine r_off2 rfl rfl rfl rfl rfl rfl ?_
              refine r_off rfl rfl rfl rfl (decide_eq_true (p := (1 : UInt64) < UInt64.ofInt v0.Int_) h12) rfl rfl ?_
              refine rp rfl rfl (p_pkt rfl rfl (decide_eq_true (p := (1 : UInt64) < UInt64.ofInt v0.Int_) h12) (.same _)) ?_
              refine rp rfl rfl (p_move rfl rfl) ?_
              refine r_off rfl rfl rfl rfl rfl rfl rfl ?_
              refine r_off rfl rfl rfl rfl rfl rfl rfl ?_
              refine r_off rfl rfl rfl rfl rfl rfl rfl ?_
              refine r_off rfl rfl rfl rfl rfl rfl rfl ?_
              refine rp rfl rfl (p_pkt rfl rfl rfl (.same _)) ?_
              refine rs [(60, .b true)] [] rfl rfl rfl ?_
              have hz := some_elim H
              subst hz
              exact RunW_nil rfl
            · replace H := ite_else h12 H
              refine r_on rfl rfl rfl rfl (decide_eq_false (p := (1 : UInt64) < UInt64.ofInt v0.Int_) h12) rfl (PureD.opD (u_fa rfl rfl Tryd.underlying24 rfl in_3 (Nat.succ_ne_zero _) rfl rfl (ne_of_lt (n := 0) (Nat.lt_of_lt_of_eq (by decide) (Eq.symm (GValue.len v0)))))) ?_
              refine r_on rfl rfl rfl rfl (decide_eq_false (p := (1 : UInt64) < UInt64.ofInt v0.Int_) h12) rfl (PureD.opD (u_ld rfl rfl Tryd.underlying3 rfl rfl ((Sub.refl _).trans (GValue.sub0 v0)))) ?_
              refine r_on rfl rfl rfl rfl (decide_eq_false (p := (1 : UInt64) < UInt64.ofInt v0.Int_) h12) rfl (PureD.opD (p_ieq rfl rfl rfl)) ?_
              refine r_on rfl rfl rfl rfl (decide_eq_false (p := (1 : UInt64) < UInt64.ofInt v0.Int_) h12) rfl (PureD.opD (p_move rfl rfl)) ?_
              refine (Classical.em (v0.Kind = (3 : Int))).elim (fun h13 => ?_) (fun h13 => ?_)
              · replace H := ite_then h13 H
                refine r_on rfl rfl rfl rfl (decide_eq_true (p := v0.Kind = (3 : Int)) h13) rfl (PureD.opD (u_fa rfl rfl Tryd.underlying24 rfl in_22 (Nat.succ_ne_zero _) rfl rfl (ne_of_lt (n := 0) (Nat.lt_of_lt_of_eq (by decide) (Eq.symm (GValue.len v0)))))) ?_
                refine r_on rfl rfl rfl rfl (decide_eq_true (p := v0.Kind = (3 : Int)) h13) rfl (PureD.opD (u_ld rfl rfl Tryd.underlying22 rfl rfl ((Sub.refl _).trans (GValue.sub2 v0)))) ?_
                refine bindK H fun r'5 h14 H => ?_
                refine r_on rfl rfl rfl rfl (decide_eq_true (p := v0.Kind = (3 : Int)) h13) rfl (PureD.opD (p_callp rfl rfl rfl Tryd.func41 rfl rfl (g_ref_badReal_ac h14) ⟨rfl, trivial⟩)) ?_
                refine r_on rfl rfl rfl rfl (decide_eq_false (p := (1 : UInt64) < UInt64.ofInt v0.Int_) h12) rfl (PureD.opD (p_pkt rfl rfl (decide_eq_true (p := v0.Kind = (3 : Int)) h13) (.same _))) ?_
                refine rp rfl rfl (p_pkf rfl rfl (decide_eq_false (p := (1 : UInt64) < UInt64.ofInt v0.Int_) h12) (.same _)) ?_
                refine rp rfl rfl (p_move rfl rfl) ?_
                refine (Classical.em (r'5 = true)).elim (fun h15 => ?_) (fun h15 => ?_)
                · replace H := ite_then h15 H
                  refine r_off rfl rfl rfl rfl h15 rfl rfl ?_
                  refine r_off rfl rfl rfl rfl h15 rfl rfl ?_
                  refine r_off rfl rfl rfl rfl h15 rfl rfl ?_
                  refine r_off rfl rfl rfl rfl h15 rfl rfl ?_
                  refine rp rfl rfl (p_pkt rfl rfl h15 (.same _)) ?_
                  refine rs [(60, .b true)] [] rfl rfl rfl ?_
                  have hz := some_elim H
                  subst hz
                  exact RunW_nil rfl
                · replace H := ite_else h15 H
                  refine r_on rfl rfl rfl rfl (bfalse h15) rfl (PureD.opD (u_fa rfl rfl Tryd.underlying24 rfl in_9 (Nat.succ_ne_zero _) rfl rfl (ne_of_lt (n := 0) (Nat.lt_of_lt_of_eq (by decide) (Eq.symm (GValue.len v0)))))) ?_
                  refine r_on rfl rfl rfl rfl (bfalse h15) rfl (PureD.opD (u_ld rfl rfl Tryd.underlying9 rfl rfl ((Sub.refl _).trans (GValue.sub3 v0)))) ?_
                  refine bindK H fun r'6 h16 H => ?_
                  refine r_on rfl rfl rfl rfl (bfalse h15) rfl (PureD.opD (p_callp rfl rfl rfl Tryd.func40 rfl rfl (g_utf8_ValidString_ac h16) ⟨rfl, trivial⟩)) ?_
                  refine r_on rfl rfl rfl rfl (bfalse h15) rfl (PureD.opD (p_not rfl rfl)) ?_
                  refine rp rfl rfl (p_pkf rfl rfl (bfalse h15) (.same _)) ?_
                  refine rs [(60, .b (!r'6))] [] rfl rfl rfl ?_
                  have hz := some_elim H
                  subst hz
                  exact RunW_nil rfl
              · replace H := ite_else h13 H
                refine r_off rfl rfl rfl rfl (decide_eq_false (p := v0.Kind = (3 : Int)) h13) rfl rfl ?_
                refine r_off rfl rfl rfl rfl (decide_eq_false (p := v0.Kind = (3 : Int)) h13) rfl rfl ?_
                refine r_off rfl rfl rfl rfl (decide_eq_false (p := v0.Kind = (3 : Int)) h13) rfl rfl ?_
                refine r_on rfl rfl rfl rfl (decide_eq_false (p := (1 : UInt64) < UInt64.ofInt v0.Int_) h12) rfl (PureD.opD (p_pkf rfl rfl (decide_eq_false (p := v0.Kind = (3 : Int)) h13) (.same _))) ?_
                refine rp rfl rfl (p_pkf rfl rfl (decide_eq_false (p := (1 : UInt64) < UInt64.ofInt v0.Int_) h12) (.same _)) ?_
                refine rp rfl rfl (p_move rfl rfl) ?_
                refine r_on rfl rfl rfl rfl (bfalse (by decide)) rfl (PureD.opD (u_fa rfl rfl Tryd.underlying24 rfl in_9 (Nat.succ_ne_zero _) rfl rfl (ne_of_lt (n := 0) (Nat.lt_of_lt_of_eq (by decide) (Eq.symm (GValue.len v0)))))) ?_
                refine r_on rfl rfl rfl rfl (bfalse (by decide)) rfl (PureD.opD (u_ld rfl rfl Tryd.underlying9 rfl rfl ((Sub.refl _).trans (GValue.sub3 v0)))) ?_
                refine bindK H fun r'7 h17 H => ?_
                refine r_on rfl rfl rfl rfl (bfalse (by decide)) rfl (PureD.opD (p_callp rfl rfl rfl Tryd.func40 rfl rfl (g_utf8_ValidString_ac h17) ⟨rfl, trivial⟩)) ?_
                refine r_on rfl rfl rfl rfl (bfalse (by decide)) rfl (PureD.opD (p_not rfl rfl)) ?_
                refine rp rfl rfl (p_pkf rfl rfl (bfalse (by decide)) (.same _)) ?_
                refine rs [(60, .b (!r'7))] [] rfl rfl rfl ?_
                have hz := some_elim H
                subst hz
                exact RunW_nil rfl
          · replace H := ite_else h11 H
            refine r_off rfl rfl rfl rfl (decide_eq_false (p := v0.Kind = (1 : Int)) h11) rfl rfl ?_
            refine r_off rfl rfl rfl rfl (decide_eq_false (p := v0.Kind = (1 : Int)) h11) rfl rfl ?_
            refine r_off rfl rfl rfl rfl (decide_eq_false (p := v0.Kind = (1 : Int)) h11) rfl rfl ?_
            refine r_off rfl rfl rfl rfl (decide_eq_false (p := v0.Kind = (1 : Int)) h11) rfl rfl ?_
            refine r_on rfl rfl rfl rfl (decide_eq_false (p := v0 ≠ j'1) h10) rfl (PureD.opD (p_pkf rfl rfl (decide_eq_false (p := v0.Kind = (1 : Int)) h11) (.same _))) ?_
            refine rp rfl rfl (p_pkf rfl rfl (decide_eq_false (p := v0 ≠ j'1) h10) (.same _)) ?_
            refine rp rfl rfl (p_move rfl rfl) ?_
            refine r_on rfl rfl rfl rfl (bfalse (by decide)) rfl (PureD.opD (u_fa rfl rfl Tryd.underlying24 rfl in_3 (Nat.succ_ne_zero _) rfl rfl (ne_of_lt (n := 0) (Nat.lt_of_lt_of_eq (by decide) (Eq.symm (GValue.len v0)))))) ?_
            refine r_on rfl rfl rfl rfl (bfalse (by decide)) rfl (PureD.opD (u_ld rfl rfl Tryd.underlying3 rfl rfl ((Sub.refl _).trans (GValue.sub0 v0)))) ?_
            refine r_on rfl rfl rfl rfl (bfalse (by decide)) rfl (PureD.opD (p_ieq rfl rfl rfl)) ?_
            refine r_on rfl rfl rfl rfl (bfalse (by decide)) rfl (PureD.opD (p_move rfl rfl)) ?_
            refine (Classical.em (v0.Kind = (3 : Int))).elim (fun h18 => ?_) (fun h18 => ?_)
            · replace H := ite_then h18 H
              refine r_on rfl rfl rfl rfl (decide_eq_true (p := v0.Kind = (3 : Int)) h18) rfl (PureD.opD (u_fa rfl rfl Tryd.underlying24 rfl in_22 (Nat.succ_ne_zero _) rfl rfl (ne_of_lt (n := 0) (Nat.lt_of_lt_of_eq (by decide) (Eq.symm (GValue.len v0)))))) ?_
              refine r_on rfl rfl rfl rfl (decide_eq_true (p := v0.Kind = (3 : Int)) h18) rfl (PureD.opD (u_ld rfl rfl Tryd.underlying22 rfl rfl ((Sub.refl _).trans (GValue.sub2 v0)))) ?_
              refine bindK H fun r'8 h19 H => ?_
              refine r_on rfl rfl rfl rfl (decide_eq_true (p := v0.Kind = (3 : Int)) h18) rfl (PureD.opD (p_callp rfl rfl rfl Tryd.func41 rfl rfl (g_ref_badReal_ac h19) ⟨rfl, trivial⟩)) ?_
              refine r_on rfl rfl rfl rfl (bfalse (by decide)) rfl (PureD.opD (p_pkt rfl rfl (decide_eq_true (p := v0.Kind = (3 : Int)) h18) (.same _))) ?_
              refine rp rfl rfl (p_pkf rfl rfl (bfalse (by decide)) (.same _)) ?_
              refine rp rfl rfl (p_move rfl rfl) ?_
              refine (Classical.em (r'8 = true)).elim (fun h20 => ?_) (fun h20 => ?_)
              · replace H := ite_then h20 H
                refine r_off rfl rfl rfl rfl h20 rfl rfl ?_
                refine r_off rfl rfl rfl rfl h20 rfl rfl ?_
                refine r_off rfl rfl rfl rfl h20 rfl rfl ?_
                refine r_off rfl rfl rfl rfl h20 rfl rfl ?_
                refine rp rfl rfl (p_pkt rfl rfl h20 (.same _)) ?_
                refine rs [(60, .b true)] [] rfl rfl rfl ?_
                have hz := some_elim H
                subst hz
                exact RunW_nil rfl
              · replace H := ite_else h20 H
                refine r_on rfl rfl rfl rfl (bfalse h20) rfl (PureD.opD (u_fa rfl rfl Tryd.underlying24 rfl in_9 (Nat.succ_ne_zero _) rfl rfl (ne_of_lt (n := 0) (Nat.lt_of_lt_of_eq (by decide) (Eq.symm (GValue.len v0)))))) ?_
                refine r_on rfl rfl rfl rfl (bfalse h20) rfl (PureD.opD (u_ld rfl rfl Tryd.underlying9 rfl rfl ((Sub.refl _).trans (GValue.sub3 v0)))) ?_
                refine bindK H fun r'9 h21 H => ?_
                refine r_on rfl rfl rfl rfl (bfalse h20) rfl (PureD.opD (p_callp rfl rfl rfl Tryd.func40 rfl rfl (g_utf8_ValidString_ac h21) ⟨rfl, trivial⟩)) ?_
                refine r_on rfl rfl rfl rfl (bfalse h20) rfl (PureD.opD (p_not rfl rfl)) ?_
                refine rp rfl rfl (p_pkf rfl rfl (bfalse h20) (.same _)) ?_
                refine rs [(60, .b (!r'9))] [] rfl rfl rfl ?_
                have hz := some_elim H
                subst hz
                exact RunW_nil rfl
            · replace H := ite_else h18 H
              refine r_off rfl rfl rfl rfl (decide_eq_false (p := v0.Kind = (3 : Int)) h18) rfl rfl ?_
              refine r_off rfl rfl rfl rfl (decide_eq_false (p := v0.Kind = (3 : Int)) h18) rfl rfl ?_
              refine r_off rfl rfl rfl rfl (decide_eq_false (p := v0.Kind = (3 : Int)) h18) rfl rfl ?_
              refine r_on rfl rfl rfl rfl (bfalse (by decide)) rfl (PureD.opD (p_pkf rfl rfl (decide_eq_false (p := v0.Kind = (3 : Int)) h18) (.same _))) ?_
              refine rp rfl rfl (p_pkf rfl rfl (bfalse (by decide)) (.same _)) ?_
              refine rp rfl rfl (p_move rfl rfl) ?_
              refine r_on rfl rfl rfl rfl (bfalse (by decide)) rfl (PureD.opD (u_fa rfl rfl Tryd.underlying24 rfl in_9 (Nat.succ_ne_zero _) rfl rfl (ne_of_lt (n := 0) (Nat.lt_of_lt_of_eq (by decide) (Eq.symm (GValue.len v0)))))) ?_
              refine r_on rfl rfl rfl rfl (bfalse (by decide)) rfl (PureD.opD (u_ld rfl rfl Tryd.underlying9 rfl rfl ((Sub.refl _).trans (GValue.sub3 v0)))) ?_
              refine bindK H fun r'10 h22 H => ?_
              refine r_on rfl rfl rfl rfl (bfalse (by decide)) rfl (PureD.opD (p_callp rfl rfl rfl Tryd.func40 rfl rfl (g_utf8_ValidString_ac h22) ⟨rfl, trivial⟩)) ?_
              refine r_on rfl rfl rfl rfl (bfalse (by decide)) rfl (PureD.opD (p_not rfl rfl)) ?_
              refine rp rfl rfl (p_pkf rfl rfl (bfalse (by decide)) (.same _)) ?_
              refine rs [(60, .b (!r'10))] [] rfl rfl rfl ?_
              have hz := some_elim H
              subst hz
              exact RunW_nil rfl
      · refine AW2_cond rfl (fun h24 => ?_) (fun h24 => ?_)
        · replace H := ite_then h24 H
          refine sg [0] rfl ?_
          refine rp rfl rfl (p_asg rfl rfl) ?_
          refine rz [(2, .i (3 : Int))] [] rfl rfl rfl ?_
          refine AW2_ret ?_
          have hz := some_elim H
          subst hz
          exact ⟨⟨res_tmp (.same _), trivial⟩, trivial⟩
        · replace H := ite_else (ne_true h24) H
          refine as2 [] [] rfl rfl rfl ?_
          refine AW2_skip ?_
          refine sg [0] rfl ?_
          refine rp rfl rfl (p_asg rfl rfl) ?_
          refine rz [(2, .i (0 : Int))] [] rfl rfl rfl ?_
          refine AW2_ret ?_
          have hz := some_elim H
          subst hz
          exact ⟨⟨res_tmp (.same _), trivial⟩, trivial⟩
  · subst hy
    obtain ⟨rfl, hs⟩ := hs
    have hz := some_elim H
    subst hz
    exact ⟨hs.1, hs.2⟩

/-! chirographlaw.ValueChecks -/
noncomputable def g_law_ValueChecks (v0 : GValue) : Option (Bool) :=
  (g_value_Check v0).bind fun r'1 => (g_ref_ValueFault v0).bind fun r'2 => some (decide (r'1 = r'2))
set_option maxHeartbeats 4000000 in
set_option maxRecDepth 100000 in
theorem g_law_ValueChecks_ac {v0 : GValue} {r : Bool} (H : g_law_ValueChecks v0 = some r) : ACp Tryd.prog 3 [(.agg (GValue.cs v0))] (AV.bool r) := by
  refine ACp_of (AC2_of_body (vs := [.b r]) Tryd.func3 rfl rfl (Nat.le_of_ble_eq_true rfl) rfl ?_) (fun _ => .same _)
  unfold g_law_ValueChecks at H
  refine as2 [(0, .g (GValue.cs v0))] [] rfl rfl rfl ?_
  refine sg [0, 1] rfl ?_
  refine r_op rfl rfl (MakeD.opD (n_box 1 rfl rfl) rfl rfl rfl rfl) ?_
  refine rp rfl rfl (p_asg rfl rfl) ?_
  refine rz [(1, .q 1 (0))] [(1, .pure (GValue.cs v0))] rfl rfl rfl ?_
  refine sg [0, 1, 2] rfl ?_
  refine rp rfl rfl (u_lda rfl rfl Tryd.underlying24 rfl in_24 rfl (Nat.succ_pos _) (Sub.refl _) (GValue.len v0)) ?_
  refine bindK H fun r'1 h1 H => ?_
  refine rp rfl rfl (p_callp rfl rfl rfl Tryd.func14 rfl rfl (g_value_Check_ac h1) ⟨rfl, trivial⟩) ?_
  refine rp rfl rfl (p_asg rfl rfl) ?_
  refine rz [(1, .q 1 (0)), (3, .i r'1)] [(1, .pure (GValue.cs v0))] rfl rfl rfl ?_
  refine sg [0, 1, 2] rfl ?_
  refine rp rfl rfl (u_lda rfl rfl Tryd.underlying24 rfl in_24 rfl (Nat.succ_pos _) (Sub.refl _) (GValue.len v0)) ?_
  refine bindK H fun r'2 h2 H => ?_
  refine rp rfl rfl (p_callp rfl rfl rfl Tryd.func15 rfl rfl (g_ref_ValueFault_ac h2) ⟨rfl, trivial⟩) ?_
  refine rp rfl rfl (p_asg rfl rfl) ?_
  refine rz [(3, .i r'1), (4, .i r'2)] [] rfl rfl rfl ?_
  refine sg [0, 1, 2, 3] rfl ?_
  refine rp rfl rfl (p_move rfl rfl) ?_
  refine rp rfl rfl (p_move rfl rfl) ?_
  refine rp rfl rfl (p_ieq rfl rfl rfl) ?_
  refine rp rfl rfl (p_asg rfl rfl) ?_
  refine rz [(2, .b (decide (r'1 = r'2)))] [] rfl rfl rfl ?_
  refine AW2_ret ?_
  have hz := some_elim H
  subst hz
  exact ⟨⟨res_tmp (.same _), trivial⟩, trivial⟩

/-! value.both -/
noncomputable def g_value_both (a0 : GValue) (b1 : GValue) : Option (Int) :=
  (g_value_Check a0).bind fun r'1 => (if r'1 ≠ (0 : Int) then some r'1 else (g_value_Check b1).bind fun r'2 => some r'2)
set_option maxHeartbeats 4000000 in
set_option maxRecDepth 100000 in
theorem g_value_both_ac {a0 : GValue} {b1 : GValue} {r : Int} (H : g_value_both a0 b1 = some r) : ACp Tryd.prog 42 [(.agg (GValue.cs a0)), (.agg (GValue.cs b1))] (AV.int r) := by
  refine ACp_of (AC2_of_body (vs := [.i r]) Tryd.func42 rfl rfl (Nat.le_of_ble_eq_true rfl) rfl ?_) (fun _ => .same _)
  unfold g_value_both at H
  refine as2 [(0, .g (GValue.cs a0)), (1, .g (GValue.cs b1))] [] rfl rfl rfl ?_
  refine sg [0, 1, 2] rfl ?_
  refine r_op rfl rfl (MakeD.opD (n_box 2 rfl rfl) rfl rfl rfl rfl) ?_
  refine r_op rfl rfl (MakeD.opD (n_box 3 rfl rfl) rfl rfl rfl rfl) ?_
  refine rp rfl rfl (p_asg rfl rfl) ?_
  refine rz [(2, .q 2 (0)), (3, .q 3 (0))] [(2, .pure (GValue.cs a0)), (3, .pure (GValue.cs b1))] rfl rfl rfl ?_
  refine AW2_seq ?_
  refine sg [0, 1, 2] rfl ?_
  refine rp rfl rfl (u_lda rfl rfl Tryd.underlying24 rfl in_24 rfl (Nat.succ_pos _) (Sub.refl _) (GValue.len a0)) ?_
  refine bindK H fun r'1 h1 H => ?_
  refine rp rfl rfl (p_callp rfl rfl rfl Tryd.func14 rfl rfl (g_value_Check_ac h1) ⟨rfl, trivial⟩) ?_
  refine rp rfl rfl (p_asg rfl rfl) ?_
  refine rz [(3, .q 3 (0)), (5, .i r'1)] [(3, .pure (GValue.cs b1))] rfl rfl rfl ?_
  refine sg [0, 1] rfl ?_
  refine rp rfl rfl (p_move rfl rfl) ?_
  refine rp rfl rfl (p_ine rfl rfl rfl) ?_
  refine rz [(3, .q 3 (0)), (5, .i r'1), (9, .b (decide (r'1 ≠ (0 : Int))))] [(3, .pure (GValue.cs b1))] rfl rfl rfl ?_
  refine AW2_if (p := r'1 ≠ (0 : Int)) rfl (fun h2 => ?_) (fun h2 => ?_)
  · replace H := ite_then h2 H
    refine sg [0, 1] rfl ?_
    refine rp rfl rfl (p_move rfl rfl) ?_
    refine rp rfl rfl (p_asg rfl rfl) ?_
    refine rz [(4, .i r'1)] [] rfl rfl rfl ?_
    refine AW2_ret ?_
    have hz := some_elim H
    subst hz
    exact ⟨⟨res_tmp (.same _), trivial⟩, trivial⟩
  · replace H := ite_else h2 H
    refine as2 [(3, .q 3 (0))] [(3, .pure (GValue.cs b1))] rfl rfl rfl ?_
    refine AW2_skip ?_
    refine sg [0, 1, 2] rfl ?_
    refine rp rfl rfl (u_lda rfl rfl Tryd.underlying24 rfl in_24 rfl (Nat.succ_pos _) (Sub.refl _) (GValue.len b1)) ?_
    refine bindK H fun r'2 h3 H => ?_
    refine rp rfl rfl (p_callp rfl rfl rfl Tryd.func14 rfl rfl (g_value_Check_ac h3) ⟨rfl, trivial⟩) ?_
    refine rp rfl rfl (p_asg rfl rfl) ?_
    refine rz [(4, .i r'2)] [] rfl rfl rfl ?_
    refine AW2_ret ?_
    have hz := some_elim H
    subst hz
    exact ⟨⟨res_tmp (.same _), trivial⟩, trivial⟩

/-! value.order -/
noncomputable def g_value_order (a0 : GValue) (b1 : GValue) : Option (Int) :=
  ((if a0.Kind ≠ b1.Kind then some ((decide (a0.Kind < b1.Kind)), (decide (a0.Kind > b1.Kind))) else (if a0.Kind = (3 : Int) then some (flt a0.Bits b1.Bits, fgt a0.Bits b1.Bits) else (if a0.Kind = (4 : Int) then some (Op.bytesLess a0.Text b1.Text, !(Op.bytesLess a0.Text b1.Text || a0.Text == b1.Text)) else some ((decide (a0.Int_ < b1.Int_)), (decide (a0.Int_ > b1.Int_))))))).bind fun j'1 => (if j'1.1 = true then some (-1 : Int) else (if j'1.2 = true then some (1 : Int) else some (0 : Int)))
set_option maxHeartbeats 4000000 in
set_option maxRecDepth 100000 in
theorem g_value_order_ac {a0 : GValue} {b1 : GValue} {r : Int} (H : g_value_order a0 b1 = some r) : ACp Tryd.prog 43 [(.agg (GValue.cs a0)), (.agg (GValue.cs b1))] (AV.int r) := by
  refine ACp_of (AC2_of_body (vs := [.i r]) Tryd.func43 rfl rfl (Nat.le_of_ble_eq_true rfl) rfl ?_) (fun _ => .same _)
  unfold g_value_order at H
  refine as2 [(0, .g (GValue.cs a0)), (1, .g (GValue.cs b1))] [] rfl rfl rfl ?_
  refine sg [0, 1, 2] rfl ?_
  refine r_op rfl rfl (MakeD.opD (n_box 2 rfl rfl) rfl rfl rfl rfl) ?_
  refine r_op rfl rfl (MakeD.opD (n_box 3 rfl rfl) rfl rfl rfl rfl) ?_
  refine rp rfl rfl (p_asg rfl rfl) ?_
  refine rz [(2, .q 2 (0)), (3, .q 3 (0))] [(2, .pure (GValue.cs a0)), (3, .pure (GValue.cs b1))] rfl rfl rfl ?_
  refine sg [0, 1] rfl ?_
  refine rp rfl rfl (p_asg rfl rfl) ?_
  refine rp rfl rfl (p_asg rfl rfl) ?_
  refine rz [(2, .q 2 (0)), (3, .q 3 (0))] [(2, .pure (GValue.cs a0)), (3, .pure (GValue.cs b1))] rfl rfl rfl ?_
  refine AW2_seq ?_
  refine bindK H fun j'1 h1 H => ?_
  refine AW2_mid (⟨[(5, .b j'1.1), (6, .b j'1.2)], [], 67⟩ : TS) ?_ ?_
  · clear H
    have H := h1
    clear h1
    refine AW2_block ?_
    refine sg [0, 1, 2, 3, 4, 5] rfl ?_
    refine rp rfl rfl (u_fa rfl rfl Tryd.underlying24 rfl in_3 (Nat.succ_ne_zero _) rfl rfl (ne_of_lt (n := 0) (Nat.lt_of_lt_of_eq (by decide) (Eq.symm (GValue.len a0))))) ?_
    refine rp rfl rfl (u_ld rfl rfl Tryd.underlying3 rfl rfl ((Sub.refl _).trans (GValue.sub0 a0))) ?_
    refine rp rfl rfl (u_fa rfl rfl Tryd.underlying24 rfl in_3 (Nat.succ_ne_zero _) rfl rfl (ne_of_lt (n := 0) (Nat.lt_of_lt_of_eq (by decide) (Eq.symm (GValue.len b1))))) ?_
    refine rp rfl rfl (u_ld rfl rfl Tryd.underlying3 rfl rfl ((Sub.refl _).trans (GValue.sub0 b1))) ?_
    refine rp rfl rfl (p_ine rfl rfl rfl) ?_
    refine rp rfl rfl (p_asg rfl rfl) ?_
    refine rz [(2, .q 2 (0)), (3, .q 3 (0)), (19, .b (decide (a0.Kind ≠ b1.Kind)))] [(2, .pure (GValue.cs a0)), (3, .pure (GValue.cs b1))] rfl rfl rfl ?_
    refine AW2_if (p := a0.Kind ≠ b1.Kind) rfl (fun h2 => ?_) (fun h2 => ?_)
    · replace H := ite_then h2 H
      refine AW2_ghoQ ?_
      refine AW2_draw 11 [11] (fun k => ([.q 2 (0 + 0), .i a0.Kind, .q 3 (0 + 0), .i b1.Kind, .b (decide (a0.Kind < b1.Kind)), .q 2 (0 + 0), .i a0.Kind, .q 3 (0 + 0), .i b1.Kind, .b (decide (a0.Kind > b1.Kind)), .b (decide (a0.Kind < b1.Kind))] : List TV).getD k TV.any) (fun k => ([[(2, none)], [(25, some 0)], [(3, none)], [(27, some 2)], [(26, some 1), (28, some 3)], [(2, none)], [(30, some 5)], [(3, none)], [(32, some 7)], [(31, some 6), (33, some 8)], [(29, some 4)]] : List (List (Nat × Option Nat))).getD k []) [(5, some 10), (34, some 9)] [] (fun k => ([[], [0], [], [2], [0, 1, 2, 3], [], [5], [], [7], [5, 6, 7, 8], [0, 1, 2, 3, 4], [0, 1, 2, 3, 4, 5, 6, 7, 8, 9, 10]] : List (List Nat)).getD k []) mixed (by kernel_rfl) rfl rfl (a_op (g_x rfl (x_p rfl (u_fa rfl rfl Tryd.underlying24 rfl in_3 (Nat.succ_ne_zero _) rfl rfl (ne_of_lt (n := 0) (Nat.lt_of_lt_of_eq (by decide) (Eq.symm (GValue.len a0))))) rfl)) (a_op (g_x rfl (x_p rfl (u_ld rfl rfl Tryd.underlying3 rfl rfl ((Sub.refl _).trans (GValue.sub0 a0))) rfl)) (a_op (g_x rfl (x_p rfl (u_fa rfl rfl Tryd.underlying24 rfl in_3 (Nat.succ_ne_zero _) rfl rfl (ne_of_lt (n := 0) (Nat.lt_of_lt_of_eq (by decide) (Eq.symm (GValue.len b1))))) rfl)) (a_op (g_x rfl (x_p rfl (u_ld rfl rfl Tryd.underlying3 rfl rfl ((Sub.refl _).trans (GValue.sub0 b1))) rfl)) (a_op (g_x rfl (x_p rfl (p_bin rfl rfl rfl rfl) rfl)) (a_op (g_x rfl (x_p rfl (u_fa rfl rfl Tryd.underlying24 rfl in_3 (Nat.succ_ne_zero _) rfl rfl (ne_of_lt (n := 0) (Nat.lt_of_lt_of_eq (by decide) (Eq.symm (GValue.len a0))))) rfl)) (a_op (g_x rfl (x_p rfl (u_ld rfl rfl Tryd.underlying3 rfl rfl ((Sub.refl _).trans (GValue.sub0 a0))) rfl)) (a_op (g_x rfl (x_p rfl (u_fa rfl rfl Tryd.underlying24 rfl in_3 (Nat.succ_ne_zero _) rfl rfl (ne_of_lt (n := 0) (Nat.lt_of_lt_of_eq (by decide) (Eq.symm (GValue.len b1))))) rfl)) (a_op (g_x rfl (x_p rfl (u_ld rfl rfl Tryd.underlying3 rfl rfl ((Sub.refl _).trans (GValue.sub0 b1))) rfl)) (a_op (g_x rfl (x_p rfl (p_bin rfl rfl rfl rfl) rfl)) (a_op (g_x rfl (x_p rfl (p_asg rfl rfl) rfl)) (a_nil)))))))))))) ?_
      refine t_op rfl rfl (PureD.opD (p_asg rfl rfl)) ?_
      refine t_gho (Gho_st (L := [(5, .b (decide (a0.Kind < b1.Kind))), (6, .b (decide (a0.Kind > b1.Kind)))]) (H := []) rfl ⟨TLes.same _, TLes.same _, trivial⟩ trivial) ?_
      have hz := some_elim H
      subst hz
      exact rfl
    · replace H := ite_else h2 H
      refine sg [0, 1, 2, 3] rfl ?_
      refine rp rfl rfl (u_fa rfl rfl Tryd.underlying24 rfl in_3 (Nat.succ_ne_zero _) rfl rfl (ne_of_lt (n := 0) (Nat.lt_of_lt_of_eq (by decide) (Eq.symm (GValue.len a0))))) ?_
      refine rp rfl rfl (u_ld rfl rfl Tryd.underlying3 rfl rfl ((Sub.refl _).trans (GValue.sub0 a0))) ?_
      refine rp rfl rfl (p_ieq rfl rfl rfl) ?_
      refine rp rfl rfl (p_asg rfl rfl) ?_
      refine rz [(2, .q 2 (0)), (3, .q 3 (0)), (35, .b (decide (a0.Kind = (3 : Int))))] [(2, .pure (GValue.cs a0)), (3, .pure (GValue.cs b1))] rfl rfl rfl ?_
      refine AW2_if (p := a0.Kind = (3 : Int)) rfl (fun h3 => ?_) (fun h3 => ?_)
      · replace H := ite_then h3 H
        refine AW2_seq ?_
        refine AW2_ghoQ ?_
        refine AW2_draw 5 [5, 6, 7] (fun k => ([.q 2 (0 + 2), .p (AV.u64 a0.Bits), .p (AV.f64 a0.Bits), .q 3 (0 + 2), .p (AV.u64 b1.Bits)] : List TV).getD k TV.any) (fun k => ([[(2, none)], [(39, some 0)], [(40, some 1)], [(3, none)], [(42, some 3)]] : List (List (Nat × Option Nat))).getD k []) [(41, some 2), (43, some 4)] [] (fun k => ([[], [0], [0, 1], [], [3], [0, 1, 2, 3, 4], [0, 1, 2, 3, 4, 5], [0, 1, 2, 3, 4, 5, 6]] : List (List Nat)).getD k []) mixed (by kernel_rfl) rfl rfl (a_op (g_x rfl (x_p rfl (u_fa rfl rfl Tryd.underlying24 rfl in_22 (Nat.succ_ne_zero _) rfl rfl (ne_of_lt (n := 0) (Nat.lt_of_lt_of_eq (by decide) (Eq.symm (GValue.len a0))))) rfl)) (a_op (g_x rfl (x_p rfl (u_ld rfl rfl Tryd.underlying22 rfl rfl ((Sub.refl _).trans (GValue.sub2 a0))) rfl)) (a_op (g_x rfl (x_p rfl (p_frombits (a := a0.Bits) rfl rfl rfl Tryd.func38 rfl rfl (by kernel_rfl) (by kernel_rfl) rfl) rfl)) (a_op (g_x rfl (x_p rfl (u_fa rfl rfl Tryd.underlying24 rfl in_22 (Nat.succ_ne_zero _) rfl rfl (ne_of_lt (n := 0) (Nat.lt_of_lt_of_eq (by decide) (Eq.symm (GValue.len b1))))) rfl)) (a_op (g_x rfl (x_p rfl (u_ld rfl rfl Tryd.underlying22 rfl rfl ((Sub.refl _).trans (GValue.sub2 b1))) rfl)) (a_nil)))))) ?_
        refine t_op rfl rfl (PureD.opD (p_frombits (a := b1.Bits) rfl rfl rfl Tryd.func38 rfl rfl (by kernel_rfl) (by kernel_rfl) rfl)) ?_
        refine t_op rfl rfl (PureD.opD (p_asg rfl rfl)) ?_
        refine t_op rfl rfl (PureD.opD (p_asg rfl rfl)) ?_
        refine t_gho (Gho_st (L := [(7, .p (AV.f64 a0.Bits)), (8, .p (AV.f64 b1.Bits))]) (H := []) rfl ⟨TLes.same _, TLes.same _, trivial⟩ trivial) ?_
        refine AW2_reg [0, 1, 2, 3, 4, 5, 6, 7] rfl ?_
        refine rp rfl rfl (p_move rfl rfl) ?_
        refine rp rfl rfl (p_move rfl rfl) ?_
        refine rp rfl rfl (p_fbin (a := a0.Bits) (b := b1.Bits) (v := flt a0.Bits b1.Bits) rfl rfl rfl rfl) ?_
        refine rp rfl rfl (p_move rfl rfl) ?_
        refine rp rfl rfl (p_move rfl rfl) ?_
        refine rp rfl rfl (p_fbin (a := a0.Bits) (b := b1.Bits) (v := fgt a0.Bits b1.Bits) rfl rfl rfl rfl) ?_
        refine rp rfl rfl (p_asg rfl rfl) ?_
        refine rp rfl rfl (p_asg rfl rfl) ?_
        refine rz [(5, .b (flt a0.Bits b1.Bits)), (6, .b (fgt a0.Bits b1.Bits))] [] rfl rfl rfl ?_
        have hz := some_elim H
        subst hz
        exact rfl
      · replace H := ite_else h3 H
        refine sg [0, 1, 2, 3] rfl ?_
        refine rp rfl rfl (u_fa rfl rfl Tryd.underlying24 rfl in_3 (Nat.succ_ne_zero _) rfl rfl (ne_of_lt (n := 0) (Nat.lt_of_lt_of_eq (by decide) (Eq.symm (GValue.len a0))))) ?_
        refine rp rfl rfl (u_ld rfl rfl Tryd.underlying3 rfl rfl ((Sub.refl _).trans (GValue.sub0 a0))) ?_
        refine rp rfl rfl (p_ieq rfl rfl rfl) ?_
        refine rp rfl rfl (p_asg rfl rfl) ?_
        refine rz [(2, .q 2 (0)), (3, .q 3 (0)), (51, .b (decide (a0.Kind = (4 : Int))))] [(2, .pure (GValue.cs a0)), (3, .pure (GValue.cs b1))] rfl rfl rfl ?_
        refine AW2_if (p := a0.Kind = (4 : Int)) rfl (fun h4 => ?_) (fun h4 => ?_)
        · replace H := ite_then h4 H
          refine AW2_ghoQ ?_
          refine AW2_draw 11 [11] (fun k => ([.q 2 (0 + 3), .t a0.Text, .q 3 (0 + 3), .t b1.Text, .b (Op.bytesLess a0.Text b1.Text), .q 2 (0 + 3), .t a0.Text, .q 3 (0 + 3), .t b1.Text, .b (!(Op.bytesLess a0.Text b1.Text || a0.Text == b1.Text)), .b (Op.bytesLess a0.Text b1.Text)] : List TV).getD k TV.any) (fun k => ([[(2, none)], [(55, some 0)], [(3, none)], [(57, some 2)], [(56, some 1), (58, some 3)], [(2, none)], [(60, some 5)], [(3, none)], [(62, some 7)], [(61, some 6), (63, some 8)], [(59, some 4)]] : List (List (Nat × Option Nat))).getD k []) [(5, some 10), (64, some 9)] [] (fun k => ([[], [0], [], [2], [0, 1, 2, 3], [], [5], [], [7], [5, 6, 7, 8], [0, 1, 2, 3, 4], [0, 1, 2, 3, 4, 5, 6, 7, 8, 9, 10]] : List (List Nat)).getD k []) mixed (by kernel_rfl) rfl rfl (a_op (g_x rfl (x_p rfl (u_fa rfl rfl Tryd.underlying24 rfl in_9 (Nat.succ_ne_zero _) rfl rfl (ne_of_lt (n := 0) (Nat.lt_of_lt_of_eq (by decide) (Eq.symm (GValue.len a0))))) rfl)) (a_op (g_x rfl (x_p rfl (u_ld rfl rfl Tryd.underlying9 rfl rfl ((Sub.refl _).trans (GValue.sub3 a0))) rfl)) (a_op (g_x rfl (x_p rfl (u_fa rfl rfl Tryd.underlying24 rfl in_9 (Nat.succ_ne_zero _) rfl rfl (ne_of_lt (n := 0) (Nat.lt_of_lt_of_eq (by decide) (Eq.symm (GValue.len b1))))) rfl)) (a_op (g_x rfl (x_p rfl (u_ld rfl rfl Tryd.underlying9 rfl rfl ((Sub.refl _).trans (GValue.sub3 b1))) rfl)) (a_op (g_x rfl (x_p rfl (p_slt rfl rfl rfl) rfl)) (a_op (g_x rfl (x_p rfl (u_fa rfl rfl Tryd.underlying24 rfl in_9 (Nat.succ_ne_zero _) rfl rfl (ne_of_lt (n := 0) (Nat.lt_of_lt_of_eq (by decide) (Eq.symm (GValue.len a0))))) rfl)) (a_op (g_x rfl (x_p rfl (u_ld rfl rfl Tryd.underlying9 rfl rfl ((Sub.refl _).trans (GValue.sub3 a0))) rfl)) (a_op (g_x rfl (x_p rfl (u_fa rfl rfl Tryd.underlying24 rfl in_9 (Nat.succ_ne_zero _) rfl rfl (ne_of_lt (n := 0) (Nat.lt_of_lt_of_eq (by decide) (Eq.symm (GValue.len b1))))) rfl)) (a_op (g_x rfl (x_p rfl (u_ld rfl rfl Tryd.underlying9 rfl rfl ((Sub.refl _).trans (GValue.sub3 b1))) rfl)) (a_op (g_x rfl (x_p rfl (p_sgt rfl rfl rfl) rfl)) (a_op (g_x rfl (x_p rfl (p_asg rfl rfl) rfl)) (a_nil)))))))))))) ?_
          refine t_op rfl rfl (PureD.opD (p_asg rfl rfl)) ?_
          refine t_gho (Gho_st (L := [(5, .b (Op.bytesLess a0.Text b1.Text)), (6, .b (!(Op.bytesLess a0.Text b1.Text || a0.Text == b1.Text)))]) (H := []) rfl ⟨TLes.same _, TLes.same _, trivial⟩ trivial) ?_
          have hz := some_elim H
          subst hz
          exact rfl
        · replace H := ite_else h4 H
          refine AW2_ghoQ ?_
          refine AW2_draw 11 [11] (fun k => ([.q 2 (0 + 1), .i a0.Int_, .q 3 (0 + 1), .i b1.Int_, .b (decide (a0.Int_ < b1.Int_)), .q 2 (0 + 1), .i a0.Int_, .q 3 (0 + 1), .i b1.Int_, .b (decide (a0.Int_ > b1.Int_)), .b (decide (a0.Int_ < b1.Int_))] : List TV).getD k TV.any) (fun k => ([[(2, none)], [(9, some 0)], [(3, none)], [(11, some 2)], [(10, some 1), (12, some 3)], [(2, none)], [(14, some 5)], [(3, none)], [(16, some 7)], [(15, some 6), (17, some 8)], [(13, some 4)]] : List (List (Nat × Option Nat))).getD k []) [(5, some 10), (18, some 9)] [] (fun k => ([[], [0], [], [2], [0, 1, 2, 3], [], [5], [], [7], [5, 6, 7, 8], [0, 1, 2, 3, 4], [0, 1, 2, 3, 4, 5, 6, 7, 8, 9, 10]] : List (List Nat)).getD k []) mixed (by kernel_rfl) rfl rfl (a_op (g_x rfl (x_p rfl (u_fa rfl rfl Tryd.underlying24 rfl in_3 (Nat.succ_ne_zero _) rfl rfl (ne_of_lt (n := 0) (Nat.lt_of_lt_of_eq (by decide) (Eq.symm (GValue.len a0))))) rfl)) (a_op (g_x rfl (x_p rfl (u_ld rfl rfl Tryd.underlying3 rfl rfl ((Sub.refl _).trans (GValue.sub1 a0))) rfl)) (a_op (g_x rfl (x_p rfl (u_fa rfl rfl Tryd.underlying24 rfl in_3 (Nat.succ_ne_zero _) rfl rfl (ne_of_lt (n := 0) (Nat.lt_of_lt_of_eq (by decide) (Eq.symm (GValue.len b1))))) rfl)) (a_op (g_x rfl (x_p rfl (u_ld rfl rfl Tryd.underlying3 rfl rfl ((Sub.refl _).trans (GValue.sub1 b1))) rfl)) (a_op (g_x rfl (x_p rfl (p_bin rfl rfl rfl rfl) rfl)) (a_op (g_x rfl (x_p rfl (u_fa rfl rfl Tryd.underlying24 rfl in_3 (Nat.succ_ne_zero _) rfl rfl (ne_of_lt (n := 0) (Nat.lt_of_lt_of_eq (by decide) (Eq.symm (GValue.len a0))))) rfl)) (a_op (g_x rfl (x_p rfl (u_ld rfl rfl Tryd.underlying3 rfl rfl ((Sub.refl _).trans (GValue.sub1 a0))) rfl)) (a_op (g_x rfl (x_p rfl (u_fa rfl rfl Tryd.underlying24 rfl in_3 (Nat.succ_ne_zero _) rfl rfl (ne_of_lt (n := 0) (Nat.lt_of_lt_of_eq (by decide) (Eq.symm (GValue.len b1))))) rfl)) (a_op (g_x rfl (x_p rfl (u_ld rfl rfl Tryd.underlying3 rfl rfl ((Sub.refl _).trans (GValue.sub1 b1))) rfl)) (a_op (g_x rfl (x_p rfl (p_bin rfl rfl rfl rfl) rfl)) (a_op (g_x rfl (x_p rfl (p_asg rfl rfl) rfl)) (a_nil)))))))))))) ?_
          refine t_op rfl rfl (PureD.opD (p_asg rfl rfl)) ?_
          refine t_gho (Gho_st (L := [(5, .b (decide (a0.Int_ < b1.Int_))), (6, .b (decide (a0.Int_ > b1.Int_)))]) (H := []) rfl ⟨TLes.same _, TLes.same _, trivial⟩ trivial) ?_
          have hz := some_elim H
          subst hz
          exact rfl
  · refine AW2_seq ?_
    refine sg [0] rfl ?_
    refine rp rfl rfl (p_move rfl rfl) ?_
    refine rz [(6, .b j'1.2), (65, .b j'1.1)] [] rfl rfl rfl ?_
    refine AW2_cond rfl (fun h5 => ?_) (fun h5 => ?_)
    · replace H := ite_then h5 H
      refine sg [0] rfl ?_
      refine rp rfl rfl (p_asg rfl rfl) ?_
      refine rz [(4, .i (-1 : Int))] [] rfl rfl rfl ?_
      refine AW2_ret ?_
      have hz := some_elim H
      subst hz
      exact ⟨⟨res_tmp (.same _), trivial⟩, trivial⟩
    · replace H := ite_else (ne_true h5) H
      refine as2 [(6, .b j'1.2)] [] rfl rfl rfl ?_
      refine AW2_skip ?_
      refine AW2_seq ?_
      refine sg [0] rfl ?_
      refine rp rfl rfl (p_move rfl rfl) ?_
      refine rz [(66, .b j'1.2)] [] rfl rfl rfl ?_
      refine AW2_cond rfl (fun h6 => ?_) (fun h6 => ?_)
      · replace H := ite_then h6 H
        refine sg [0] rfl ?_
        refine rp rfl rfl (p_asg rfl rfl) ?_
        refine rz [(4, .i (1 : Int))] [] rfl rfl rfl ?_
        refine AW2_ret ?_
        have hz := some_elim H
        subst hz
        exact ⟨⟨res_tmp (.same _), trivial⟩, trivial⟩
      · replace H := ite_else (ne_true h6) H
        refine as2 [] [] rfl rfl rfl ?_
        refine AW2_skip ?_
        refine sg [0] rfl ?_
        refine rp rfl rfl (p_asg rfl rfl) ?_
        refine rz [(4, .i (0 : Int))] [] rfl rfl rfl ?_
        refine AW2_ret ?_
        have hz := some_elim H
        subst hz
        exact ⟨⟨res_tmp (.same _), trivial⟩, trivial⟩

/-! value.Compare -/
noncomputable def g_value_Compare (a0 : GValue) (b1 : GValue) : Option (Int × Int) :=
  (g_value_both a0 b1).bind fun r'1 => (if r'1 ≠ (0 : Int) then some ((0 : Int), r'1) else (g_value_order a0 b1).bind fun r'2 => some (r'2, (0 : Int)))
set_option maxHeartbeats 4000000 in
set_option maxRecDepth 100000 in
theorem g_value_Compare_ac {a0 : GValue} {b1 : GValue} {r : Int × Int} (H : g_value_Compare a0 b1 = some r) : ACp Tryd.prog 16 [(.agg (GValue.cs a0)), (.agg (GValue.cs b1))] (.tup [(AV.int r.1), (AV.int r.2)]) := by
  refine ACp_of (AC2_of_body (vs := [.i r.1, .i r.2]) Tryd.func16 rfl rfl (Nat.le_of_ble_eq_true rfl) rfl ?_) (fun _ => .same _)
  unfold g_value_Compare at H
  refine as2 [(0, .g (GValue.cs a0)), (1, .g (GValue.cs b1))] [] rfl rfl rfl ?_
  refine sg [0, 1, 2, 3] rfl ?_
  refine r_op rfl rfl (MakeD.opD (n_box 2 rfl rfl) rfl rfl rfl rfl) ?_
  refine r_op rfl rfl (MakeD.opD (n_box 3 rfl rfl) rfl rfl rfl rfl) ?_
  refine rp rfl rfl (p_asg rfl rfl) ?_
  refine rp rfl rfl (p_asg rfl rfl) ?_
  refine rz [(2, .q 2 (0)), (3, .q 3 (0))] [(2, .pure (GValue.cs a0)), (3, .pure (GValue.cs b1))] rfl rfl rfl ?_
  refine AW2_seq ?_
  refine sg [0, 1, 2, 3] rfl ?_
  refine rp rfl rfl (u_lda rfl rfl Tryd.underlying24 rfl in_24 rfl (Nat.succ_pos _) (Sub.refl _) (GValue.len a0)) ?_
  refine rp rfl rfl (u_lda rfl rfl Tryd.underlying24 rfl in_24 rfl (Nat.succ_pos _) (Sub.refl _) (GValue.len b1)) ?_
  refine bindK H fun r'1 h1 H => ?_
  refine rp rfl rfl (p_callp rfl rfl rfl Tryd.func42 rfl rfl (g_value_both_ac h1) ⟨rfl, rfl, trivial⟩) ?_
  refine rp rfl rfl (p_asg rfl rfl) ?_
  refine rz [(2, .q 2 (0)), (3, .q 3 (0)), (6, .i r'1)] [(2, .pure (GValue.cs a0)), (3, .pure (GValue.cs b1))] rfl rfl rfl ?_
  refine sg [0, 1] rfl ?_
  refine rp rfl rfl (p_move rfl rfl) ?_
  refine rp rfl rfl (p_ine rfl rfl rfl) ?_
  refine rz [(2, .q 2 (0)), (3, .q 3 (0)), (6, .i r'1), (11, .b (decide (r'1 ≠ (0 : Int))))] [(2, .pure (GValue.cs a0)), (3, .pure (GValue.cs b1))] rfl rfl rfl ?_
  refine AW2_if (p := r'1 ≠ (0 : Int)) rfl (fun h2 => ?_) (fun h2 => ?_)
  · replace H := ite_then h2 H
    refine sg [0, 1, 2] rfl ?_
    refine rp rfl rfl (p_move rfl rfl) ?_
    refine rp rfl rfl (p_asg rfl rfl) ?_
    refine rp rfl rfl (p_asg rfl rfl) ?_
    refine rz [(4, .i (0 : Int)), (5, .i r'1)] [] rfl rfl rfl ?_
    refine AW2_ret ?_
    have hz := some_elim H
    subst hz
    exact ⟨⟨res_tmp (.same _), res_tmp (.same _), trivial⟩, trivial⟩
  · replace H := ite_else h2 H
    refine as2 [(2, .q 2 (0)), (3, .q 3 (0))] [(2, .pure (GValue.cs a0)), (3, .pure (GValue.cs b1))] rfl rfl rfl ?_
    refine AW2_skip ?_
    refine sg [0, 1, 2, 3, 4] rfl ?_
    refine rp rfl rfl (u_lda rfl rfl Tryd.underlying24 rfl in_24 rfl (Nat.succ_pos _) (Sub.refl _) (GValue.len a0)) ?_
    refine rp rfl rfl (u_lda rfl rfl Tryd.underlying24 rfl in_24 rfl (Nat.succ_pos _) (Sub.refl _) (GValue.len b1)) ?_
    refine bindK H fun r'2 h3 H => ?_
    refine rp rfl rfl (p_callp rfl rfl rfl Tryd.func43 rfl rfl (g_value_order_ac h3) ⟨rfl, rfl, trivial⟩) ?_
    refine rp rfl rfl (p_asg rfl rfl) ?_
    refine rp rfl rfl (p_asg rfl rfl) ?_
    refine rz [(4, .i r'2), (5, .i (0 : Int))] [] rfl rfl rfl ?_
    refine AW2_ret ?_
    have hz := some_elim H
    subst hz
    exact ⟨⟨res_tmp (.same _), res_tmp (.same _), trivial⟩, trivial⟩

/-! chirographref.faults -/
noncomputable def g_ref_faults_l0 (l0 : List GValue) : Int → Option (Int ⊕ (Int ⊕ Unit))
  | t8_0 => (if t8_0 < (l0.length : Int) then if 0 ≤ t8_0 ∧ t8_0 < (l0.length : Int) then (g_ref_ValueFault (lrd l0 t8_0.toNat)).bind fun r'1 => (if r'1 ≠ (0 : Int) then some (.inr (.inl r'1)) else some (.inl (w64 (t8_0 + (1 : Int))))) else none else some (.inr (.inr ())))
noncomputable def g_ref_faults (l0 : List GValue) : Option (Int) :=
  (loopO (g_ref_faults_l0 l0) (0 : Int)).bind fun o'5 => match o'5 with | .inl y'6 => some y'6 | .inr (y'7) => some (0 : Int)
set_option maxHeartbeats 4000000 in
set_option maxRecDepth 100000 in
theorem g_ref_faults_ac {l0 : List GValue} {r : Int} (H : g_ref_faults l0 = some r) : ACp Tryd.prog 44 [((fun q : List GValue => AV.lst (q.flatMap GValue.cs) q.length) l0)] (AV.int r) := by
  refine ACp_of (AC2_of_body (vs := [.i r]) Tryd.func44 rfl rfl (Nat.le_of_ble_eq_true rfl) rfl ?_) (fun _ => .same _)
  unfold g_ref_faults at H
  refine as2 [(0, .p ((fun q : List GValue => AV.lst (q.flatMap GValue.cs) q.length) l0))] [] rfl rfl rfl ?_
  refine sg [0] rfl ?_
  refine rp rfl rfl (p_asg rfl rfl) ?_
  refine rz [(0, .p ((fun q : List GValue => AV.lst (q.flatMap GValue.cs) q.length) l0))] [] rfl rfl rfl ?_
  refine AW2_seq ?_
  refine sg [0, 1, 2] rfl ?_
  refine rp rfl rfl (p_move rfl rfl) ?_
  refine rp rfl rfl (p_lenl rfl Tryd.underlying32 rfl rfl) ?_
  refine rp rfl rfl (p_move rfl rfl) ?_
  refine rz [(6, .p ((fun q : List GValue => AV.lst (q.flatMap GValue.cs) q.length) l0)), (7, .i (l0.length : Int)), (8, .i (0 : Int))] [] rfl rfl rfl ?_
  refine AW2_block ?_
  refine as2 [(6, .p ((fun q : List GValue => AV.lst (q.flatMap GValue.cs) q.length) l0)), (7, .i (l0.length : Int)), (8, .i (0 : Int))] [] rfl rfl rfl ?_
  refine bindK H fun o'5 h5 H => ?_
  refine AW2_loopO (fun a'2 : Int => (⟨[(6, .p ((fun q : List GValue => AV.lst (q.flatMap GValue.cs) q.length) l0)), (7, .i (l0.length : Int)), (8, .i a'2)], [], 18⟩ : TS)) (fun (o : Int ⊕ Unit) e s' => match o with | .inl y'3 => e = Go.Exit.ret ∧ ResAll Tryd.prog s' [ResultVar.tmp 2] [.i y'3] ∧ HFits s' [] | .inr (y'4) => e = Go.Exit.exit 0 ∧ s' = (⟨[], [], 18⟩ : TS)) h5 rfl (fun t8_0 x hx => ?_) (fun e s' hs => ?_)
  · clear H
    have H := hx
    clear hx
    unfold g_ref_faults_l0 at H
    refine sg [0] rfl ?_
    refine rp rfl rfl (p_bin rfl rfl rfl rfl) ?_
    refine rz [(6, .p ((fun q : List GValue => AV.lst (q.flatMap GValue.cs) q.length) l0)), (7, .i (l0.length : Int)), (8, .i t8_0), (9, .b (decide (t8_0 < (l0.length : Int))))] [] rfl rfl rfl ?_
    refine AW2_seq ?_
    refine AW2_if (p := t8_0 < (l0.length : Int)) rfl (fun h1 => ?_) (fun h1 => ?_)
    · replace H := ite_then h1 H
      refine as2 [(6, .p ((fun q : List GValue => AV.lst (q.flatMap GValue.cs) q.length) l0)), (7, .i (l0.length : Int)), (8, .i t8_0)] [] rfl rfl rfl ?_
      refine AW2_skip ?_
      refine AW2_seq ?_
      refine AW2_block ?_
      refine sg [0, 1, 2, 3] rfl ?_
      refine chkK H fun h2 H => ?_
      refine rp rfl rfl (u_ixl rfl rfl Tryd.underlying32 in_24 rfl rfl (ixe h2) (ixn h2) (fne (fun x => (GValue.len x)) (by decide) (ixn h2))) ?_
      refine rp rfl rfl (u_lda rfl rfl Tryd.underlying24 rfl in_24 rfl (Nat.succ_pos _) (Sub.fm default (fun x => (GValue.len x)) (ixn h2)) (GValue.len (lrd l0 t8_0.toNat))) ?_
      refine r_op rfl rfl (MakeD.opD (u_alloc 4 rfl in_24 one_24 zc_24) rfl rfl rfl rfl) ?_
      refine r_op rfl rfl (u_st rfl rfl rfl rfl rfl in_24 (GValue.len (lrd l0 t8_0.toNat)) (ne_of_lt (n := 0) (Nat.lt_of_lt_of_eq (by decide) (Eq.symm (GValue.len GValue.zero)))) (Upd.refl ((GValue.len (lrd l0 t8_0.toNat)).trans (GValue.len GValue.zero).symm))) ?_
      refine rz [(4, .q 4 (0)), (6, .p ((fun q : List GValue => AV.lst (q.flatMap GValue.cs) q.length) l0)), (7, .i (l0.length : Int)), (8, .i t8_0)] [(4, .pure (GValue.cs (lrd l0 t8_0.toNat)))] rfl rfl rfl ?_
      refine sg [0, 1, 2] rfl ?_
      refine rp rfl rfl (u_lda rfl rfl Tryd.underlying24 rfl in_24 rfl (Nat.succ_pos _) (Sub.refl _) (GValue.len (lrd l0 t8_0.toNat))) ?_
      refine bindK H fun r'1 h3 H => ?_
      refine rp rfl rfl (p_callp rfl rfl rfl Tryd.func15 rfl rfl (g_ref_ValueFault_ac h3) ⟨rfl, trivial⟩) ?_
      refine rp rfl rfl (p_asg rfl rfl) ?_
      refine rz [(5, .i r'1), (6, .p ((fun q : List GValue => AV.lst (q.flatMap GValue.cs) q.length) l0)), (7, .i (l0.length : Int)), (8, .i t8_0)] [] rfl rfl rfl ?_
      refine sg [0, 1] rfl ?_
      refine rp rfl rfl (p_move rfl rfl) ?_
      refine rp rfl rfl (p_ine rfl rfl rfl) ?_
      refine rz [(5, .i r'1), (6, .p ((fun q : List GValue => AV.lst (q.flatMap GValue.cs) q.length) l0)), (7, .i (l0.length : Int)), (8, .i t8_0), (15, .b (decide (r'1 ≠ (0 : Int))))] [] rfl rfl rfl ?_
      refine AW2_if (p := r'1 ≠ (0 : Int)) rfl (fun h4 => ?_) (fun h4 => ?_)
      · replace H := ite_then h4 H
        refine sg [0, 1] rfl ?_
        refine rp rfl rfl (p_move rfl rfl) ?_
        refine rp rfl rfl (p_asg rfl rfl) ?_
        refine rz [(2, .i r'1)] [] rfl rfl rfl ?_
        refine AW2_ret ?_
        have hz := some_elim H
        subst hz
        exact ⟨rfl, ⟨res_tmp (.same _), trivial⟩, trivial⟩
      · replace H := ite_else h4 H
        refine as2 [(6, .p ((fun q : List GValue => AV.lst (q.flatMap GValue.cs) q.length) l0)), (7, .i (l0.length : Int)), (8, .i t8_0)] [] rfl rfl rfl ?_
        refine AW2_skip ?_
        refine AW2_reg [0, 1] rfl ?_
        refine rp rfl rfl (p_bin rfl rfl rfl rfl) ?_
        refine rp rfl rfl (p_move rfl rfl) ?_
        refine rz [(6, .p ((fun q : List GValue => AV.lst (q.flatMap GValue.cs) q.length) l0)), (7, .i (l0.length : Int)), (8, .i (w64 (t8_0 + (1 : Int))))] [] rfl rfl rfl ?_
        have hz := some_elim H
        subst hz
        exact ⟨rfl, rfl⟩
    · replace H := ite_else h1 H
      refine as2 [] [] rfl rfl rfl ?_
      refine AW2_exit ?_
      refine thenQ2_exit ?_
      have hz := some_elim H
      subst hz
      exact ⟨rfl, rfl⟩
  · rcases o'5 with y'6 | y'7
    · obtain ⟨rfl, hs⟩ := hs
      refine ⟨by simp, ?_⟩
      have hz := some_elim H
      subst hz
      exact ⟨hs.1, hs.2⟩
    · obtain ⟨rfl, rfl⟩ := hs
      refine ⟨by simp, ?_⟩
      refine blockQ2_exit ?_
      refine sg [0] rfl ?_
      refine rp rfl rfl (p_asg rfl rfl) ?_
      refine rz [(2, .i (0 : Int))] [] rfl rfl rfl ?_
      refine AW2_ret ?_
      have hz := some_elim H
      subst hz
      exact ⟨⟨res_tmp (.same _), trivial⟩, trivial⟩

/-! chirographref.sign -/
noncomputable def g_ref_sign (n0 : Int) : Option (Int) :=
  (if n0 > (0 : Int) then some (1 : Int) else (if n0 < (0 : Int) then some (-1 : Int) else some (0 : Int)))
set_option maxHeartbeats 4000000 in
set_option maxRecDepth 100000 in
theorem g_ref_sign_ac {n0 : Int} {r : Int} (H : g_ref_sign n0 = some r) : ACp Tryd.prog 67 [(AV.int n0)] (AV.int r) := by
  refine ACp_of (AC2_of_body (vs := [.i r]) Tryd.func67 rfl rfl (Nat.le_of_ble_eq_true rfl) rfl ?_) (fun _ => .same _)
  unfold g_ref_sign at H
  refine as2 [(0, .i n0)] [] rfl rfl rfl ?_
  refine sg [0] rfl ?_
  refine rp rfl rfl (p_asg rfl rfl) ?_
  refine rz [(0, .i n0)] [] rfl rfl rfl ?_
  refine AW2_seq ?_
  refine sg [0, 1] rfl ?_
  refine rp rfl rfl (p_move rfl rfl) ?_
  refine rp rfl rfl (p_bin rfl rfl rfl rfl) ?_
  refine rz [(0, .i n0), (4, .b (decide (n0 > (0 : Int))))] [] rfl rfl rfl ?_
  refine AW2_if (p := n0 > (0 : Int)) rfl (fun h1 => ?_) (fun h1 => ?_)
  · replace H := ite_then h1 H
    refine sg [0] rfl ?_
    refine rp rfl rfl (p_asg rfl rfl) ?_
    refine rz [(2, .i (1 : Int))] [] rfl rfl rfl ?_
    refine AW2_ret ?_
    have hz := some_elim H
    subst hz
    exact ⟨⟨res_tmp (.same _), trivial⟩, trivial⟩
  · replace H := ite_else h1 H
    refine as2 [(0, .i n0)] [] rfl rfl rfl ?_
    refine AW2_skip ?_
    refine AW2_seq ?_
    refine sg [0, 1] rfl ?_
    refine rp rfl rfl (p_move rfl rfl) ?_
    refine rp rfl rfl (p_bin rfl rfl rfl rfl) ?_
    refine rz [(6, .b (decide (n0 < (0 : Int))))] [] rfl rfl rfl ?_
    refine AW2_if (p := n0 < (0 : Int)) rfl (fun h2 => ?_) (fun h2 => ?_)
    · replace H := ite_then h2 H
      refine sg [0] rfl ?_
      refine rp rfl rfl (p_asg rfl rfl) ?_
      refine rz [(2, .i (-1 : Int))] [] rfl rfl rfl ?_
      refine AW2_ret ?_
      have hz := some_elim H
      subst hz
      exact ⟨⟨res_tmp (.same _), trivial⟩, trivial⟩
    · replace H := ite_else h2 H
      refine as2 [] [] rfl rfl rfl ?_
      refine AW2_skip ?_
      refine sg [0] rfl ?_
      refine rp rfl rfl (p_asg rfl rfl) ?_
      refine rz [(2, .i (0 : Int))] [] rfl rfl rfl ?_
      refine AW2_ret ?_
      have hz := some_elim H
      subst hz
      exact ⟨⟨res_tmp (.same _), trivial⟩, trivial⟩

/-! chirographref.risen -/
noncomputable def g_ref_risen (b0 : UInt64) : Option (UInt64) :=
  (if b0 < (9223372036854775808 : UInt64) then some (b0 + (9223372036854775808 : UInt64)) else some (~~~ b0))
set_option maxHeartbeats 4000000 in
set_option maxRecDepth 100000 in
theorem g_ref_risen_ac {b0 : UInt64} {r : UInt64} (H : g_ref_risen b0 = some r) : ACp Tryd.prog 69 [(AV.u64 b0)] (AV.u64 r) := by
  refine ACp_of (AC2_of_body (vs := [.p (AV.u64 r)]) Tryd.func69 rfl rfl (Nat.le_of_ble_eq_true rfl) rfl ?_) (fun _ => .same _)
  unfold g_ref_risen at H
  refine as2 [(0, .p (AV.u64 b0))] [] rfl rfl rfl ?_
  refine sg [0] rfl ?_
  refine rp rfl rfl (p_asg rfl rfl) ?_
  refine rz [(0, .p (AV.u64 b0))] [] rfl rfl rfl ?_
  refine AW2_seq ?_
  refine sg [0, 1] rfl ?_
  refine rp rfl rfl (p_move rfl rfl) ?_
  refine rp rfl rfl (p_u64lt (a := b0) (b := (9223372036854775808 : UInt64)) rfl rfl rfl) ?_
  refine rz [(0, .p (AV.u64 b0)), (4, .b (decide (b0 < (9223372036854775808 : UInt64))))] [] rfl rfl rfl ?_
  refine AW2_if (p := b0 < (9223372036854775808 : UInt64)) rfl (fun h1 => ?_) (fun h1 => ?_)
  · replace H := ite_then h1 H
    refine sg [0, 1, 2] rfl ?_
    refine rp rfl rfl (p_move rfl rfl) ?_
    refine rp rfl rfl (p_u64add (a := b0) (b := (9223372036854775808 : UInt64)) rfl rfl rfl) ?_
    refine rp rfl rfl (p_asg rfl rfl) ?_
    refine rz [(2, .p (AV.u64 (b0 + (9223372036854775808 : UInt64))))] [] rfl rfl rfl ?_
    refine AW2_ret ?_
    have hz := some_elim H
    subst hz
    exact ⟨⟨res_tmp (.same _), trivial⟩, trivial⟩
  · replace H := ite_else h1 H
    refine as2 [(0, .p (AV.u64 b0))] [] rfl rfl rfl ?_
    refine AW2_skip ?_
    refine sg [0, 1, 2] rfl ?_
    refine rp rfl rfl (p_move rfl rfl) ?_
    refine rp rfl rfl (p_u64cpl rfl rfl) ?_
    refine rp rfl rfl (p_asg rfl rfl) ?_
    refine rz [(2, .p (AV.u64 (~~~ b0)))] [] rfl rfl rfl ?_
    refine AW2_ret ?_
    have hz := some_elim H
    subst hz
    exact ⟨⟨res_tmp (.same _), trivial⟩, trivial⟩

/-! chirographref.bitsOrder -/
noncomputable def g_ref_bitsOrder (a0 : UInt64) (b1 : UInt64) : Option (Int) :=
  (if a0 < b1 then some (-1 : Int) else (if b1 < a0 then some (1 : Int) else some (0 : Int)))
set_option maxHeartbeats 4000000 in
set_option maxRecDepth 100000 in
theorem g_ref_bitsOrder_ac {a0 : UInt64} {b1 : UInt64} {r : Int} (H : g_ref_bitsOrder a0 b1 = some r) : ACp Tryd.prog 68 [(AV.u64 a0), (AV.u64 b1)] (AV.int r) := by
  refine ACp_of (AC2_of_body (vs := [.i r]) Tryd.func68 rfl rfl (Nat.le_of_ble_eq_true rfl) rfl ?_) (fun _ => .same _)
  unfold g_ref_bitsOrder at H
  refine as2 [(0, .p (AV.u64 a0)), (1, .p (AV.u64 b1))] [] rfl rfl rfl ?_
  refine sg [0] rfl ?_
  refine rp rfl rfl (p_asg rfl rfl) ?_
  refine rz [(0, .p (AV.u64 a0)), (1, .p (AV.u64 b1))] [] rfl rfl rfl ?_
  refine AW2_seq ?_
  refine sg [0, 1, 2] rfl ?_
  refine rp rfl rfl (p_move rfl rfl) ?_
  refine rp rfl rfl (p_move rfl rfl) ?_
  refine rp rfl rfl (p_u64lt (a := a0) (b := b1) rfl rfl rfl) ?_
  refine rz [(0, .p (AV.u64 a0)), (1, .p (AV.u64 b1)), (7, .b (decide (a0 < b1)))] [] rfl rfl rfl ?_
  refine AW2_if (p := a0 < b1) rfl (fun h1 => ?_) (fun h1 => ?_)
  · replace H := ite_then h1 H
    refine sg [0] rfl ?_
    refine rp rfl rfl (p_asg rfl rfl) ?_
    refine rz [(4, .i (-1 : Int))] [] rfl rfl rfl ?_
    refine AW2_ret ?_
    have hz := some_elim H
    subst hz
    exact ⟨⟨res_tmp (.same _), trivial⟩, trivial⟩
  · replace H := ite_else h1 H
    refine as2 [(0, .p (AV.u64 a0)), (1, .p (AV.u64 b1))] [] rfl rfl rfl ?_
    refine AW2_skip ?_
    refine AW2_seq ?_
    refine sg [0, 1, 2] rfl ?_
    refine rp rfl rfl (p_move rfl rfl) ?_
    refine rp rfl rfl (p_move rfl rfl) ?_
    refine rp rfl rfl (p_u64gt (a := a0) (b := b1) rfl rfl rfl) ?_
    refine rz [(10, .b (decide (b1 < a0)))] [] rfl rfl rfl ?_
    refine AW2_if (p := b1 < a0) rfl (fun h2 => ?_) (fun h2 => ?_)
    · replace H := ite_then h2 H
      refine sg [0] rfl ?_
      refine rp rfl rfl (p_asg rfl rfl) ?_
      refine rz [(4, .i (1 : Int))] [] rfl rfl rfl ?_
      refine AW2_ret ?_
      have hz := some_elim H
      subst hz
      exact ⟨⟨res_tmp (.same _), trivial⟩, trivial⟩
    · replace H := ite_else h2 H
      refine as2 [] [] rfl rfl rfl ?_
      refine AW2_skip ?_
      refine sg [0] rfl ?_
      refine rp rfl rfl (p_asg rfl rfl) ?_
      refine rz [(4, .i (0 : Int))] [] rfl rfl rfl ?_
      refine AW2_ret ?_
      have hz := some_elim H
      subst hz
      exact ⟨⟨res_tmp (.same _), trivial⟩, trivial⟩

/-! chirographref.bytesOrder -/
noncomputable def g_ref_bytesOrder_l0 (a0 : List UInt8) (b1 : List UInt8) : Int → Option (Int ⊕ (Int ⊕ Unit))
  | i5_0 => (if (i5_0 < (a0.length : Int)) ∧ (i5_0 < (b1.length : Int)) then if 0 ≤ i5_0 ∧ i5_0 < (a0.length : Int) then if 0 ≤ i5_0 ∧ i5_0 < (b1.length : Int) then (if (lrd a0 i5_0.toNat) ≠ (lrd b1 i5_0.toNat) then if 0 ≤ i5_0 ∧ i5_0 < (a0.length : Int) then if 0 ≤ i5_0 ∧ i5_0 < (b1.length : Int) then (if (lrd a0 i5_0.toNat) < (lrd b1 i5_0.toNat) then some (.inr (.inl (-1 : Int))) else some (.inr (.inl (1 : Int)))) else none else none else some (.inl (w64 (i5_0 + (1 : Int))))) else none else none else some (.inr (.inr ())))
noncomputable def g_ref_bytesOrder (a0 : List UInt8) (b1 : List UInt8) : Option (Int) :=
  (loopO (g_ref_bytesOrder_l0 a0 b1) (0 : Int)).bind fun o'4 => match o'4 with | .inl y'5 => some y'5 | .inr (y'6) => (g_ref_sign (w64 ((a0.length : Int) - (b1.length : Int)))).bind fun r'7 => some r'7
set_option maxHeartbeats 4000000 in
set_option maxRecDepth 100000 in
theorem g_ref_bytesOrder_ac {a0 : List UInt8} {b1 : List UInt8} {r : Int} (H : g_ref_bytesOrder a0 b1 = some r) : ACp Tryd.prog 70 [(AV.txt a0), (AV.txt b1)] (AV.int r) := by
  refine ACp_of (AC2_of_body (vs := [.i r]) Tryd.func70 rfl rfl (Nat.le_of_ble_eq_true rfl) rfl ?_) (fun _ => .same _)
  unfold g_ref_bytesOrder at H
  refine as2 [(0, .t a0), (1, .t b1)] [] rfl rfl rfl ?_
  refine sg [0] rfl ?_
  refine rp rfl rfl (p_asg rfl rfl) ?_
  refine rz [(0, .t a0), (1, .t b1)] [] rfl rfl rfl ?_
  refine AW2_seq ?_
  refine sg [0] rfl ?_
  refine rp rfl rfl (p_asg rfl rfl) ?_
  refine rz [(0, .t a0), (1, .t b1), (5, .i (0 : Int))] [] rfl rfl rfl ?_
  refine AW2_block ?_
  refine as2 [(0, .t a0), (1, .t b1), (5, .i (0 : Int))] [] rfl rfl rfl ?_
  refine bindK H fun o'4 h9 H => ?_
  refine AW2_loopO (fun a'1 : Int => (⟨[(0, .t a0), (1, .t b1), (5, .i a'1)], [], 38⟩ : TS)) (fun (o : Int ⊕ Unit) e s' => match o with | .inl y'2 => e = Go.Exit.ret ∧ ResAll Tryd.prog s' [ResultVar.tmp 4] [.i y'2] ∧ HFits s' [] | .inr (y'3) => e = Go.Exit.exit 0 ∧ s' = (⟨[(0, .t a0), (1, .t b1)], [], 38⟩ : TS)) h9 rfl (fun i5_0 x hx => ?_) (fun e s' hs => ?_)
  · clear H
    have H := hx
    clear hx
    unfold g_ref_bytesOrder_l0 at H
    refine AW2_seq ?_
    refine AW2_seq ?_
    refine AW2_mid (⟨[(0, .t a0), (1, .t b1), (5, .i i5_0), (15, .b (decide ((i5_0 < (a0.length : Int)) ∧ (i5_0 < (b1.length : Int)))))], [], 38⟩ : TS) ?_ ?_
    · refine AW2_reg [0, 1, 2, 3, 4, 5, 6, 7, 8, 9] rfl ?_
      refine rp rfl rfl (p_move rfl rfl) ?_
      refine rp rfl rfl (p_move rfl rfl) ?_
      refine rp rfl rfl (p_lent rfl Tryd.underlying9 rfl) ?_
      refine rp rfl rfl (p_bin rfl rfl rfl rfl) ?_
      refine rp rfl rfl (p_move rfl rfl) ?_
      refine (Classical.em (i5_0 < (a0.length : Int))).elim (fun h1 => ?_) (fun h1 => ?_)
      · refine r_on rfl rfl rfl rfl (decide_eq_true (p := i5_0 < (a0.length : Int)) h1) rfl (PureD.opD (p_move rfl rfl)) ?_
        refine r_on rfl rfl rfl rfl (decide_eq_true (p := i5_0 < (a0.length : Int)) h1) rfl (PureD.opD (p_move rfl rfl)) ?_
        refine r_on rfl rfl rfl rfl (decide_eq_true (p := i5_0 < (a0.length : Int)) h1) rfl (PureD.opD (p_lent rfl Tryd.underlying9 rfl)) ?_
        refine r_on rfl rfl rfl rfl (decide_eq_true (p := i5_0 < (a0.length : Int)) h1) rfl (PureD.opD (p_bin rfl rfl rfl rfl)) ?_
        refine rp rfl rfl (p_pkt rfl rfl (decide_eq_true (p := i5_0 < (a0.length : Int)) h1) (tb ((and_l (p := i5_0 < (a0.length : Int)) (q := i5_0 < (b1.length : Int)) h1)))) ?_
        refine rs [(0, .t a0), (1, .t b1), (5, .i i5_0), (15, .b (decide ((i5_0 < (a0.length : Int)) ∧ (i5_0 < (b1.length : Int)))))] [] rfl rfl rfl ?_
        exact RunW_nil rfl
      · refine r_off rfl rfl rfl rfl (decide_eq_false (p := i5_0 < (a0.length : Int)) h1) rfl rfl ?_
        refine r_off rfl rfl rfl rfl (decide_eq_false (p := i5_0 < (a0.length : Int)) h1) rfl rfl ?_
        refine r_off rfl rfl rfl rfl (decide_eq_false (p := i5_0 < (a0.length : Int)) h1) rfl rfl ?_
        refine r_off rfl rfl rfl rfl (decide_eq_false (p := i5_0 < (a0.length : Int)) h1) rfl rfl ?_
        refine rp rfl rfl (p_pkf rfl rfl (decide_eq_false (p := i5_0 < (a0.length : Int)) h1) (tb (decide_eq_false (p := (i5_0 < (a0.length : Int)) ∧ (i5_0 < (b1.length : Int))) (fun x => h1 x.1)).symm)) ?_
        refine rs [(0, .t a0), (1, .t b1), (5, .i i5_0), (15, .b (decide ((i5_0 < (a0.length : Int)) ∧ (i5_0 < (b1.length : Int)))))] [] rfl rfl rfl ?_
        exact RunW_nil rfl
    · refine AW2_if (p := (i5_0 < (a0.length : Int)) ∧ (i5_0 < (b1.length : Int))) rfl (fun h2 => ?_) (fun h2 => ?_)
      · replace H := ite_then h2 H
        refine as2 [(0, .t a0), (1, .t b1), (5, .i i5_0)] [] rfl rfl rfl ?_
        refine AW2_skip ?_
        refine AW2_seq ?_
        refine AW2_block ?_
        refine AW2_seq ?_
        refine chkK H fun h3 H => ?_
        refine chkK H fun h4 H => ?_
        refine AW2_ghoQ ?_
        refine AW2_draw 6 [6] (fun k => ([.t a0, .i i5_0, .p (AV.b8 (lrd a0 i5_0.toNat)), .t b1, .i i5_0, .p (AV.b8 (lrd b1 i5_0.toNat))] : List TV).getD k TV.any) (fun k => ([[(0, none)], [(5, none)], [(18, some 0), (19, some 1)], [(1, none)], [(5, none)], [(21, some 3), (22, some 4)]] : List (List (Nat × Option Nat))).getD k []) [(0, none), (1, none), (5, none), (20, some 2), (23, some 5)] [] (fun k => ([[], [], [0, 1], [], [], [3, 4], [0, 1, 2, 3, 4, 5]] : List (List Nat)).getD k []) mixed (by kernel_rfl) rfl rfl (a_op (g_x rfl (x_p rfl (p_move rfl rfl) rfl)) (a_op (g_x rfl (x_p rfl (p_move rfl rfl) rfl)) (a_op (g_x rfl (x_p rfl (p_ixt rfl Tryd.underlying9 rfl rfl (ixe h3) (lrd_get (ixn h3))) rfl)) (a_op (g_x rfl (x_p rfl (p_move rfl rfl) rfl)) (a_op (g_x rfl (x_p rfl (p_move rfl rfl) rfl)) (a_op (g_x rfl (x_p rfl (p_ixt rfl Tryd.underlying9 rfl rfl (ixe h4) (lrd_get (ixn h4))) rfl)) (a_nil))))))) ?_
        refine t_op rfl rfl (PureD.opD (p_u8ne (a := (lrd a0 i5_0.toNat)) (b := (lrd b1 i5_0.toNat)) rfl rfl rfl)) ?_
        refine t_gho (Gho_st (L := [(0, .t a0), (1, .t b1), (5, .i i5_0), (24, .b (decide ((lrd a0 i5_0.toNat) ≠ (lrd b1 i5_0.toNat))))]) (H := []) rfl ⟨TLes.same _, TLes.same _, TLes.same _, TLes.same _, trivial⟩ trivial) ?_
        refine AW2_if (p := (lrd a0 i5_0.toNat) ≠ (lrd b1 i5_0.toNat)) rfl (fun h5 => ?_) (fun h5 => ?_)
        · replace H := ite_then h5 H
          refine AW2_seq ?_
          refine AW2_seq ?_
          refine chkK H fun h6 H => ?_
          refine chkK H fun h7 H => ?_
          refine AW2_ghoQ ?_
          refine AW2_draw 6 [6] (fun k => ([.t a0, .i i5_0, .p (AV.b8 (lrd a0 i5_0.toNat)), .t b1, .i i5_0, .p (AV.b8 (lrd b1 i5_0.toNat))] : List TV).getD k TV.any) (fun k => ([[(0, none)], [(5, none)], [(25, some 0), (26, some 1)], [(1, none)], [(5, none)], [(28, some 3), (29, some 4)]] : List (List (Nat × Option Nat))).getD k []) [(27, some 2), (30, some 5)] [] (fun k => ([[], [], [0, 1], [], [], [3, 4], [0, 1, 2, 3, 4, 5]] : List (List Nat)).getD k []) mixed (by kernel_rfl) rfl rfl (a_op (g_x rfl (x_p rfl (p_move rfl rfl) rfl)) (a_op (g_x rfl (x_p rfl (p_move rfl rfl) rfl)) (a_op (g_x rfl (x_p rfl (p_ixt rfl Tryd.underlying9 rfl rfl (ixe h6) (lrd_get (ixn h6))) rfl)) (a_op (g_x rfl (x_p rfl (p_move rfl rfl) rfl)) (a_op (g_x rfl (x_p rfl (p_move rfl rfl) rfl)) (a_op (g_x rfl (x_p rfl (p_ixt rfl Tryd.underlying9 rfl rfl (ixe h7) (lrd_get (ixn h7))) rfl)) (a_nil))))))) ?_
          refine t_op rfl rfl (PureD.opD (p_u8lt (a := (lrd a0 i5_0.toNat)) (b := (lrd b1 i5_0.toNat)) rfl rfl rfl)) ?_
          refine t_gho (Gho_st (L := [(31, .b (decide ((lrd a0 i5_0.toNat) < (lrd b1 i5_0.toNat))))]) (H := []) rfl ⟨TLes.same _, trivial⟩ trivial) ?_
          refine AW2_if (p := (lrd a0 i5_0.toNat) < (lrd b1 i5_0.toNat)) rfl (fun h8 => ?_) (fun h8 => ?_)
          · replace H := ite_then h8 H
            refine sg [0] rfl ?_
            refine rp rfl rfl (p_asg rfl rfl) ?_
            refine rz [(4, .i (-1 : Int))] [] rfl rfl rfl ?_
            refine AW2_ret ?_
            have hz := some_elim H
            subst hz
            exact ⟨rfl, ⟨res_tmp (.same _), trivial⟩, trivial⟩
          · replace H := ite_else h8 H
            refine as2 [] [] rfl rfl rfl ?_
            refine AW2_skip ?_
            refine sg [0] rfl ?_
            refine rp rfl rfl (p_asg rfl rfl) ?_
            refine rz [(4, .i (1 : Int))] [] rfl rfl rfl ?_
            refine AW2_ret ?_
            have hz := some_elim H
            subst hz
            exact ⟨rfl, ⟨res_tmp (.same _), trivial⟩, trivial⟩
        · replace H := ite_else h5 H
          refine as2 [(0, .t a0), (1, .t b1), (5, .i i5_0)] [] rfl rfl rfl ?_
          refine AW2_skip ?_
          refine AW2_reg [0, 1, 2] rfl ?_
          refine rp rfl rfl (p_move rfl rfl) ?_
          refine rp rfl rfl (p_bin rfl rfl rfl rfl) ?_
          refine rp rfl rfl (p_asg rfl rfl) ?_
          refine rz [(0, .t a0), (1, .t b1), (5, .i (w64 (i5_0 + (1 : Int))))] [] rfl rfl rfl ?_
          have hz := some_elim H
          subst hz
          exact ⟨rfl, rfl⟩
      · replace H := ite_else h2 H
        refine as2 [(0, .t a0), (1, .t b1)] [] rfl rfl rfl ?_
        refine AW2_exit ?_
        refine thenQ2_exit ?_
        have hz := some_elim H
        subst hz
        exact ⟨rfl, rfl⟩
  · rcases o'4 with y'5 | y'6
    · obtain ⟨rfl, hs⟩ := hs
      refine ⟨by simp, ?_⟩
      have hz := some_elim H
      subst hz
      exact ⟨hs.1, hs.2⟩
    · obtain ⟨rfl, rfl⟩ := hs
      refine ⟨by simp, ?_⟩
      refine blockQ2_exit ?_
      refine sg [0, 1, 2, 3, 4, 5, 6] rfl ?_
      refine rp rfl rfl (p_move rfl rfl) ?_
      refine rp rfl rfl (p_lent rfl Tryd.underlying9 rfl) ?_
      refine rp rfl rfl (p_move rfl rfl) ?_
      refine rp rfl rfl (p_lent rfl Tryd.underlying9 rfl) ?_
      refine rp rfl rfl (p_bin rfl rfl rfl rfl) ?_
      refine bindK H fun r'7 h10 H => ?_
      refine rp rfl rfl (p_callp rfl rfl rfl Tryd.func67 rfl rfl (g_ref_sign_ac h10) ⟨rfl, trivial⟩) ?_
      refine rp rfl rfl (p_asg rfl rfl) ?_
      refine rz [(4, .i r'7)] [] rfl rfl rfl ?_
      refine AW2_ret ?_
      have hz := some_elim H
      subst hz
      exact ⟨⟨res_tmp (.same _), trivial⟩, trivial⟩
end Go.Proofs.YtfekkhinjdmcbaaDoor.VM
