/- Functions of the program, as they answer, and that their code comes to these answers. -/
import Derived.Test.YtalnmpfjgiecdaaDoorGl1
namespace Go.Proofs.YtalnmpfjgiecdaaDoor.VM
open Go Go.RowKit

structure GColumn where
  Name : List UInt8
  Kind : Int
  Null : Bool
deriving DecidableEq, Inhabited
def GColumn.zero : GColumn := ⟨[], (0 : Int), false⟩
def GColumn.cs (x : GColumn) : List AV := ([(AV.txt x.Name)]) ++ (([(AV.int x.Kind)]) ++ ([(AV.bool x.Null)]))
theorem GColumn.len (x : GColumn) : (GColumn.cs x).length = 3 := by
  simp only [GColumn.cs, List.length_append]
  rw [show ([(AV.txt x.Name)]).length = 1 from (show ([(AV.txt x.Name)]).length = 1 from rfl), show ([(AV.int x.Kind)]).length = 1 from (show ([(AV.int x.Kind)]).length = 1 from rfl), show ([(AV.bool x.Null)]).length = 1 from (show ([(AV.bool x.Null)]).length = 1 from rfl)]
theorem GColumn.sub0 (x : GColumn) : Sub (GColumn.cs x) 0 ([(AV.txt x.Name)]) := Sub.head _ _
theorem GColumn.upd0 (x : GColumn) (y : List UInt8) : Upd (GColumn.cs x) 0 ([(AV.txt y)]) (GColumn.cs { x with Name := y }) := Upd.head (show ([(AV.txt y)]).length = ([(AV.txt x.Name)]).length from rfl)
theorem GColumn.sub1 (x : GColumn) : Sub (GColumn.cs x) 1 ([(AV.int x.Kind)]) := Sub.skip (k := 1) (show ([(AV.txt x.Name)]).length = 1 from rfl) (Sub.head _ _)
theorem GColumn.upd1 (x : GColumn) (y : Int) : Upd (GColumn.cs x) 1 ([(AV.int y)]) (GColumn.cs { x with Kind := y }) := Upd.skip (k := 1) (show ([(AV.txt x.Name)]).length = 1 from rfl) (Upd.head (show ([(AV.int y)]).length = ([(AV.int x.Kind)]).length from rfl))
theorem GColumn.sub2 (x : GColumn) : Sub (GColumn.cs x) 2 ([(AV.bool x.Null)]) := Sub.skip (k := 1) (show ([(AV.txt x.Name)]).length = 1 from rfl) (Sub.skip (k := 1) (show ([(AV.int x.Kind)]).length = 1 from rfl) (Sub.refl _))
theorem GColumn.upd2 (x : GColumn) (y : Bool) : Upd (GColumn.cs x) 2 ([(AV.bool y)]) (GColumn.cs { x with Null := y }) := Upd.skip (k := 1) (show ([(AV.txt x.Name)]).length = 1 from rfl) (Upd.skip (k := 1) (show ([(AV.int x.Kind)]).length = 1 from rfl) (Upd.refl (show ([(AV.bool y)]).length = ([(AV.bool x.Null)]).length from rfl)))
theorem GColumn.nl (x : GColumn) : (GColumn.cs x).all noLst1 = true := nlA rfl (nlA rfl (rfl))
theorem in_24 : Info Tryd.prog 24 4 40 (.agg #[.int .i64 0, .string ⟨#[]⟩, .int .i64 0, .int .u64 0]) := by unfold Info; kernel_rfl
theorem one_24 : (.agg #[.int .i64 0, .string ⟨#[]⟩, .int .i64 0, .int .u64 0] : Value).cells.all (·.oneCell') = true := by kernel_rfl
theorem zc_24 : ((.agg #[.int .i64 0, .string ⟨#[]⟩, .int .i64 0, .int .u64 0] : Value).cells.toList.map zcell) = GToken.cs GToken.zero := by rfl
theorem pl_24 : placesOf Tryd.prog 24 = some [(0, 1), (1, 1), (2, 1), (3, 1)] := by kernel_rfl
theorem in_68 : Info Tryd.prog 68 3 32 (.agg #[.string ⟨#[]⟩, .int .i64 0, .bool false]) := by unfold Info; kernel_rfl
theorem one_68 : (.agg #[.string ⟨#[]⟩, .int .i64 0, .bool false] : Value).cells.all (·.oneCell') = true := by kernel_rfl
theorem zc_68 : ((.agg #[.string ⟨#[]⟩, .int .i64 0, .bool false] : Value).cells.toList.map zcell) = GColumn.cs GColumn.zero := by rfl
theorem pl_68 : placesOf Tryd.prog 68 = some [(0, 1), (1, 1), (2, 1)] := by kernel_rfl
theorem in_4 : Info Tryd.prog 4 1 1 (.bool false) := by unfold Info; kernel_rfl
theorem one_4 : (.bool false : Value).cells.all (·.oneCell') = true := by kernel_rfl
theorem zc_4 : ((.bool false : Value).cells.toList.map zcell) = [(AV.bool false)] := by rfl
theorem eq_24 : EqT Tryd.prog 24 2 (fun x : GToken => .agg (GToken.cs x)) :=
  eqt_struct [fun a b => a.Kind = b.Kind, fun a b => a.Text = b.Text, fun a b => a.Int_ = b.Int_, fun a b => a.Bits = b.Bits] Tryd.underlying24 (by kernel_rfl) ⟨(FieldEq.more (fe_one (by decide) Tryd.underlying3 rfl (eqt_int Tryd.underlying3) (fun a => GToken.sub0 a)) (by decide : 1 ≤ 1)), (FieldEq.more (fe_one (by decide) Tryd.underlying9 rfl (eqt_txt Tryd.underlying9) (fun a => GToken.sub1 a)) (by decide : 1 ≤ 1)), (FieldEq.more (fe_one (by decide) Tryd.underlying3 rfl (eqt_int Tryd.underlying3) (fun a => GToken.sub2 a)) (by decide : 1 ≤ 1)), (FieldEq.more (fe_one (by decide) Tryd.underlying22 rfl (eqt_u64 Tryd.underlying22) (fun a => GToken.sub3 a)) (by decide : 1 ≤ 1)), trivial⟩ (fun a b => by
    cases a; cases b
    simp)
set_option maxRecDepth 100000 in
theorem ty_3 {d : Nat} {cs : List AV} (h : Typed Tryd.prog d 3 cs) : ∃ x : Int, cs = [(AV.int x)] ∧ okI x := match d, h with
  | 0, h => False.elim h
  | d + 1, h => ty_int Tryd.underlying3 h
set_option maxRecDepth 100000 in
theorem ty_9 {d : Nat} {cs : List AV} (h : Typed Tryd.prog d 9 cs) : ∃ x : List UInt8, cs = [(AV.txt x)] ∧ okT x := match d, h with
  | 0, h => False.elim h
  | d + 1, h => ty_text Tryd.underlying9 h
set_option maxRecDepth 100000 in
theorem ty_22 {d : Nat} {cs : List AV} (h : Typed Tryd.prog d 22 cs) : ∃ x : UInt64, cs = [(AV.u64 x)] ∧ okA x := match d, h with
  | 0, h => False.elim h
  | d + 1, h => ty_u64 Tryd.underlying22 h
def GToken.ok (x : GToken) : Prop := okI x.Kind ∧ okT x.Text ∧ okI x.Int_ ∧ okA x.Bits
set_option maxRecDepth 100000 in
theorem ty_24 {d : Nat} {cs : List AV} (h : Typed Tryd.prog d 24 cs) : ∃ x : GToken, cs = GToken.cs x ∧ GToken.ok x := match d, h with
  | 0, h => False.elim h
  | d + 1, h => by
    obtain ⟨es, rfl, hl, hf⟩ := ty_struct Tryd.underlying24 h
    match es, hl, hf with
    | [e0, e1, e2, e3], _, hf =>
    obtain ⟨x0, h0, q0⟩ := ty_3 (hf 0 _ e0 rfl rfl)
    obtain ⟨x1, h1, q1⟩ := ty_9 (hf 1 _ e1 rfl rfl)
    obtain ⟨x2, h2, q2⟩ := ty_3 (hf 2 _ e2 rfl rfl)
    obtain ⟨x3, h3, q3⟩ := ty_22 (hf 3 _ e3 rfl rfl)
    refine ⟨⟨x0, x1, x2, x3⟩, ?_, ⟨q0, q1, q2, q3⟩⟩
    rw [h0, h1, h2, h3]
    simp only [List.flatten_cons, List.flatten_nil, List.append_nil, GToken.cs]
set_option maxRecDepth 100000 in
theorem ty_4 {d : Nat} {cs : List AV} (h : Typed Tryd.prog d 4 cs) : ∃ x : Bool, cs = [(AV.bool x)] ∧ okA x := match d, h with
  | 0, h => False.elim h
  | d + 1, h => ty_bool Tryd.underlying4 h
def GColumn.ok (x : GColumn) : Prop := okT x.Name ∧ okI x.Kind ∧ okA x.Null
set_option maxRecDepth 100000 in
theorem ty_68 {d : Nat} {cs : List AV} (h : Typed Tryd.prog d 68 cs) : ∃ x : GColumn, cs = GColumn.cs x ∧ GColumn.ok x := match d, h with
  | 0, h => False.elim h
  | d + 1, h => by
    obtain ⟨es, rfl, hl, hf⟩ := ty_struct Tryd.underlying68 h
    match es, hl, hf with
    | [e0, e1, e2], _, hf =>
    obtain ⟨x0, h0, q0⟩ := ty_9 (hf 0 _ e0 rfl rfl)
    obtain ⟨x1, h1, q1⟩ := ty_3 (hf 1 _ e1 rfl rfl)
    obtain ⟨x2, h2, q2⟩ := ty_4 (hf 2 _ e2 rfl rfl)
    refine ⟨⟨x0, x1, x2⟩, ?_, ⟨q0, q1, q2⟩⟩
    rw [h0, h1, h2]
    simp only [List.flatten_cons, List.flatten_nil, List.append_nil, GColumn.cs]
set_option maxRecDepth 100000 in
theorem ty_35 {d : Nat} {cs : List AV} (h : Typed Tryd.prog d 35 cs) : ∃ x : List GColumn, cs = [((fun q : List GColumn => AV.lst (q.flatMap GColumn.cs) q.length) x)] ∧ (okL 32 GColumn.ok) x := match d, h with
  | 0, h => False.elim h
  | d + 1, h => ty_slicef (g := fun b : GColumn => GColumn.cs b) Tryd.underlying35 (bytes_of in_68) (fun _ hx => ty_68 hx) h

/-! chirographref.among -/
noncomputable def g_ref_among_l0 (c0 : UInt8) (l1 : List UInt8) : Int → Option (Int ⊕ (Bool ⊕ Unit))
  | i5_0 => (if i5_0 < (l1.length : Int) then if 0 ≤ i5_0 ∧ i5_0 < (l1.length : Int) then (if (lrd l1 i5_0.toNat) = c0 then some (.inr (.inl true)) else some (.inl (w64 (i5_0 + (1 : Int))))) else none else some (.inr (.inr ())))
noncomputable def g_ref_among (c0 : UInt8) (l1 : List UInt8) : Option (Bool) :=
  (loopO (g_ref_among_l0 c0 l1) (0 : Int)).bind fun o'4 => match o'4 with | .inl y'5 => some y'5 | .inr (y'6) => some false
set_option maxHeartbeats 4000000 in
set_option maxRecDepth 100000 in
theorem g_ref_among_ac {c0 : UInt8} {l1 : List UInt8} {r : Bool} (H : g_ref_among c0 l1 = some r) : ACp Tryd.prog 56 [(AV.b8 c0), (AV.txt l1)] (AV.bool r) := by
  refine ACp_of (AC2_of_body (vs := [.b r]) Tryd.func56 rfl rfl (Nat.le_of_ble_eq_true rfl) rfl ?_) (fun _ => .same _)
  unfold g_ref_among at H
  refine as2 [(0, .p (AV.b8 c0)), (1, .t l1)] [] rfl rfl rfl ?_
  refine sg [0] rfl ?_
  refine rp rfl rfl (p_asg rfl rfl) ?_
  refine rz [(0, .p (AV.b8 c0)), (1, .t l1)] [] rfl rfl rfl ?_
  refine AW2_seq ?_
  refine sg [0] rfl ?_
  refine rp rfl rfl (p_asg rfl rfl) ?_
  refine rz [(0, .p (AV.b8 c0)), (1, .t l1), (5, .i (0 : Int))] [] rfl rfl rfl ?_
  refine AW2_block ?_
  refine as2 [(0, .p (AV.b8 c0)), (1, .t l1), (5, .i (0 : Int))] [] rfl rfl rfl ?_
  refine bindK H fun o'4 h4 H => ?_
  refine AW2_loopO (fun a'1 : Int => (⟨[(0, .p (AV.b8 c0)), (1, .t l1), (5, .i a'1)], [], 17⟩ : TS)) (fun (o : Bool ⊕ Unit) e s' => match o with | .inl y'2 => e = Go.Exit.ret ∧ ResAll Tryd.prog s' [ResultVar.tmp 4] [.b y'2] ∧ HFits s' [] | .inr (y'3) => e = Go.Exit.exit 0 ∧ s' = (⟨[], [], 17⟩ : TS)) h4 rfl (fun i5_0 x hx => ?_) (fun e s' hs => ?_)
  · clear H
    have H := hx
    clear hx
    unfold g_ref_among_l0 at H
    refine AW2_seq ?_
    refine sg [0, 1, 2, 3] rfl ?_
    refine rp rfl rfl (p_move rfl rfl) ?_
    refine rp rfl rfl (p_move rfl rfl) ?_
    refine rp rfl rfl (p_lent rfl Tryd.underlying9 rfl) ?_
    refine rp rfl rfl (p_bin rfl rfl rfl rfl) ?_
    refine rz [(0, .p (AV.b8 c0)), (1, .t l1), (5, .i i5_0), (9, .b (decide (i5_0 < (l1.length : Int))))] [] rfl rfl rfl ?_
    refine AW2_if (p := i5_0 < (l1.length : Int)) rfl (fun h1 => ?_) (fun h1 => ?_)
    · replace H := ite_then h1 H
      refine as2 [(0, .p (AV.b8 c0)), (1, .t l1), (5, .i i5_0)] [] rfl rfl rfl ?_
      refine AW2_skip ?_
      refine AW2_seq ?_
      refine AW2_block ?_
      refine sg [0, 1, 2, 3, 4] rfl ?_
      refine rp rfl rfl (p_move rfl rfl) ?_
      refine rp rfl rfl (p_move rfl rfl) ?_
      refine chkK H fun h2 H => ?_
      refine rp rfl rfl (p_ixt rfl Tryd.underlying9 rfl rfl (ixe h2) (lrd_get (ixn h2))) ?_
      refine rp rfl rfl (p_move rfl rfl) ?_
      refine rp rfl rfl (p_u8eq (a := (lrd l1 i5_0.toNat)) (b := c0) rfl rfl rfl) ?_
      refine rz [(0, .p (AV.b8 c0)), (1, .t l1), (5, .i i5_0), (16, .b (decide ((lrd l1 i5_0.toNat) = c0)))] [] rfl rfl rfl ?_
      refine AW2_if (p := (lrd l1 i5_0.toNat) = c0) rfl (fun h3 => ?_) (fun h3 => ?_)
      · replace H := ite_then h3 H
        refine sg [0] rfl ?_
        refine rp rfl rfl (p_asg rfl rfl) ?_
        refine rz [(4, .b true)] [] rfl rfl rfl ?_
        refine AW2_ret ?_
        have hz := some_elim H
        subst hz
        exact ⟨rfl, ⟨res_tmp (.same _), trivial⟩, trivial⟩
      · replace H := ite_else h3 H
        refine as2 [(0, .p (AV.b8 c0)), (1, .t l1), (5, .i i5_0)] [] rfl rfl rfl ?_
        refine AW2_skip ?_
        refine AW2_reg [0, 1, 2] rfl ?_
        refine rp rfl rfl (p_move rfl rfl) ?_
        refine rp rfl rfl (p_bin rfl rfl rfl rfl) ?_
        refine rp rfl rfl (p_asg rfl rfl) ?_
        refine rz [(0, .p (AV.b8 c0)), (1, .t l1), (5, .i (w64 (i5_0 + (1 : Int))))] [] rfl rfl rfl ?_
        have hz := some_elim H
        subst hz
        exact ⟨rfl, rfl⟩
    · replace H := ite_else h1 H
      refine as2 [] [] rfl rfl rfl ?_
      refine AW2_exit ?_
      refine thenQ2_exit ?_
      have hz := some_elim H
      subst hz
      exact ⟨rfl, rfl⟩
  · rcases o'4 with y'5 | y'6
    · obtain ⟨rfl, hs⟩ := hs
      refine ⟨by simp, ?_⟩
      have hz := some_elim H
      subst hz
      exact ⟨hs.1, hs.2⟩
    · obtain ⟨rfl, rfl⟩ := hs
      refine ⟨by simp, ?_⟩
      refine blockQ2_exit ?_
      refine sg [0] rfl ?_
      refine rp rfl rfl (p_asg rfl rfl) ?_
      refine rz [(4, .b false)] [] rfl rfl rfl ?_
      refine AW2_ret ?_
      have hz := some_elim H
      subst hz
      exact ⟨⟨res_tmp (.same _), trivial⟩, trivial⟩

/-! chirographref.reach -/
noncomputable def g_ref_reach_l0 (s0 : List UInt8) (l1 : List UInt8) : Int → Option (Int ⊕ (Int))
  | n5_0 => ((if n5_0 < (s0.length : Int) then if 0 ≤ n5_0 ∧ n5_0 < (s0.length : Int) then (g_ref_among (lrd s0 n5_0.toNat) l1).bind fun r'1 => some r'1 else none else some false)).bind fun g'2 => (if g'2 = true then some (.inl (w64 (n5_0 + (1 : Int)))) else some (.inr n5_0))
noncomputable def g_ref_reach (s0 : List UInt8) (l1 : List UInt8) : Option (Int) :=
  (loopO (g_ref_reach_l0 s0 l1) (0 : Int)).bind fun y'6 => some y'6
set_option maxHeartbeats 4000000 in
set_option maxRecDepth 100000 in
theorem g_ref_reach_ac {s0 : List UInt8} {l1 : List UInt8} {r : Int} (H : g_ref_reach s0 l1 = some r) : ACp Tryd.prog 34 [(AV.txt s0), (AV.txt l1)] (AV.int r) := by
  refine ACp_of (AC2_of_body (vs := [.i r]) Tryd.func34 rfl rfl (Nat.le_of_ble_eq_true rfl) rfl ?_) (fun _ => .same _)
  unfold g_ref_reach at H
  refine as2 [(0, .t s0), (1, .t l1)] [] rfl rfl rfl ?_
  refine sg [0] rfl ?_
  refine rp rfl rfl (p_asg rfl rfl) ?_
  refine rz [(0, .t s0), (1, .t l1)] [] rfl rfl rfl ?_
  refine sg [0] rfl ?_
  refine rp rfl rfl (p_asg rfl rfl) ?_
  refine rz [(0, .t s0), (1, .t l1), (5, .i (0 : Int))] [] rfl rfl rfl ?_
  refine AW2_seq ?_
  refine AW2_block ?_
  refine as2 [(0, .t s0), (1, .t l1), (5, .i (0 : Int))] [] rfl rfl rfl ?_
  refine bindK H fun y'6 h8 H => ?_
  refine AW2_loopO (fun a'3 : Int => (⟨[(0, .t s0), (1, .t l1), (5, .i a'3)], [], 20⟩ : TS)) (fun (y'4 : Int) e s' => e = Go.Exit.exit 0 ∧ s' = (⟨[(5, .i y'4)], [], 20⟩ : TS)) h8 rfl (fun n5_0 x hx => ?_) (fun e s' hs => ?_)
  · clear H
    have H := hx
    clear hx
    unfold g_ref_reach_l0 at H
    refine AW2_seq ?_
    refine AW2_seq ?_
    refine bindK H fun g'2 h5 H => ?_
    refine AW2_mid (⟨[(0, .t s0), (1, .t l1), (5, .i n5_0), (16, .b g'2)], [], 20⟩ : TS) ?_ ?_
    · clear H
      have H := h5
      clear h5
      refine AW2_reg [0, 1, 2, 3, 4, 5, 6, 7, 8, 9, 10] rfl ?_
      refine rp rfl rfl (p_move rfl rfl) ?_
      refine rp rfl rfl (p_move rfl rfl) ?_
      refine rp rfl rfl (p_lent rfl Tryd.underlying9 rfl) ?_
      refine rp rfl rfl (p_bin rfl rfl rfl rfl) ?_
      refine rp rfl rfl (p_move rfl rfl) ?_
      refine (Classical.em (n5_0 < (s0.length : Int))).elim (fun h2 => ?_) (fun h2 => ?_)
      · replace H := ite_then h2 H
        refine r_on rfl rfl rfl rfl (decide_eq_true (p := n5_0 < (s0.length : Int)) h2) rfl (PureD.opD (p_move rfl rfl)) ?_
        refine r_on rfl rfl rfl rfl (decide_eq_true (p := n5_0 < (s0.length : Int)) h2) rfl (PureD.opD (p_move rfl rfl)) ?_
        refine chkK H fun h3 H => ?_
        refine r_on rfl rfl rfl rfl (decide_eq_true (p := n5_0 < (s0.length : Int)) h2) rfl (PureD.opD (p_ixt rfl Tryd.underlying9 rfl rfl (ixe h3) (lrd_get (ixn h3)))) ?_
        refine r_on rfl rfl rfl rfl (decide_eq_true (p := n5_0 < (s0.length : Int)) h2) rfl (PureD.opD (p_move rfl rfl)) ?_
        refine bindK H fun r'1 h4 H => ?_
        refine r_on rfl rfl rfl rfl (decide_eq_true (p := n5_0 < (s0.length : Int)) h2) rfl (PureD.opD (p_callp rfl rfl rfl Tryd.func56 rfl rfl (g_ref_among_ac h4) ⟨rfl, rfl, trivial⟩)) ?_
        refine rp rfl rfl (p_pkt rfl rfl (decide_eq_true (p := n5_0 < (s0.length : Int)) h2) (.same _)) ?_
        refine rs [(0, .t s0), (1, .t l1), (5, .i n5_0), (16, .b r'1)] [] rfl rfl rfl ?_
        have hz := some_elim H
        subst hz
        exact RunW_nil rfl
      · replace H := ite_else h2 H
        refine r_off rfl rfl rfl rfl (decide_eq_false (p := n5_0 < (s0.length : Int)) h2) rfl rfl ?_
        refine r_off rfl rfl rfl rfl (decide_eq_false (p := n5_0 < (s0.length : Int)) h2) rfl rfl ?_
        refine r_off rfl rfl rfl rfl (decide_eq_false (p := n5_0 < (s0.length : Int)) h2) rfl rfl ?_
        refine r_off rfl rfl rfl rfl (decide_eq_false (p := n5_0 < (s0.length : Int)) h2) rfl rfl ?_
        refine r_off rfl rfl rfl rfl (decide_eq_false (p := n5_0 < (s0.length : Int)) h2) rfl rfl ?_
        refine rp rfl rfl (p_pkf rfl rfl (decide_eq_false (p := n5_0 < (s0.length : Int)) h2) (.same _)) ?_
        refine rs [(0, .t s0), (1, .t l1), (5, .i n5_0), (16, .b false)] [] rfl rfl rfl ?_
        have hz := some_elim H
        subst hz
        exact RunW_nil rfl
    · refine AW2_cond rfl (fun h6 => ?_) (fun h6 => ?_)
      · replace H := ite_then h6 H
        refine as2 [(0, .t s0), (1, .t l1), (5, .i n5_0)] [] rfl rfl rfl ?_
        refine AW2_skip ?_
        refine AW2_block ?_
        refine AW2_reg [0, 1, 2] rfl ?_
        refine rp rfl rfl (p_move rfl rfl) ?_
        refine rp rfl rfl (p_bin rfl rfl rfl rfl) ?_
        refine rp rfl rfl (p_asg rfl rfl) ?_
        refine rz [(0, .t s0), (1, .t l1), (5, .i (w64 (n5_0 + (1 : Int))))] [] rfl rfl rfl ?_
        have hz := some_elim H
        subst hz
        exact ⟨rfl, rfl⟩
      · replace H := ite_else (ne_true h6) H
        refine as2 [(5, .i n5_0)] [] rfl rfl rfl ?_
        refine AW2_exit ?_
        refine thenQ2_exit ?_
        have hz := some_elim H
        subst hz
        exact ⟨rfl, rfl⟩
  · obtain ⟨rfl, rfl⟩ := hs
    refine ⟨by simp, ?_⟩
    refine blockQ2_exit ?_
    refine sg [0, 1] rfl ?_
    refine rp rfl rfl (p_move rfl rfl) ?_
    refine rp rfl rfl (p_asg rfl rfl) ?_
    refine rz [(4, .i y'6)] [] rfl rfl rfl ?_
    refine AW2_ret ?_
    have hz := some_elim H
    subst hz
    exact ⟨⟨res_tmp (.same _), trivial⟩, trivial⟩

/-! chirographref.isName -/
def g_ref_isName_t0 : List UInt8 := [97, 98, 99, 100, 101, 102, 103, 104, 105, 106, 107, 108, 109, 110, 111, 112, 113, 114, 115, 116, 117, 118, 119, 120, 121, 122]
def g_ref_isName_t1 : List UInt8 := [97, 98, 99, 100, 101, 102, 103, 104, 105, 106, 107, 108, 109, 110, 111, 112, 113, 114, 115, 116, 117, 118, 119, 120, 121, 122, 48, 49, 50, 51, 52, 53, 54, 55, 56, 57, 95]
noncomputable def g_ref_isName (s0 : List UInt8) : Option (Bool) :=
  ((if s0 ≠ [] then if 0 < s0.length then (g_ref_among (lrd s0 0) g_ref_isName_t0).bind fun r'1 => (if r'1 = true then (g_ref_reach s0 g_ref_isName_t1).bind fun r'2 => some (decide (r'2 = (s0.length : Int))) else some false) else none else some false)).bind fun g'3 => some g'3
set_option maxHeartbeats 4000000 in
set_option maxRecDepth 100000 in
theorem g_ref_isName_ac {s0 : List UInt8} {r : Bool} (H : g_ref_isName s0 = some r) : ACp Tryd.prog 33 [(AV.txt s0)] (AV.bool r) := by
  refine ACp_of (AC2_of_body (vs := [.b r]) Tryd.func33 rfl rfl (Nat.le_of_ble_eq_true rfl) rfl ?_) (fun _ => .same _)
  unfold g_ref_isName at H
  refine as2 [(0, .t s0)] [] rfl rfl rfl ?_
  refine sg [0] rfl ?_
  refine rp rfl rfl (p_asg rfl rfl) ?_
  refine rz [(0, .t s0)] [] rfl rfl rfl ?_
  refine AW2_seq ?_
  refine bindK H fun g'3 h7 H => ?_
  refine AW2_mid (⟨[(2, .b g'3)], [], 17⟩ : TS) ?_ ?_
  · clear H
    have H := h7
    clear h7
    refine AW2_reg [0, 1, 2, 3, 4, 5, 6, 7, 8, 9, 10, 11, 12, 13, 14] rfl ?_
    refine rp rfl rfl (p_move rfl rfl) ?_
    refine rp rfl rfl (p_sne rfl rfl rfl) ?_
    refine rp rfl rfl (p_move rfl rfl) ?_
    refine (Classical.em (s0 ≠ [])).elim (fun h2 => ?_) (fun h2 => ?_)
    · replace H := ite_then h2 H
      refine r_on rfl rfl rfl rfl (decide_eq_true (p := s0 ≠ []) h2) rfl (PureD.opD (p_move rfl rfl)) ?_
      refine chkK H fun h3 H => ?_
      refine r_on rfl rfl rfl rfl (decide_eq_true (p := s0 ≠ []) h2) rfl (PureD.opD (p_ixt rfl Tryd.underlying9 rfl rfl rfl (lrd_get h3))) ?_
      refine bindK H fun r'1 h4 H => ?_
      refine r_on rfl rfl rfl rfl (decide_eq_true (p := s0 ≠ []) h2) rfl (PureD.opD (p_callp rfl rfl rfl Tryd.func56 rfl rfl (g_ref_among_ac h4) ⟨rfl, by kernel_rfl, trivial⟩)) ?_
      refine rp rfl rfl (p_pkt rfl rfl (decide_eq_true (p := s0 ≠ []) h2) (.same _)) ?_
      refine rp rfl rfl (p_move rfl rfl) ?_
      refine (Classical.em (r'1 = true)).elim (fun h5 => ?_) (fun h5 => ?_)
      · replace H := ite_then h5 H
        refine rn rfl rfl rfl rfl h5 rfl (p_move rfl rfl) ?_
        refine bindK H fun r'2 h6 H => ?_
        refine rn rfl rfl rfl rfl h5 rfl (p_callp rfl rfl rfl Tryd.func34 rfl rfl (g_ref_reach_ac h6) ⟨rfl, by kernel_rfl, trivial⟩) ?_
        refine rn rfl rfl rfl rfl h5 rfl (p_move rfl rfl) ?_
        refine rn rfl rfl rfl rfl h5 rfl (p_lent rfl Tryd.underlying9 rfl) ?_
        refine rn rfl rfl rfl rfl h5 rfl (p_ieq rfl rfl rfl) ?_
        refine rp rfl rfl (p_pkt rfl rfl h5 (.same _)) ?_
        refine rp rfl rfl (p_asg rfl rfl) ?_
        refine rs [(2, .b (decide (r'2 = (s0.length : Int))))] [] rfl rfl rfl ?_
        have hz := some_elim H
        subst hz
        exact RunW_nil rfl
      · replace H := ite_else h5 H
        refine r_off rfl rfl rfl rfl (bfalse h5) rfl rfl ?_
        refine r_off rfl rfl rfl rfl (bfalse h5) rfl rfl ?_
        refine r_off rfl rfl rfl rfl (bfalse h5) rfl rfl ?_
        refine r_off rfl rfl rfl rfl (bfalse h5) rfl rfl ?_
        refine r_off rfl rfl rfl rfl (bfalse h5) rfl rfl ?_
        refine rp rfl rfl (p_pkf rfl rfl (bfalse h5) (.same _)) ?_
        refine rp rfl rfl (p_asg rfl rfl) ?_
        refine rs [(2, .b false)] [] rfl rfl rfl ?_
        have hz := some_elim H
        subst hz
        exact RunW_nil rfl
    · replace H := ite_else h2 H
      refine r_off rfl rfl rfl rfl (decide_eq_false (p := s0 ≠ []) h2) rfl rfl ?_
      refine r_off rfl rfl rfl rfl (decide_eq_false (p := s0 ≠ []) h2) rfl rfl ?_
      refine r_off rfl rfl rfl rfl (decide_eq_false (p := s0 ≠ []) h2) rfl rfl ?_
      refine rp rfl rfl (p_pkf rfl rfl (decide_eq_false (p := s0 ≠ []) h2) (.same _)) ?_
      refine rp rfl rfl (p_move rfl rfl) ?_
      refine r_off rfl rfl rfl rfl (bfalse (by decide)) rfl rfl ?_
      refine r_off rfl rfl rfl rfl (bfalse (by decide)) rfl rfl ?_
      refine r_off rfl rfl rfl rfl (bfalse (by decide)) rfl rfl ?_
      refine r_off rfl rfl rfl rfl (bfalse (by decide)) rfl rfl ?_
      refine r_off rfl rfl rfl rfl (bfalse (by decide)) rfl rfl ?_
      refine rp rfl rfl (p_pkf rfl rfl (bfalse (by decide)) (.same _)) ?_
      refine rp rfl rfl (p_asg rfl rfl) ?_
      refine rs [(2, .b false)] [] rfl rfl rfl ?_
      have hz := some_elim H
      subst hz
      exact RunW_nil rfl
  · refine AW2_ret ?_
    have hz := some_elim H
    subst hz
    exact ⟨⟨res_tmp (.same _), trivial⟩, trivial⟩

/-! chirographref.badReal -/
noncomputable def g_ref_badReal (b0 : UInt64) : Option (Bool) :=
  some (decide ((b0 = (9223372036854775808 : UInt64)) ∨ ((18437736874454810624 : UInt64) < shl_u64 b0 1)))
set_option maxHeartbeats 4000000 in
set_option maxRecDepth 100000 in
theorem g_ref_badReal_ac {b0 : UInt64} {r : Bool} (H : g_ref_badReal b0 = some r) : ACp Tryd.prog 35 [(AV.u64 b0)] (AV.bool r) := by
  refine ACp_of (AC2_of_body (vs := [.b r]) Tryd.func35 rfl rfl (Nat.le_of_ble_eq_true rfl) rfl ?_) (fun _ => .same _)
  unfold g_ref_badReal at H
  refine as2 [(0, .p (AV.u64 b0))] [] rfl rfl rfl ?_
  refine sg [0] rfl ?_
  refine rp rfl rfl (p_asg rfl rfl) ?_
  refine rz [(0, .p (AV.u64 b0))] [] rfl rfl rfl ?_
  refine AW2_seq ?_
  refine AW2_mid (⟨[(2, .b (decide ((b0 = (9223372036854775808 : UInt64)) ∨ ((18437736874454810624 : UInt64) < shl_u64 b0 1))))], [], 10⟩ : TS) ?_ ?_
  · refine AW2_reg [0, 1, 2, 3, 4, 5, 6, 7] rfl ?_
    refine rp rfl rfl (p_move rfl rfl) ?_
    refine rp rfl rfl (p_u64eq (a := b0) (b := (9223372036854775808 : UInt64)) rfl rfl rfl) ?_
    refine rp rfl rfl (p_move rfl rfl) ?_
    refine (Classical.em (b0 = (9223372036854775808 : UInt64))).elim (fun h1 => ?_) (fun h1 => ?_)
    · refine r_off rfl rfl rfl rfl (decide_eq_true (p := b0 = (9223372036854775808 : UInt64)) h1) rfl rfl ?_
      refine r_off rfl rfl rfl rfl (decide_eq_true (p := b0 = (9223372036854775808 : UInt64)) h1) rfl rfl ?_
      refine r_off rfl rfl rfl rfl (decide_eq_true (p := b0 = (9223372036854775808 : UInt64)) h1) rfl rfl ?_
      refine rp rfl rfl (p_pkt rfl rfl (decide_eq_true (p := b0 = (9223372036854775808 : UInt64)) h1) (tb (decide_eq_true (p := (b0 = (9223372036854775808 : UInt64)) ∨ ((18437736874454810624 : UInt64) < shl_u64 b0 1)) (Or.inl h1)).symm)) ?_
      refine rp rfl rfl (p_asg rfl rfl) ?_
      refine rs [(2, .b (decide ((b0 = (9223372036854775808 : UInt64)) ∨ ((18437736874454810624 : UInt64) < shl_u64 b0 1))))] [] rfl rfl rfl ?_
      exact RunW_nil rfl
    · refine r_on rfl rfl rfl rfl (decide_eq_false (p := b0 = (9223372036854775808 : UInt64)) h1) rfl (PureD.opD (p_move rfl rfl)) ?_
      refine r_on rfl rfl rfl rfl (decide_eq_false (p := b0 = (9223372036854775808 : UInt64)) h1) rfl (PureD.opD (p_u64shl (n := 1) rfl rfl rfl rfl)) ?_
      refine r_on rfl rfl rfl rfl (decide_eq_false (p := b0 = (9223372036854775808 : UInt64)) h1) rfl (PureD.opD (p_u64gt (a := shl_u64 b0 1) (b := (18437736874454810624 : UInt64)) rfl rfl rfl)) ?_
      refine rp rfl rfl (p_pkf rfl rfl (decide_eq_false (p := b0 = (9223372036854775808 : UInt64)) h1) (tb ((or_l (p := b0 = (9223372036854775808 : UInt64)) (q := (18437736874454810624 : UInt64) < shl_u64 b0 1) h1)))) ?_
      refine rp rfl rfl (p_asg rfl rfl) ?_
      refine rs [(2, .b (decide ((b0 = (9223372036854775808 : UInt64)) ∨ ((18437736874454810624 : UInt64) < shl_u64 b0 1))))] [] rfl rfl rfl ?_
      exact RunW_nil rfl
  · refine AW2_ret ?_
    have hz := some_elim H
    subst hz
    exact ⟨⟨res_tmp (.same _), trivial⟩, trivial⟩

/-! chirographref.isSign -/
noncomputable def g_ref_isSign_l0 (s0 : List UInt8) (t6'1 : Int) (t5'2 : List (List UInt8)) : Int → Option (Int ⊕ (Bool ⊕ Unit))
  | t7_0 => (if t7_0 < t6'1 then if 0 ≤ t7_0 ∧ t7_0 < (t5'2.length : Int) then (if s0 = (lrd t5'2 t7_0.toNat) then some (.inr (.inl true)) else some (.inl (w64 (t7_0 + (1 : Int))))) else none else some (.inr (.inr ())))
noncomputable def g_ref_isSign (s0 : List UInt8) : Option (Bool) :=
  letO ((([[40], [41], [44], [46], [61], [60], [62], [60, 61], [62, 61], [60, 62], [43], [45], [42], [47], [124, 124], [59]] : List (List UInt8)).length : Int)) fun t6'1 => letO (([[40], [41], [44], [46], [61], [60], [62], [60, 61], [62, 61], [60, 62], [43], [45], [42], [47], [124, 124], [59]] : List (List UInt8))) fun t5'2 => (loopO (g_ref_isSign_l0 s0 t6'1 t5'2) (0 : Int)).bind fun o'6 => match o'6 with | .inl y'7 => some y'7 | .inr (y'8) => some false
set_option maxHeartbeats 4000000 in
set_option maxRecDepth 100000 in
theorem g_ref_isSign_ac {s0 : List UInt8} {r : Bool} (H : g_ref_isSign s0 = some r) : ACp Tryd.prog 36 [(AV.txt s0)] (AV.bool r) := by
  refine ACp_of (AC2_of_body (vs := [.b r]) Tryd.func36 rfl rfl (Nat.le_of_ble_eq_true rfl) rfl ?_) (fun _ => .same _)
  unfold g_ref_isSign at H
  refine as2 [(0, .t s0)] [] rfl rfl rfl ?_
  refine sg [0] rfl ?_
  refine rp rfl rfl (p_asg rfl rfl) ?_
  refine rz [(0, .t s0)] [] rfl rfl rfl ?_
  refine AW2_seq ?_
  refine sg [0, 1, 2] rfl ?_
  refine r_op rfl rfl (MakeD.opD (u_bs 5 rfl Tryd.underlying87 in_9 rfl one_9 (by decide) (by decide) rfl rfl rfl) rfl rfl rfl rfl) ?_
  refine rp rfl rfl (p_leno rfl Tryd.underlying87 rfl rfl rfl (ml AV.txt ([[40], [41], [44], [46], [61], [60], [62], [60, 61], [62, 61], [60, 62], [43], [45], [42], [47], [124, 124], [59]] : List (List UInt8))) (by decide)) ?_
  refine rp rfl rfl (p_move rfl rfl) ?_
  refine RunW_st [(0, .t s0), (5, .c (.own 5 ([[40], [41], [44], [46], [61], [60], [62], [60, 61], [62, 61], [60, 62], [43], [45], [42], [47], [124, 124], [59]] : List (List UInt8)).length 1)), (6, .i (([[40], [41], [44], [46], [61], [60], [62], [60, 61], [62, 61], [60, 62], [43], [45], [42], [47], [124, 124], [59]] : List (List UInt8)).length : Int)), (7, .i (0 : Int))] [(5, .pure (([[40], [41], [44], [46], [61], [60], [62], [60, 61], [62, 61], [60, 62], [43], [45], [42], [47], [124, 124], [59]] : List (List UInt8)).map AV.txt))] rfl ⟨TLes.same _, TLes.own rfl, TLes.same _, TLes.same _, trivial⟩ ⟨rfl, trivial⟩ ?_
  refine RunW_nil ?_
  refine gen1 (fun t6'1 => (⟨[(0, .t s0), (5, .c (.own 5 ([[40], [41], [44], [46], [61], [60], [62], [60, 61], [62, 61], [60, 62], [43], [45], [42], [47], [124, 124], [59]] : List (List UInt8)).length 1)), (6, .i t6'1), (7, .i (0 : Int))], [(5, .pure (([[40], [41], [44], [46], [61], [60], [62], [60, 61], [62, 61], [60, 62], [43], [45], [42], [47], [124, 124], [59]] : List (List UInt8)).map AV.txt))], 15⟩ : TS)) H ?_
  intro t6'1 H
  refine gen1 (fun t5'2 => (⟨[(0, .t s0), (5, .c (.own 5 t5'2.length 1)), (6, .i t6'1), (7, .i (0 : Int))], [(5, .pure (t5'2.map AV.txt))], 15⟩ : TS)) H ?_
  intro t5'2 H
  refine AW2_block ?_
  refine as2 [(0, .t s0), (5, .c (.own 5 t5'2.length 1)), (6, .i t6'1), (7, .i (0 : Int))] [(5, .pure (t5'2.map AV.txt))] rfl rfl rfl ?_
  refine bindK H fun o'6 h4 H => ?_
  refine AW2_loopO (fun a'3 : Int => (⟨[(0, .t s0), (5, .c (.own 5 t5'2.length 1)), (6, .i t6'1), (7, .i a'3)], [(5, .pure (t5'2.map AV.txt))], 15⟩ : TS)) (fun (o : Bool ⊕ Unit) e s' => match o with | .inl y'4 => e = Go.Exit.ret ∧ ResAll Tryd.prog s' [ResultVar.tmp 2] [.b y'4] ∧ HFits s' [] | .inr (y'5) => e = Go.Exit.exit 0 ∧ s' = (⟨[], [], 15⟩ : TS)) h4 rfl (fun t7_0 x hx => ?_) (fun e s' hs => ?_)
  · clear H
    have H := hx
    clear hx
    unfold g_ref_isSign_l0 at H
    refine sg [0] rfl ?_
    refine rp rfl rfl (p_bin rfl rfl rfl rfl) ?_
    refine rz [(0, .t s0), (5, .c (.own 5 t5'2.length 1)), (6, .i t6'1), (7, .i t7_0), (8, .b (decide (t7_0 < t6'1)))] [(5, .pure (t5'2.map AV.txt))] rfl rfl rfl ?_
    refine AW2_seq ?_
    refine AW2_if (p := t7_0 < t6'1) rfl (fun h1 => ?_) (fun h1 => ?_)
    · replace H := ite_then h1 H
      refine as2 [(0, .t s0), (5, .c (.own 5 t5'2.length 1)), (6, .i t6'1), (7, .i t7_0)] [(5, .pure (t5'2.map AV.txt))] rfl rfl rfl ?_
      refine AW2_skip ?_
      refine AW2_seq ?_
      refine AW2_block ?_
      refine sg [0, 1, 2] rfl ?_
      refine chkK H fun h2 H => ?_
      refine rp rfl rfl (u_ixo rfl rfl Tryd.underlying87 in_9 rfl rfl (lne (ixn h2)) rfl (ixe h2) (ixn h2)) ?_
      refine rp rfl rfl (u_ld rfl rfl Tryd.underlying9 rfl rfl ((Sub.refl _).trans (Sub.map default (ixn h2)))) ?_
      refine rp rfl rfl (p_asg rfl rfl) ?_
      refine rz [(0, .t s0), (4, .t (lrd t5'2 t7_0.toNat)), (5, .c (.own 5 t5'2.length 1)), (6, .i t6'1), (7, .i t7_0)] [(5, .pure (t5'2.map AV.txt))] rfl rfl rfl ?_
      refine sg [0, 1, 2] rfl ?_
      refine rp rfl rfl (p_move rfl rfl) ?_
      refine rp rfl rfl (p_move rfl rfl) ?_
      refine rp rfl rfl (p_seq rfl rfl rfl) ?_
      refine rz [(0, .t s0), (5, .c (.own 5 t5'2.length 1)), (6, .i t6'1), (7, .i t7_0), (13, .b (decide (s0 = (lrd t5'2 t7_0.toNat))))] [(5, .pure (t5'2.map AV.txt))] rfl rfl rfl ?_
      refine AW2_if (p := s0 = (lrd t5'2 t7_0.toNat)) rfl (fun h3 => ?_) (fun h3 => ?_)
      · replace H := ite_then h3 H
        refine sg [0] rfl ?_
        refine rp rfl rfl (p_asg rfl rfl) ?_
        refine rz [(2, .b true)] [] rfl rfl rfl ?_
        refine AW2_ret ?_
        have hz := some_elim H
        subst hz
        exact ⟨rfl, ⟨res_tmp (.same _), trivial⟩, trivial⟩
      · replace H := ite_else h3 H
        refine as2 [(0, .t s0), (5, .c (.own 5 t5'2.length 1)), (6, .i t6'1), (7, .i t7_0)] [(5, .pure (t5'2.map AV.txt))] rfl rfl rfl ?_
        refine AW2_skip ?_
        refine AW2_reg [0, 1] rfl ?_
        refine rp rfl rfl (p_bin rfl rfl rfl rfl) ?_
        refine rp rfl rfl (p_move rfl rfl) ?_
        refine rz [(0, .t s0), (5, .c (.own 5 t5'2.length 1)), (6, .i t6'1), (7, .i (w64 (t7_0 + (1 : Int))))] [(5, .pure (t5'2.map AV.txt))] rfl rfl rfl ?_
        have hz := some_elim H
        subst hz
        exact ⟨rfl, rfl⟩
    · replace H := ite_else h1 H
      refine as2 [] [] rfl rfl rfl ?_
      refine AW2_exit ?_
      refine thenQ2_exit ?_
      have hz := some_elim H
      subst hz
      exact ⟨rfl, rfl⟩
  · rcases o'6 with y'7 | y'8
    · obtain ⟨rfl, hs⟩ := hs
      refine ⟨by simp, ?_⟩
      have hz := some_elim H
      subst hz
      exact ⟨hs.1, hs.2⟩
    · obtain ⟨rfl, rfl⟩ := hs
      refine ⟨by simp, ?_⟩
      refine blockQ2_exit ?_
      refine sg [0] rfl ?_
      refine rp rfl rfl (p_asg rfl rfl) ?_
      refine rz [(2, .b false)] [] rfl rfl rfl ?_
      refine AW2_ret ?_
      have hz := some_elim H
      subst hz
      exact ⟨⟨res_tmp (.same _), trivial⟩, trivial⟩

/-! chirographref.TokenFault -/
def g_ref_TokenFault_t0 : List UInt8 := [65, 66, 67, 68, 69, 70, 71, 72, 73, 74, 75, 76, 77, 78, 79, 80, 81, 82, 83, 84, 85, 86, 87, 88, 89, 90]
noncomputable def g_ref_TokenFault (t0 : GToken) : Option (Int) :=
  ((if t0.Kind = (1 : Int) then some (decide (t0.Kind = (1 : Int))) else some (decide (t0.Kind = (2 : Int))))).bind fun j'1 => (if j'1 = true then (g_ref_isName t0.Text).bind fun r'2 => (if t0.Kind = (2 : Int) then ((if t0.Text ≠ [] then (g_ref_reach t0.Text g_ref_TokenFault_t0).bind fun r'3 => some (decide (r'3 = (t0.Text.length : Int))) else some false)).bind fun g'4 => (if (t0.Text.length : Int) > (8 : Int) then some (1 : Int) else (if ((!g'4) = true) ∨ (t0 ≠ { { GToken.zero with Kind := t0.Kind } with Text := t0.Text }) then some (3 : Int) else some (0 : Int))) else (if (t0.Text.length : Int) > (8 : Int) then some (1 : Int) else (if ((!r'2) = true) ∨ (t0 ≠ { { GToken.zero with Kind := t0.Kind } with Text := t0.Text }) then some (3 : Int) else some (0 : Int)))) else (if t0.Kind = (3 : Int) then (if false = true then some (1 : Int) else (if (¬ (t0.Int_ ≥ (0 : Int))) ∨ (t0 ≠ { { GToken.zero with Kind := t0.Kind } with Int_ := t0.Int_ }) then some (3 : Int) else some (0 : Int))) else (if t0.Kind = (4 : Int) then (g_utf8_ValidString t0.Text).bind fun r'5 => (if (t0.Text.length : Int) > (40 : Int) then some (1 : Int) else (if ((!r'5) = true) ∨ (t0 ≠ { { GToken.zero with Kind := t0.Kind } with Text := t0.Text }) then some (3 : Int) else some (0 : Int))) else (if t0.Kind = (5 : Int) then (g_ref_badReal t0.Bits).bind fun r'6 => (if false = true then some (1 : Int) else (if ((!(!r'6)) = true) ∨ (t0 ≠ { { GToken.zero with Kind := t0.Kind } with Bits := t0.Bits }) then some (3 : Int) else some (0 : Int))) else (if t0.Kind = (6 : Int) then (g_ref_isSign t0.Text).bind fun r'7 => (if false = true then some (1 : Int) else (if ((!r'7) = true) ∨ (t0 ≠ { { GToken.zero with Kind := t0.Kind } with Text := t0.Text }) then some (3 : Int) else some (0 : Int))) else some (2 : Int))))))
set_option maxHeartbeats 4000000 in
set_option maxRecDepth 100000 in
theorem g_ref_TokenFault_ac {t0 : GToken} {r : Int} (H : g_ref_TokenFault t0 = some r) : ACp Tryd.prog 11 [(.agg (GToken.cs t0))] (AV.int r) := by
  refine ACp_of (AC2_of_body (vs := [.i r]) Tryd.func11 rfl rfl (Nat.le_of_ble_eq_true rfl) rfl ?_) (fun _ => .same _)
  unfold g_ref_TokenFault at H
  refine as2 [(0, .g (GToken.cs t0))] [] rfl rfl rfl ?_
  refine sg [0, 1] rfl ?_
  refine r_op rfl rfl (MakeD.opD (n_box 1 rfl rfl) rfl rfl rfl rfl) ?_
  refine rp rfl rfl (p_asg rfl rfl) ?_
  refine rz [(1, .q 1 (0))] [(1, .pure (GToken.cs t0))] rfl rfl rfl ?_
  refine sg [0] rfl ?_
  refine rp rfl rfl (p_asg rfl rfl) ?_
  refine rz [(1, .q 1 (0)), (3, .b false)] [(1, .pure (GToken.cs t0))] rfl rfl rfl ?_
  refine sg [0, 1, 2, 3, 4] rfl ?_
  refine rp rfl rfl (u_fa rfl rfl Tryd.underlying24 rfl in_3 (Nat.succ_ne_zero _) rfl rfl (ne_of_lt (n := 0) (Nat.lt_of_lt_of_eq (by decide) (Eq.symm (GToken.len t0))))) ?_
  refine rp rfl rfl (u_ld rfl rfl Tryd.underlying3 rfl rfl ((Sub.refl _).trans (GToken.sub0 t0))) ?_
  refine rp rfl rfl (u_bld rfl in_24 one_24 zc_24 pl_24 rfl (af_cons rfl rfl (GToken.upd0 GToken.zero t0.Kind) rfl)) ?_
  refine r_op rfl rfl (MakeD.opD (u_alloc 4 rfl in_24 one_24 zc_24) rfl rfl rfl rfl) ?_
  refine r_op rfl rfl (u_st rfl rfl rfl rfl rfl in_24 (GToken.len ({ GToken.zero with Kind := t0.Kind })) (ne_of_lt (n := 0) (Nat.lt_of_lt_of_eq (by decide) (Eq.symm (GToken.len GToken.zero)))) (Upd.refl ((GToken.len ({ GToken.zero with Kind := t0.Kind })).trans (GToken.len GToken.zero).symm))) ?_
  refine rz [(1, .q 1 (0)), (3, .b false), (4, .q 4 (0))] [(1, .pure (GToken.cs t0)), (4, .pure (GToken.cs ({ GToken.zero with Kind := t0.Kind })))] rfl rfl rfl ?_
  refine sg [0] rfl ?_
  refine rp rfl rfl (p_asg rfl rfl) ?_
  refine rz [(1, .q 1 (0)), (3, .b false), (4, .q 4 (0))] [(1, .pure (GToken.cs t0)), (4, .pure (GToken.cs ({ GToken.zero with Kind := t0.Kind })))] rfl rfl rfl ?_
  refine AW2_seq ?_
  refine sg [0, 1] rfl ?_
  refine rp rfl rfl (u_fa rfl rfl Tryd.underlying24 rfl in_3 (Nat.succ_ne_zero _) rfl rfl (ne_of_lt (n := 0) (Nat.lt_of_lt_of_eq (by decide) (Eq.symm (GToken.len t0))))) ?_
  refine rp rfl rfl (u_ld rfl rfl Tryd.underlying3 rfl rfl ((Sub.refl _).trans (GToken.sub0 t0))) ?_
  refine rz [(1, .q 1 (0)), (3, .b false), (4, .q 4 (0)), (10, .i t0.Kind)] [(1, .pure (GToken.cs t0)), (4, .pure (GToken.cs ({ GToken.zero with Kind := t0.Kind })))] rfl rfl rfl ?_
  refine AW2_block ?_
  refine AW2_seq ?_
  refine bindK H fun j'1 h1 H => ?_
  refine AW2_mid (⟨[(1, .q 1 (0)), (3, .b false), (4, .q 4 (0)), (10, .i t0.Kind), (11, .b j'1)], [(1, .pure (GToken.cs t0)), (4, .pure (GToken.cs ({ GToken.zero with Kind := t0.Kind })))], 84⟩ : TS) ?_ ?_
  · clear H
    have H := h1
    clear h1
    refine sg [0, 1] rfl ?_
    refine rp rfl rfl (p_ieq rfl rfl rfl) ?_
    refine rp rfl rfl (p_asg rfl rfl) ?_
    refine rz [(1, .q 1 (0)), (3, .b false), (4, .q 4 (0)), (10, .i t0.Kind), (11, .b (decide (t0.Kind = (1 : Int))))] [(1, .pure (GToken.cs t0)), (4, .pure (GToken.cs ({ GToken.zero with Kind := t0.Kind })))] rfl rfl rfl ?_
    refine AW2_if (p := t0.Kind = (1 : Int)) rfl (fun h2 => ?_) (fun h2 => ?_)
    · replace H := ite_then h2 H
      refine AW2_skip ?_
      have hz := some_elim H
      subst hz
      exact rfl
    · replace H := ite_else h2 H
      refine AW2_reg [0, 1] rfl ?_
      refine rp rfl rfl (p_ieq rfl rfl rfl) ?_
      refine rp rfl rfl (p_asg rfl rfl) ?_
      refine rz [(1, .q 1 (0)), (3, .b false), (4, .q 4 (0)), (10, .i t0.Kind), (11, .b (decide (t0.Kind = (2 : Int))))] [(1, .pure (GToken.cs t0)), (4, .pure (GToken.cs ({ GToken.zero with Kind := t0.Kind })))] rfl rfl rfl ?_
      have hz := some_elim H
      subst hz
      exact rfl
  · refine AW2_cond rfl (fun h3 => ?_) (fun h3 => ?_)
    · replace H := ite_then h3 H
      refine sg [0, 1, 2, 3] rfl ?_
      refine rp rfl rfl (u_fa rfl rfl Tryd.underlying24 rfl in_9 (Nat.succ_ne_zero _) rfl rfl (ne_of_lt (n := 0) (Nat.lt_of_lt_of_eq (by decide) (Eq.symm (GToken.len t0))))) ?_
      refine rp rfl rfl (u_ld rfl rfl Tryd.underlying9 rfl rfl ((Sub.refl _).trans (GToken.sub1 t0))) ?_
      refine rp rfl rfl (u_fa rfl rfl Tryd.underlying24 rfl in_9 (Nat.succ_ne_zero _) rfl rfl (ne_of_lt (n := 0) (Nat.lt_of_lt_of_eq (by decide) (Eq.symm (GToken.len ({ GToken.zero with Kind := t0.Kind })))))) ?_
      refine r_op rfl rfl (u_st rfl rfl rfl rfl rfl in_9 rfl (ne_of_lt (n := 0) (Nat.lt_of_lt_of_eq (by decide) (Eq.symm (GToken.len ({ GToken.zero with Kind := t0.Kind }))))) (Upd.trans (Sub.refl _) (GToken.upd1 ({ GToken.zero with Kind := t0.Kind }) t0.Text) (Upd.refl ((GToken.len ({ { GToken.zero with Kind := t0.Kind } with Text := t0.Text })).trans (GToken.len ({ GToken.zero with Kind := t0.Kind })).symm)))) ?_
      refine rz [(1, .q 1 (0)), (4, .q 4 (0))] [(1, .pure (GToken.cs t0)), (4, .pure (GToken.cs ({ { GToken.zero with Kind := t0.Kind } with Text := t0.Text })))] rfl rfl rfl ?_
      refine sg [0, 1, 2, 3, 4] rfl ?_
      refine rp rfl rfl (u_fa rfl rfl Tryd.underlying24 rfl in_9 (Nat.succ_ne_zero _) rfl rfl (ne_of_lt (n := 0) (Nat.lt_of_lt_of_eq (by decide) (Eq.symm (GToken.len t0))))) ?_
      refine rp rfl rfl (u_ld rfl rfl Tryd.underlying9 rfl rfl ((Sub.refl _).trans (GToken.sub1 t0))) ?_
      refine rp rfl rfl (p_lent rfl Tryd.underlying9 rfl) ?_
      refine rp rfl rfl (p_bin rfl rfl rfl rfl) ?_
      refine rp rfl rfl (p_asg rfl rfl) ?_
      refine rz [(1, .q 1 (0)), (3, .b (decide ((t0.Text.length : Int) > (8 : Int)))), (4, .q 4 (0))] [(1, .pure (GToken.cs t0)), (4, .pure (GToken.cs ({ { GToken.zero with Kind := t0.Kind } with Text := t0.Text })))] rfl rfl rfl ?_
      refine sg [0, 1, 2, 3] rfl ?_
      refine rp rfl rfl (u_fa rfl rfl Tryd.underlying24 rfl in_9 (Nat.succ_ne_zero _) rfl rfl (ne_of_lt (n := 0) (Nat.lt_of_lt_of_eq (by decide) (Eq.symm (GToken.len t0))))) ?_
      refine rp rfl rfl (u_ld rfl rfl Tryd.underlying9 rfl rfl ((Sub.refl _).trans (GToken.sub1 t0))) ?_
      refine bindK H fun r'2 h4 H => ?_
      refine rp rfl rfl (p_callp rfl rfl rfl Tryd.func33 rfl rfl (g_ref_isName_ac h4) ⟨rfl, trivial⟩) ?_
      refine rp rfl rfl (p_asg rfl rfl) ?_
      refine rz [(1, .q 1 (0)), (3, .b (decide ((t0.Text.length : Int) > (8 : Int)))), (4, .q 4 (0)), (5, .b r'2)] [(1, .pure (GToken.cs t0)), (4, .pure (GToken.cs ({ { GToken.zero with Kind := t0.Kind } with Text := t0.Text })))] rfl rfl rfl ?_
      refine sg [0, 1, 2] rfl ?_
      refine rp rfl rfl (u_fa rfl rfl Tryd.underlying24 rfl in_3 (Nat.succ_ne_zero _) rfl rfl (ne_of_lt (n := 0) (Nat.lt_of_lt_of_eq (by decide) (Eq.symm (GToken.len t0))))) ?_
      refine rp rfl rfl (u_ld rfl rfl Tryd.underlying3 rfl rfl ((Sub.refl _).trans (GToken.sub0 t0))) ?_
      refine rp rfl rfl (p_ieq rfl rfl rfl) ?_
      refine rz [(1, .q 1 (0)), (3, .b (decide ((t0.Text.length : Int) > (8 : Int)))), (4, .q 4 (0)), (5, .b r'2), (26, .b (decide (t0.Kind = (2 : Int))))] [(1, .pure (GToken.cs t0)), (4, .pure (GToken.cs ({ { GToken.zero with Kind := t0.Kind } with Text := t0.Text })))] rfl rfl rfl ?_
      refine AW2_if (p := t0.Kind = (2 : Int)) rfl (fun h5 => ?_) (fun h5 => ?_)
      · replace H := ite_then h5 H
        refine bindK H fun g'4 h8 H => ?_
        refine AW2_mid (⟨[(1, .q 1 (0)), (3, .b (decide ((t0.Text.length : Int) > (8 : Int)))), (4, .q 4 (0)), (5, .b g'4)], [(1, .pure (GToken.cs t0)), (4, .pure (GToken.cs ({ { GToken.zero with Kind := t0.Kind } with Text := t0.Text })))], 84⟩ : TS) ?_ ?_
        · clear H
          have H := h8
          clear h8
          refine (Classical.em (t0.Text ≠ [])).elim (fun h6 => ?_) (fun h6 => ?_)
          · replace H := ite_then h6 H
            refine bindK H fun r'3 h7 H => ?_
            have hz := some_elim H
            subst hz
            refine AW2_ghoQ ?_
            refine AW2_draw 10 [10, 11, 12] (fun k => ([.q 1 (0 + 1), .t t0.Text, .b (decide (t0.Text ≠ [])), .b (decide (t0.Text ≠ [])), .q 1 (0 + 1), .t t0.Text, .i r'3, .q 1 (0 + 1), .t t0.Text, .i (t0.Text.length : Int)] : List TV).getD k TV.any) (fun k => ([[(1, none)], [(27, some 0)], [(28, some 1)], [(29, some 2)], [(1, none), (30, some 3)], [(30, some 3), (31, some 4)], [(30, some 3), (32, some 5)], [(1, none), (30, some 3)], [(30, some 3), (34, some 7)], [(30, some 3), (35, some 8)]] : List (List (Nat × Option Nat))).getD k []) [(1, none), (3, none), (4, none), (5, none), (30, some 3), (33, some 6), (36, some 9)] [] (fun k => ([[], [0], [0, 1], [0, 1, 2], [0, 1, 2, 3], [0, 1, 2, 3, 4], [0, 1, 2, 3, 4, 5], [0, 1, 2, 3], [0, 1, 2, 3, 7], [0, 1, 2, 3, 7, 8], [0, 1, 2, 3, 4, 5, 6, 7, 8, 9], [0, 1, 2, 3, 4, 5, 6, 7, 8, 9, 10], [0, 1, 2, 3, 4, 5, 6, 7, 8, 9, 10, 11]] : List (List Nat)).getD k []) mixed (by kernel_rfl) rfl rfl (a_op (g_x rfl (x_p rfl (u_fa rfl rfl Tryd.underlying24 rfl in_9 (Nat.succ_ne_zero _) rfl rfl (ne_of_lt (n := 0) (Nat.lt_of_lt_of_eq (by decide) (Eq.symm (GToken.len t0))))) rfl)) (a_op (g_x rfl (x_p rfl (u_ld rfl rfl Tryd.underlying9 rfl rfl ((Sub.refl _).trans (GToken.sub1 t0))) rfl)) (a_op (g_x rfl (x_p rfl (p_sne rfl rfl rfl) rfl)) (a_op (g_x rfl (x_p rfl (p_move rfl rfl) rfl)) (a_op (g_on rfl rfl rfl (decide_eq_true (p := t0.Text ≠ []) h6) rfl (x_p rfl (u_fa rfl rfl Tryd.underlying24 rfl in_9 (Nat.succ_ne_zero _) rfl rfl (ne_of_lt (n := 0) (Nat.lt_of_lt_of_eq (by decide) (Eq.symm (GToken.len t0))))) rfl)) (a_op (g_on rfl rfl rfl (decide_eq_true (p := t0.Text ≠ []) h6) rfl (x_p rfl (u_ld rfl rfl Tryd.underlying9 rfl rfl ((Sub.refl _).trans (GToken.sub1 t0))) rfl)) (a_op (g_on rfl rfl rfl (decide_eq_true (p := t0.Text ≠ []) h6) rfl (x_p rfl (p_callp rfl rfl rfl Tryd.func34 rfl rfl (g_ref_reach_ac h7) ⟨rfl, by kernel_rfl, trivial⟩) rfl)) (a_op (g_on rfl rfl rfl (decide_eq_true (p := t0.Text ≠ []) h6) rfl (x_p rfl (u_fa rfl rfl Tryd.underlying24 rfl in_9 (Nat.succ_ne_zero _) rfl rfl (ne_of_lt (n := 0) (Nat.lt_of_lt_of_eq (by decide) (Eq.symm (GToken.len t0))))) rfl)) (a_op (g_on rfl rfl rfl (decide_eq_true (p := t0.Text ≠ []) h6) rfl (x_p rfl (u_ld rfl rfl Tryd.underlying9 rfl rfl ((Sub.refl _).trans (GToken.sub1 t0))) rfl)) (a_op (g_on rfl rfl rfl (decide_eq_true (p := t0.Text ≠ []) h6) rfl (x_p rfl (p_lent rfl Tryd.underlying9 rfl) rfl)) (a_nil))))))))))) ?_
            refine t_on rfl rfl rfl rfl (decide_eq_true (p := t0.Text ≠ []) h6) rfl (PureD.opD (p_ieq rfl rfl rfl)) ?_
            refine t_op rfl rfl (PureD.opD (p_pkt rfl rfl (decide_eq_true (p := t0.Text ≠ []) h6) (.same _))) ?_
            refine t_op rfl rfl (PureD.opD (p_asg rfl rfl)) ?_
            refine t_gho (Gho_st (L := [(1, .q 1 (0)), (3, .b (decide ((t0.Text.length : Int) > (8 : Int)))), (4, .q 4 (0)), (5, .b (decide (r'3 = (t0.Text.length : Int))))]) (H := [(1, .pure (GToken.cs t0)), (4, .pure (GToken.cs ({ { GToken.zero with Kind := t0.Kind } with Text := t0.Text })))]) (N := 84) rfl ⟨TLes.same _, TLes.same _, TLes.same _, TLes.same _, trivial⟩ ⟨rfl, rfl, trivial⟩) ?_
            exact rfl
          · replace H := ite_else h6 H
            have hz := some_elim H
            subst hz
            refine AW2_ghoQ ?_
            refine AW2_draw 10 [10, 11, 12] (fun k => ([.q 1 (0 + 1), .t t0.Text, .b (decide (t0.Text ≠ [])), .b (decide (t0.Text ≠ [])), .p (.tup []), .p (.tup []), .p (.tup []), .p (.tup []), .p (.tup []), .p (.tup [])] : List TV).getD k TV.any) (fun k => ([[(1, none)], [(27, some 0)], [(28, some 1)], [(29, some 2)], [(1, none), (30, some 3)], [(30, some 3), (31, some 4)], [(30, some 3), (32, some 5)], [(1, none), (30, some 3)], [(30, some 3), (34, some 7)], [(30, some 3), (35, some 8)]] : List (List (Nat × Option Nat))).getD k []) [(1, none), (3, none), (4, none), (5, none), (30, some 3), (33, some 6), (36, some 9)] [] (fun k => ([[], [0], [0, 1], [0, 1, 2], [0, 1, 2, 3], [0, 1, 2, 3, 4], [0, 1, 2, 3, 4, 5], [0, 1, 2, 3], [0, 1, 2, 3, 7], [0, 1, 2, 3, 7, 8], [0, 1, 2, 3, 4, 5, 6, 7, 8, 9], [0, 1, 2, 3, 4, 5, 6, 7, 8, 9, 10], [0, 1, 2, 3, 4, 5, 6, 7, 8, 9, 10, 11]] : List (List Nat)).getD k []) mixed (by kernel_rfl) rfl rfl (a_op (g_x rfl (x_p rfl (u_fa rfl rfl Tryd.underlying24 rfl in_9 (Nat.succ_ne_zero _) rfl rfl (ne_of_lt (n := 0) (Nat.lt_of_lt_of_eq (by decide) (Eq.symm (GToken.len t0))))) rfl)) (a_op (g_x rfl (x_p rfl (u_ld rfl rfl Tryd.underlying9 rfl rfl ((Sub.refl _).trans (GToken.sub1 t0))) rfl)) (a_op (g_x rfl (x_p rfl (p_sne rfl rfl rfl) rfl)) (a_op (g_x rfl (x_p rfl (p_move rfl rfl) rfl)) (a_op (g_off rfl rfl rfl rfl rfl (decide_eq_false (p := t0.Text ≠ []) h6) rfl rfl) (a_op (g_off rfl rfl rfl rfl rfl (decide_eq_false (p := t0.Text ≠ []) h6) rfl rfl) (a_op (g_off rfl rfl rfl rfl rfl (decide_eq_false (p := t0.Text ≠ []) h6) rfl rfl) (a_op (g_off rfl rfl rfl rfl rfl (decide_eq_false (p := t0.Text ≠ []) h6) rfl rfl) (a_op (g_off rfl rfl rfl rfl rfl (decide_eq_false (p := t0.Text ≠ []) h6) rfl rfl) (a_op (g_off rfl rfl rfl rfl rfl (decide_eq_false (p := t0.Text ≠ []) h6) rfl rfl) (a_nil))))))))))) ?_
            refine t_off rfl rfl rfl rfl (decide_eq_false (p := t0.Text ≠ []) h6) rfl rfl ?_
            refine t_op rfl rfl (PureD.opD (p_pkf rfl rfl (decide_eq_false (p := t0.Text ≠ []) h6) (.same _))) ?_
            refine t_op rfl rfl (PureD.opD (p_asg rfl rfl)) ?_
            refine t_gho (Gho_st (L := [(1, .q 1 (0)), (3, .b (decide ((t0.Text.length : Int) > (8 : Int)))), (4, .q 4 (0)), (5, .b false)]) (H := [(1, .pure (GToken.cs t0)), (4, .pure (GToken.cs ({ { GToken.zero with Kind := t0.Kind } with Text := t0.Text })))]) (N := 84) rfl ⟨TLes.same _, TLes.same _, TLes.same _, TLes.same _, trivial⟩ ⟨rfl, rfl, trivial⟩) ?_
            exact rfl
        · refine AW2_seq ?_
          refine sg [0] rfl ?_
          refine rp rfl rfl (p_move rfl rfl) ?_
          refine rz [(1, .q 1 (0)), (4, .q 4 (0)), (5, .b g'4), (76, .b (decide ((t0.Text.length : Int) > (8 : Int))))] [(1, .pure (GToken.cs t0)), (4, .pure (GToken.cs ({ { GToken.zero with Kind := t0.Kind } with Text := t0.Text })))] rfl rfl rfl ?_
          refine AW2_if (p := (t0.Text.length : Int) > (8 : Int)) rfl (fun h9 => ?_) (fun h9 => ?_)
          · replace H := ite_then h9 H
            refine sg [0] rfl ?_
            refine rp rfl rfl (p_asg rfl rfl) ?_
            refine rz [(2, .i (1 : Int))] [] rfl rfl rfl ?_
            refine AW2_ret ?_
            have hz := some_elim H
            subst hz
            exact ⟨⟨res_tmp (.same _), trivial⟩, trivial⟩
          · replace H := ite_else h9 H
            refine as2 [(1, .q 1 (0)), (4, .q 4 (0)), (5, .b g'4)] [(1, .pure (GToken.cs t0)), (4, .pure (GToken.cs ({ { GToken.zero with Kind := t0.Kind } with Text := t0.Text })))] rfl rfl rfl ?_
            refine AW2_skip ?_
            refine AW2_seq ?_
            refine AW2_seq ?_
            refine AW2_mid (⟨[(83, .b (decide (((!g'4) = true) ∨ (t0 ≠ { { GToken.zero with Kind := t0.Kind } with Text := t0.Text }))))], [], 84⟩ : TS) ?_ ?_
            · refine AW2_reg [0, 1, 2, 3, 4, 5, 6] rfl ?_
              refine rp rfl rfl (p_move rfl rfl) ?_
              refine rp rfl rfl (p_not rfl rfl) ?_
              refine rp rfl rfl (p_move rfl rfl) ?_
              refine (Classical.em ((!g'4) = true)).elim (fun h10 => ?_) (fun h10 => ?_)
              · refine r_off rfl rfl rfl rfl h10 rfl rfl ?_
                refine r_off rfl rfl rfl rfl h10 rfl rfl ?_
                refine r_off rfl rfl rfl rfl h10 rfl rfl ?_
                refine rp rfl rfl (p_pkt rfl rfl h10 (tb (decide_eq_true (p := ((!g'4) = true) ∨ (t0 ≠ { { GToken.zero with Kind := t0.Kind } with Text := t0.Text })) (Or.inl h10)).symm)) ?_
                refine rs [(83, .b (decide (((!g'4) = true) ∨ (t0 ≠ { { GToken.zero with Kind := t0.Kind } with Text := t0.Text }))))] [] rfl rfl rfl ?_
                exact RunW_nil rfl
              · refine r_on rfl rfl rfl rfl (bfalse h10) rfl (PureD.opD (u_lda rfl rfl Tryd.underlying24 rfl in_24 rfl (Nat.succ_pos _) (Sub.refl _) (GToken.len t0))) ?_
                refine r_on rfl rfl rfl rfl (bfalse h10) rfl (PureD.opD (u_lda rfl rfl Tryd.underlying24 rfl in_24 rfl (Nat.succ_pos _) (Sub.refl _) (GToken.len ({ { GToken.zero with Kind := t0.Kind } with Text := t0.Text })))) ?_
                refine r_on rfl rfl rfl rfl (bfalse h10) rfl (PureD.opD (p_nea (a := t0) (b := { { GToken.zero with Kind := t0.Kind } with Text := t0.Text }) rfl eq_24 rfl (by kernel_rfl) rfl rfl)) ?_
                refine rp rfl rfl (p_pkf rfl rfl (bfalse h10) (tb ((or_l (p := (!g'4) = true) (q := t0 ≠ { { GToken.zero with Kind := t0.Kind } with Text := t0.Text }) h10)))) ?_
                refine rs [(83, .b (decide (((!g'4) = true) ∨ (t0 ≠ { { GToken.zero with Kind := t0.Kind } with Text := t0.Text }))))] [] rfl rfl rfl ?_
                exact RunW_nil rfl
            · refine AW2_if (p := ((!g'4) = true) ∨ (t0 ≠ { { GToken.zero with Kind := t0.Kind } with Text := t0.Text })) rfl (fun h11 => ?_) (fun h11 => ?_)
              · replace H := ite_then h11 H
                refine sg [0] rfl ?_
                refine rp rfl rfl (p_asg rfl rfl) ?_
                refine rz [(2, .i (3 : Int))] [] rfl rfl rfl ?_
                refine AW2_ret ?_
                have hz := some_elim H
                subst hz
                exact ⟨⟨res_tmp (.same _), trivial⟩, trivial⟩
              · replace H := ite_else h11 H
                refine as2 [] [] rfl rfl rfl ?_
                refine AW2_skip ?_
                refine sg [0] rfl ?_
                refine rp rfl rfl (p_asg rfl rfl) ?_
                refine rz [(2, .i (0 : Int))] [] rfl rfl rfl ?_
                refine AW2_ret ?_
                have hz := some_elim H
                subst hz
                exact ⟨⟨res_tmp (.same _), trivial⟩, trivial⟩
      · replace H := ite_else h5 H
        refine as2 [(1, .q 1 (0)), (3, .b (decide ((t0.Text.length : Int) > (8 : Int)))), (4, .q 4 (0)), (5, .b r'2)] [(1, .pure (GToken.cs t0)), (4, .pure (GToken.cs ({ { GToken.zero with Kind := t0.Kind } with Text := t0.Text })))] rfl rfl rfl ?_
        refine AW2_skip ?_
        refine AW2_seq ?_
        refine sg [0] rfl ?_
        refine rp rfl rfl (p_move rfl rfl) ?_
        refine rz [(1, .q 1 (0)), (4, .q 4 (0)), (5, .b r'2), (76, .b (decide ((t0.Text.length : Int) > (8 : Int))))] [(1, .pure (GToken.cs t0)), (4, .pure (GToken.cs ({ { GToken.zero with Kind := t0.Kind } with Text := t0.Text })))] rfl rfl rfl ?_
        refine AW2_if (p := (t0.Text.length : Int) > (8 : Int)) rfl (fun h12 => ?_) (fun h12 => ?_)
        · replace H := ite_then h12 H
          refine sg [0] rfl ?_
          refine rp rfl rfl (p_asg rfl rfl) ?_
          refine rz [(2, .i (1 : Int))] [] rfl rfl rfl ?_
          refine AW2_ret ?_
          have hz := some_elim H
          subst hz
          exact ⟨⟨res_tmp (.same _), trivial⟩, trivial⟩
        · replace H := ite_else h12 H
          refine as2 [(1, .q 1 (0)), (4, .q 4 (0)), (5, .b r'2)] [(1, .pure (GToken.cs t0)), (4, .pure (GToken.cs ({ { GToken.zero with Kind := t0.Kind } with Text := t0.Text })))] rfl rfl rfl ?_
          refine AW2_skip ?_
          refine AW2_seq ?_
          refine AW2_seq ?_
          refine AW2_mid (⟨[(83, .b (decide (((!r'2) = true) ∨ (t0 ≠ { { GToken.zero with Kind := t0.Kind } with Text := t0.Text }))))], [], 84⟩ : TS) ?_ ?_
          · refine AW2_reg [0, 1, 2, 3, 4, 5, 6] rfl ?_
            refine rp rfl rfl (p_move rfl rfl) ?_
            refine rp rfl rfl (p_not rfl rfl) ?_
            refine rp rfl rfl (p_move rfl rfl) ?_
            refine (Classical.em ((!r'2) = true)).elim (fun h13 => ?_) (fun h13 => ?_)
            · refine r_off rfl rfl rfl rfl h13 rfl rfl ?_
              refine r_off rfl rfl rfl rfl h13 rfl rfl ?_
              refine r_off rfl rfl rfl rfl h13 rfl rfl ?_
              refine rp rfl rfl (p_pkt rfl rfl h13 (tb (decide_eq_true (p := ((!r'2) = true) ∨ (t0 ≠ { { GToken.zero with Kind := t0.Kind } with Text := t0.Text })) (Or.inl h13)).symm)) ?_
              refine rs [(83, .b (decide (((!r'2) = true) ∨ (t0 ≠ { { GToken.zero with Kind := t0.Kind } with Text := t0.Text }))))] [] rfl rfl rfl ?_
              exact RunW_nil rfl
            · refine r_on rfl rfl rfl rfl (bfalse h13) rfl (PureD.opD (u_lda rfl rfl Tryd.underlying24 rfl in_24 rfl (Nat.succ_pos _) (Sub.refl _) (GToken.len t0))) ?_
              refine r_on rfl rfl rfl rfl (bfalse h13) rfl (PureD.opD (u_lda rfl rfl Tryd.underlying24 rfl in_24 rfl (Nat.succ_pos _) (Sub.refl _) (GToken.len ({ { GToken.zero with Kind := t0.Kind } with Text := t0.Text })))) ?_
              refine r_on rfl rfl rfl rfl (bfalse h13) rfl (PureD.opD (p_nea (a := t0) (b := { { GToken.zero with Kind := t0.Kind } with Text := t0.Text }) rfl eq_24 rfl (by kernel_rfl) rfl rfl)) ?_
              refine rp rfl rfl (p_pkf rfl rfl (bfalse h13) (tb ((or_l (p := (!r'2) = true) (q := t0 ≠ { { GToken.zero with Kind := t0.Kind } with Text := t0.Text }) h13)))) ?_
              refine rs [(83, .b (decide (((!r'2) = true) ∨ (t0 ≠ { { GToken.zero with Kind := t0.Kind } with Text := t0.Text }))))] [] rfl rfl rfl ?_
              exact RunW_nil rfl
          · refine AW2_if (p := ((!r'2) = true) ∨ (t0 ≠ { { GToken.zero with Kind := t0.Kind } with Text := t0.Text })) rfl (fun h14 => ?_) (fun h14 => ?_)
            · replace H := ite_then h14 H
              refine sg [0] rfl ?_
              refine rp rfl rfl (p_asg rfl rfl) ?_
              refine rz [(2, .i (3 : Int))] [] rfl rfl rfl ?_
              refine AW2_ret ?_
              have hz := some_elim H
              subst hz
              exact ⟨⟨res_tmp (.same _), trivial⟩, trivial⟩
            · replace H := ite_else h14 H
              refine as2 [] [] rfl rfl rfl ?_
              refine AW2_skip ?_
              refine sg [0] rfl ?_
              refine rp rfl rfl (p_asg rfl rfl) ?_
              refine rz [(2, .i (0 : Int))] [] rfl rfl rfl ?_
              refine AW2_ret ?_
              have hz := some_elim H
              subst hz
              exact ⟨⟨res_tmp (.same _), trivial⟩, trivial⟩
    · replace H := ite_else (ne_true h3) H
      refine sg [0, 1] rfl ?_
      refine rp rfl rfl (p_ieq rfl rfl rfl) ?_
      refine rp rfl rfl (p_asg rfl rfl) ?_
      refine rz [(1, .q 1 (0)), (3, .b false), (4, .q 4 (0)), (10, .i t0.Kind), (39, .b (decide (t0.Kind = (3 : Int))))] [(1, .pure (GToken.cs t0)), (4, .pure (GToken.cs ({ GToken.zero with Kind := t0.Kind })))] rfl rfl rfl ?_
      refine AW2_if (p := t0.Kind = (3 : Int)) rfl (fun h15 => ?_) (fun h15 => ?_)
      · replace H := ite_then h15 H
        refine sg [0, 1, 2, 3] rfl ?_
        refine rp rfl rfl (u_fa rfl rfl Tryd.underlying24 rfl in_3 (Nat.succ_ne_zero _) rfl rfl (ne_of_lt (n := 0) (Nat.lt_of_lt_of_eq (by decide) (Eq.symm (GToken.len t0))))) ?_
        refine rp rfl rfl (u_ld rfl rfl Tryd.underlying3 rfl rfl ((Sub.refl _).trans (GToken.sub2 t0))) ?_
        refine rp rfl rfl (u_fa rfl rfl Tryd.underlying24 rfl in_3 (Nat.succ_ne_zero _) rfl rfl (ne_of_lt (n := 0) (Nat.lt_of_lt_of_eq (by decide) (Eq.symm (GToken.len ({ GToken.zero with Kind := t0.Kind })))))) ?_
        refine r_op rfl rfl (u_st rfl rfl rfl rfl rfl in_3 rfl (ne_of_lt (n := 0) (Nat.lt_of_lt_of_eq (by decide) (Eq.symm (GToken.len ({ GToken.zero with Kind := t0.Kind }))))) (Upd.trans (Sub.refl _) (GToken.upd2 ({ GToken.zero with Kind := t0.Kind }) t0.Int_) (Upd.refl ((GToken.len ({ { GToken.zero with Kind := t0.Kind } with Int_ := t0.Int_ })).trans (GToken.len ({ GToken.zero with Kind := t0.Kind })).symm)))) ?_
        refine rz [(1, .q 1 (0)), (3, .b false), (4, .q 4 (0))] [(1, .pure (GToken.cs t0)), (4, .pure (GToken.cs ({ { GToken.zero with Kind := t0.Kind } with Int_ := t0.Int_ })))] rfl rfl rfl ?_
        refine AW2_reg [0, 1, 2, 3] rfl ?_
        refine rp rfl rfl (u_fa rfl rfl Tryd.underlying24 rfl in_3 (Nat.succ_ne_zero _) rfl rfl (ne_of_lt (n := 0) (Nat.lt_of_lt_of_eq (by decide) (Eq.symm (GToken.len t0))))) ?_
        refine rp rfl rfl (u_ld rfl rfl Tryd.underlying3 rfl rfl ((Sub.refl _).trans (GToken.sub2 t0))) ?_
        refine rp rfl rfl (p_bin rfl rfl rfl rfl) ?_
        refine rp rfl rfl (p_asg rfl rfl) ?_
        refine rz [(1, .q 1 (0)), (3, .b false), (4, .q 4 (0)), (5, .b (decide (t0.Int_ ≥ (0 : Int))))] [(1, .pure (GToken.cs t0)), (4, .pure (GToken.cs ({ { GToken.zero with Kind := t0.Kind } with Int_ := t0.Int_ })))] rfl rfl rfl ?_
        refine AW2_seq ?_
        refine sg [0] rfl ?_
        refine rp rfl rfl (p_move rfl rfl) ?_
        refine rz [(1, .q 1 (0)), (4, .q 4 (0)), (5, .b (decide (t0.Int_ ≥ (0 : Int)))), (76, .b false)] [(1, .pure (GToken.cs t0)), (4, .pure (GToken.cs ({ { GToken.zero with Kind := t0.Kind } with Int_ := t0.Int_ })))] rfl rfl rfl ?_
        refine AW2_cond rfl (fun h16 => ?_) (fun h16 => ?_)
        · replace H := ite_then h16 H
          refine sg [0] rfl ?_
          refine rp rfl rfl (p_asg rfl rfl) ?_
          refine rz [(2, .i (1 : Int))] [] rfl rfl rfl ?_
          refine AW2_ret ?_
          have hz := some_elim H
          subst hz
          exact ⟨⟨res_tmp (.same _), trivial⟩, trivial⟩
        · replace H := ite_else (ne_true h16) H
          refine as2 [(1, .q 1 (0)), (4, .q 4 (0)), (5, .b (decide (t0.Int_ ≥ (0 : Int))))] [(1, .pure (GToken.cs t0)), (4, .pure (GToken.cs ({ { GToken.zero with Kind := t0.Kind } with Int_ := t0.Int_ })))] rfl rfl rfl ?_
          refine AW2_skip ?_
          refine AW2_seq ?_
          refine AW2_seq ?_
          refine AW2_mid (⟨[(83, .b (decide ((¬ (t0.Int_ ≥ (0 : Int))) ∨ (t0 ≠ { { GToken.zero with Kind := t0.Kind } with Int_ := t0.Int_ }))))], [], 84⟩ : TS) ?_ ?_
          · refine AW2_reg [0, 1, 2, 3, 4, 5, 6] rfl ?_
            refine rp rfl rfl (p_move rfl rfl) ?_
            refine rp rfl rfl (p_notp rfl rfl) ?_
            refine rp rfl rfl (p_move rfl rfl) ?_
            refine (Classical.em (t0.Int_ ≥ (0 : Int))).elim (fun h17 => ?_) (fun h17 => ?_)
            · refine r_on rfl rfl rfl rfl (decide_eq_false (p := ¬ (t0.Int_ ≥ (0 : Int))) (fun h => h h17)) rfl (PureD.opD (u_lda rfl rfl Tryd.underlying24 rfl in_24 rfl (Nat.succ_pos _) (Sub.refl _) (GToken.len t0))) ?_
              refine r_on rfl rfl rfl rfl (decide_eq_false (p := ¬ (t0.Int_ ≥ (0 : Int))) (fun h => h h17)) rfl (PureD.opD (u_lda rfl rfl Tryd.underlying24 rfl in_24 rfl (Nat.succ_pos _) (Sub.refl _) (GToken.len ({ { GToken.zero with Kind := t0.Kind } with Int_ := t0.Int_ })))) ?_
              refine r_on rfl rfl rfl rfl (decide_eq_false (p := ¬ (t0.Int_ ≥ (0 : Int))) (fun h => h h17)) rfl (PureD.opD (p_nea (a := t0) (b := { { GToken.zero with Kind := t0.Kind } with Int_ := t0.Int_ }) rfl eq_24 rfl (by kernel_rfl) rfl rfl)) ?_
              refine rp rfl rfl (p_pkf rfl rfl (decide_eq_false (p := ¬ (t0.Int_ ≥ (0 : Int))) (fun h => h h17)) (tb ((or_l (p := ¬ (t0.Int_ ≥ (0 : Int))) (q := t0 ≠ { { GToken.zero with Kind := t0.Kind } with Int_ := t0.Int_ }) (fun h => h h17))))) ?_
              refine rs [(83, .b (decide ((¬ (t0.Int_ ≥ (0 : Int))) ∨ (t0 ≠ { { GToken.zero with Kind := t0.Kind } with Int_ := t0.Int_ }))))] [] rfl rfl rfl ?_
              exact RunW_nil rfl
            · refine r_off rfl rfl rfl rfl (decide_eq_true (p := ¬ (t0.Int_ ≥ (0 : Int))) h17) rfl rfl ?_
              refine r_off rfl rfl rfl rfl (decide_eq_true (p := ¬ (t0.Int_ ≥ (0 : Int))) h17) rfl rfl ?_
              refine r_off rfl rfl rfl rfl (decide_eq_true (p := ¬ (t0.Int_ ≥ (0 : Int))) h17) rfl rfl ?_
              refine rp rfl rfl (p_pkt rfl rfl (decide_eq_true (p := ¬ (t0.Int_ ≥ (0 : Int))) h17) (tb (decide_eq_true (p := (¬ (t0.Int_ ≥ (0 : Int))) ∨ (t0 ≠ { { GToken.zero with Kind := t0.Kind } with Int_ := t0.Int_ })) (Or.inl h17)).symm)) ?_
              refine rs [(83, .b (decide ((¬ (t0.Int_ ≥ (0 : Int))) ∨ (t0 ≠ { { GToken.zero with Kind := t0.Kind } with Int_ := t0.Int_ }))))] [] rfl rfl rfl ?_
              exact RunW_nil rfl
          · refine AW2_if (p := (¬ (t0.Int_ ≥ (0 : Int))) ∨ (t0 ≠ { { GToken.zero with Kind := t0.Kind } with Int_ := t0.Int_ })) rfl (fun h18 => ?_) (fun h18 => ?_)
            · replace H := ite_then h18 H
              refine sg [0] rfl ?_
              refine rp rfl rfl (p_asg rfl rfl) ?_
              refine rz [(2, .i (3 : Int))] [] rfl rfl rfl ?_
              refine AW2_ret ?_
              have hz := some_elim H
              subst hz
              exact ⟨⟨res_tmp (.same _), trivial⟩, trivial⟩
            · replace H := ite_else h18 H
              refine as2 [] [] rfl rfl rfl ?_
              refine AW2_skip ?_
              refine sg [0] rfl ?_
              refine rp rfl rfl (p_asg rfl rfl) ?_
              refine rz [(2, .i (0 : Int))] [] rfl rfl rfl ?_
              refine AW2_ret ?_
              have hz := some_elim H
              subst hz
              exact ⟨⟨res_tmp (.same _), trivial⟩, trivial⟩
      · replace H := ite_else h15 H
        refine sg [0, 1] rfl ?_
        refine rp rfl rfl (p_ieq rfl rfl rfl) ?_
        refine rp rfl rfl (p_asg rfl rfl) ?_
        refine rz [(1, .q 1 (0)), (3, .b false), (4, .q 4 (0)), (10, .i t0.Kind), (47, .b (decide (t0.Kind = (4 : Int))))] [(1, .pure (GToken.cs t0)), (4, .pure (GToken.cs ({ GToken.zero with Kind := t0.Kind })))] rfl rfl rfl ?_
        refine AW2_if (p := t0.Kind = (4 : Int)) rfl (fun h19 => ?_) (fun h19 => ?_)
        · replace H := ite_then h19 H
          refine sg [0, 1, 2, 3] rfl ?_
          refine rp rfl rfl (u_fa rfl rfl Tryd.underlying24 rfl in_9 (Nat.succ_ne_zero _) rfl rfl (ne_of_lt (n := 0) (Nat.lt_of_lt_of_eq (by decide) (Eq.symm (GToken.len t0))))) ?_
          refine rp rfl rfl (u_ld rfl rfl Tryd.underlying9 rfl rfl ((Sub.refl _).trans (GToken.sub1 t0))) ?_
          refine rp rfl rfl (u_fa rfl rfl Tryd.underlying24 rfl in_9 (Nat.succ_ne_zero _) rfl rfl (ne_of_lt (n := 0) (Nat.lt_of_lt_of_eq (by decide) (Eq.symm (GToken.len ({ GToken.zero with Kind := t0.Kind })))))) ?_
          refine r_op rfl rfl (u_st rfl rfl rfl rfl rfl in_9 rfl (ne_of_lt (n := 0) (Nat.lt_of_lt_of_eq (by decide) (Eq.symm (GToken.len ({ GToken.zero with Kind := t0.Kind }))))) (Upd.trans (Sub.refl _) (GToken.upd1 ({ GToken.zero with Kind := t0.Kind }) t0.Text) (Upd.refl ((GToken.len ({ { GToken.zero with Kind := t0.Kind } with Text := t0.Text })).trans (GToken.len ({ GToken.zero with Kind := t0.Kind })).symm)))) ?_
          refine rz [(1, .q 1 (0)), (4, .q 4 (0))] [(1, .pure (GToken.cs t0)), (4, .pure (GToken.cs ({ { GToken.zero with Kind := t0.Kind } with Text := t0.Text })))] rfl rfl rfl ?_
          refine sg [0, 1, 2, 3, 4] rfl ?_
          refine rp rfl rfl (u_fa rfl rfl Tryd.underlying24 rfl in_9 (Nat.succ_ne_zero _) rfl rfl (ne_of_lt (n := 0) (Nat.lt_of_lt_of_eq (by decide) (Eq.symm (GToken.len t0))))) ?_
          refine rp rfl rfl (u_ld rfl rfl Tryd.underlying9 rfl rfl ((Sub.refl _).trans (GToken.sub1 t0))) ?_
          refine rp rfl rfl (p_lent rfl Tryd.underlying9 rfl) ?_
          refine rp rfl rfl (p_bin rfl rfl rfl rfl) ?_
          refine rp rfl rfl (p_asg rfl rfl) ?_
          refine rz [(1, .q 1 (0)), (3, .b (decide ((t0.Text.length : Int) > (40 : Int)))), (4, .q 4 (0))] [(1, .pure (GToken.cs t0)), (4, .pure (GToken.cs ({ { GToken.zero with Kind := t0.Kind } with Text := t0.Text })))] rfl rfl rfl ?_
          refine AW2_reg [0, 1, 2, 3] rfl ?_
          refine rp rfl rfl (u_fa rfl rfl Tryd.underlying24 rfl in_9 (Nat.succ_ne_zero _) rfl rfl (ne_of_lt (n := 0) (Nat.lt_of_lt_of_eq (by decide) (Eq.symm (GToken.len t0))))) ?_
          refine rp rfl rfl (u_ld rfl rfl Tryd.underlying9 rfl rfl ((Sub.refl _).trans (GToken.sub1 t0))) ?_
          refine bindK H fun r'5 h20 H => ?_
          refine rp rfl rfl (p_callp rfl rfl rfl Tryd.func30 rfl rfl (g_utf8_ValidString_ac h20) ⟨rfl, trivial⟩) ?_
          refine rp rfl rfl (p_asg rfl rfl) ?_
          refine rz [(1, .q 1 (0)), (3, .b (decide ((t0.Text.length : Int) > (40 : Int)))), (4, .q 4 (0)), (5, .b r'5)] [(1, .pure (GToken.cs t0)), (4, .pure (GToken.cs ({ { GToken.zero with Kind := t0.Kind } with Text := t0.Text })))] rfl rfl rfl ?_
          refine AW2_seq ?_
          refine sg [0] rfl ?_
          refine rp rfl rfl (p_move rfl rfl) ?_
          refine rz [(1, .q 1 (0)), (4, .q 4 (0)), (5, .b r'5), (76, .b (decide ((t0.Text.length : Int) > (40 : Int))))] [(1, .pure (GToken.cs t0)), (4, .pure (GToken.cs ({ { GToken.zero with Kind := t0.Kind } with Text := t0.Text })))] rfl rfl rfl ?_
          refine AW2_if (p := (t0.Text.length : Int) > (40 : Int)) rfl (fun h21 => ?_) (fun h21 => ?_)
          · replace H := ite_then h21 H
            refine sg [0] rfl ?_
            refine rp rfl rfl (p_asg rfl rfl) ?_
            refine rz [(2, .i (1 : Int))] [] rfl rfl rfl ?_
            refine AW2_ret ?_
            have hz := some_elim H
            subst hz
            exact ⟨⟨res_tmp (.same _), trivial⟩, trivial⟩
          · replace H := ite_else h21 H
            refine as2 [(1, .q 1 (0)), (4, .q 4 (0)), (5, .b r'5)] [(1, .pure (GToken.cs t0)), (4, .pure (GToken.cs ({ { GToken.zero with Kind := t0.Kind } with Text := t0.Text })))] rfl rfl rfl ?_
            refine AW2_skip ?_
            refine AW2_seq ?_
            refine AW2_seq ?_
            refine AW2_mid (⟨[(83, .b (decide (((!r'5) = true) ∨ (t0 ≠ { { GToken.zero with Kind := t0.Kind } with Text := t0.Text }))))], [], 84⟩ : TS) ?_ ?_
            · refine AW2_reg [0, 1, 2, 3, 4, 5, 6] rfl ?_
              refine rp rfl rfl (p_move rfl rfl) ?_
              refine rp rfl rfl (p_not rfl rfl) ?_
              refine rp rfl rfl (p_move rfl rfl) ?_
              refine (Classical.em ((!r'5) = true)).elim (fun h22 => ?_) (fun h22 => ?_)
              · refine r_off rfl rfl rfl rfl h22 rfl rfl ?_
                refine r_off rfl rfl rfl rfl h22 rfl rfl ?_
                refine r_off rfl rfl rfl rfl h22 rfl rfl ?_
                refine rp rfl rfl (p_pkt rfl rfl h22 (tb (decide_eq_true (p := ((!r'5) = true) ∨ (t0 ≠ { { GToken.zero with Kind := t0.Kind } with Text := t0.Text })) (Or.inl h22)).symm)) ?_
                refine rs [(83, .b (decide (((!r'5) = true) ∨ (t0 ≠ { { GToken.zero with Kind := t0.Kind } with Text := t0.Text }))))] [] rfl rfl rfl ?_
                exact RunW_nil rfl
              · refine r_on rfl rfl rfl rfl (bfalse h22) rfl (PureD.opD (u_lda rfl rfl Tryd.underlying24 rfl in_24 rfl (Nat.succ_pos _) (Sub.refl _) (GToken.len t0))) ?_
                refine r_on rfl rfl rfl rfl (bfalse h22) rfl (PureD.opD (u_lda rfl rfl Tryd.underlying24 rfl in_24 rfl (Nat.succ_pos _) (Sub.refl _) (GToken.len ({ { GToken.zero with Kind := t0.Kind } with Text := t0.Text })))) ?_
                refine r_on rfl rfl rfl rfl (bfalse h22) rfl (PureD.opD (p_nea (a := t0) (b := { { GToken.zero with Kind := t0.Kind } with Text := t0.Text }) rfl eq_24 rfl (by kernel_rfl) rfl rfl)) ?_
                refine rp rfl rfl (p_pkf rfl rfl (bfalse h22) (tb ((or_l (p := (!r'5) = true) (q := t0 ≠ { { GToken.zero with Kind := t0.Kind } with Text := t0.Text }) h22)))) ?_
                refine rs [(83, .b (decide (((!r'5) = true) ∨ (t0 ≠ { { GToken.zero with Kind := t0.Kind } with Text := t0.Text }))))] [] rfl rfl rfl ?_
                exact RunW_nil rfl
            · refine AW2_if (p := ((!r'5) = true) ∨ (t0 ≠ { { GToken.zero with Kind := t0.Kind } with Text := t0.Text })) rfl (fun h23 => ?_) (fun h23 => ?_)
              · replace H := ite_then h23 H
                refine sg [0] rfl ?_
                refine rp rfl rfl (p_asg rfl rfl) ?_
                refine rz [(2, .i (3 : Int))] [] rfl rfl rfl ?_
                refine AW2_ret ?_
                have hz := some_elim H
                subst hz
                exact ⟨⟨res_tmp (.same _), trivial⟩, trivial⟩
              · replace H := ite_else h23 H
                refine as2 [] [] rfl rfl rfl ?_
                refine AW2_skip ?_
                refine sg [0] rfl ?_
                refine rp rfl rfl (p_asg rfl rfl) ?_
                refine rz [(2, .i (0 : Int))] [] rfl rfl rfl ?_
                refine AW2_ret ?_
                have hz := some_elim H
                subst hz
                exact ⟨⟨res_tmp (.same _), trivial⟩, trivial⟩
        · replace H := ite_else h19 H
          refine sg [0, 1] rfl ?_
          refine rp rfl rfl (p_ieq rfl rfl rfl) ?_
          refine rp rfl rfl (p_asg rfl rfl) ?_
          refine rz [(1, .q 1 (0)), (3, .b false), (4, .q 4 (0)), (10, .i t0.Kind), (59, .b (decide (t0.Kind = (5 : Int))))] [(1, .pure (GToken.cs t0)), (4, .pure (GToken.cs ({ GToken.zero with Kind := t0.Kind })))] rfl rfl rfl ?_
          refine AW2_if (p := t0.Kind = (5 : Int)) rfl (fun h24 => ?_) (fun h24 => ?_)
          · replace H := ite_then h24 H
            refine sg [0, 1, 2, 3] rfl ?_
            refine rp rfl rfl (u_fa rfl rfl Tryd.underlying24 rfl in_22 (Nat.succ_ne_zero _) rfl rfl (ne_of_lt (n := 0) (Nat.lt_of_lt_of_eq (by decide) (Eq.symm (GToken.len t0))))) ?_
            refine rp rfl rfl (u_ld rfl rfl Tryd.underlying22 rfl rfl ((Sub.refl _).trans (GToken.sub3 t0))) ?_
            refine rp rfl rfl (u_fa rfl rfl Tryd.underlying24 rfl in_22 (Nat.succ_ne_zero _) rfl rfl (ne_of_lt (n := 0) (Nat.lt_of_lt_of_eq (by decide) (Eq.symm (GToken.len ({ GToken.zero with Kind := t0.Kind })))))) ?_
            refine r_op rfl rfl (u_st rfl rfl rfl rfl rfl in_22 rfl (ne_of_lt (n := 0) (Nat.lt_of_lt_of_eq (by decide) (Eq.symm (GToken.len ({ GToken.zero with Kind := t0.Kind }))))) (Upd.trans (Sub.refl _) (GToken.upd3 ({ GToken.zero with Kind := t0.Kind }) t0.Bits) (Upd.refl ((GToken.len ({ { GToken.zero with Kind := t0.Kind } with Bits := t0.Bits })).trans (GToken.len ({ GToken.zero with Kind := t0.Kind })).symm)))) ?_
            refine rz [(1, .q 1 (0)), (3, .b false), (4, .q 4 (0))] [(1, .pure (GToken.cs t0)), (4, .pure (GToken.cs ({ { GToken.zero with Kind := t0.Kind } with Bits := t0.Bits })))] rfl rfl rfl ?_
            refine AW2_reg [0, 1, 2, 3, 4] rfl ?_
            refine rp rfl rfl (u_fa rfl rfl Tryd.underlying24 rfl in_22 (Nat.succ_ne_zero _) rfl rfl (ne_of_lt (n := 0) (Nat.lt_of_lt_of_eq (by decide) (Eq.symm (GToken.len t0))))) ?_
            refine rp rfl rfl (u_ld rfl rfl Tryd.underlying22 rfl rfl ((Sub.refl _).trans (GToken.sub3 t0))) ?_
            refine bindK H fun r'6 h25 H => ?_
            refine rp rfl rfl (p_callp rfl rfl rfl Tryd.func35 rfl rfl (g_ref_badReal_ac h25) ⟨rfl, trivial⟩) ?_
            refine rp rfl rfl (p_not rfl rfl) ?_
            refine rp rfl rfl (p_asg rfl rfl) ?_
            refine rz [(1, .q 1 (0)), (3, .b false), (4, .q 4 (0)), (5, .b (!r'6))] [(1, .pure (GToken.cs t0)), (4, .pure (GToken.cs ({ { GToken.zero with Kind := t0.Kind } with Bits := t0.Bits })))] rfl rfl rfl ?_
            refine AW2_seq ?_
            refine sg [0] rfl ?_
            refine rp rfl rfl (p_move rfl rfl) ?_
            refine rz [(1, .q 1 (0)), (4, .q 4 (0)), (5, .b (!r'6)), (76, .b false)] [(1, .pure (GToken.cs t0)), (4, .pure (GToken.cs ({ { GToken.zero with Kind := t0.Kind } with Bits := t0.Bits })))] rfl rfl rfl ?_
            refine AW2_cond rfl (fun h26 => ?_) (fun h26 => ?_)
            · replace H := ite_then h26 H
              refine sg [0] rfl ?_
              refine rp rfl rfl (p_asg rfl rfl) ?_
              refine rz [(2, .i (1 : Int))] [] rfl rfl rfl ?_
              refine AW2_ret ?_
              have hz := some_elim H
              subst hz
              exact ⟨⟨res_tmp (.same _), trivial⟩, trivial⟩
            · replace H := ite_else (ne_true h26) H
              refine as2 [(1, .q 1 (0)), (4, .q 4 (0)), (5, .b (!r'6))] [(1, .pure (GToken.cs t0)), (4, .pure (GToken.cs ({ { GToken.zero with Kind := t0.Kind } with Bits := t0.Bits })))] rfl rfl rfl ?_
              refine AW2_skip ?_
              refine AW2_seq ?_
              refine AW2_seq ?_
              refine AW2_mid (⟨[(83, .b (decide (((!(!r'6)) = true) ∨ (t0 ≠ { { GToken.zero with Kind := t0.Kind } with Bits := t0.Bits }))))], [], 84⟩ : TS) ?_ ?_
              · refine AW2_reg [0, 1, 2, 3, 4, 5, 6] rfl ?_
                refine rp rfl rfl (p_move rfl rfl) ?_
                refine rp rfl rfl (p_not rfl rfl) ?_
                refine rp rfl rfl (p_move rfl rfl) ?_
                refine (Classical.em ((!(!r'6)) = true)).elim (fun h27 => ?_) (fun h27 => ?_)
                · refine r_off rfl rfl rfl rfl h27 rfl rfl ?_
                  refine r_off rfl rfl rfl rfl h27 rfl rfl ?_
                  refine r_off rfl rfl rfl rfl h27 rfl rfl ?_
                  refine rp rfl rfl (p_pkt rfl rfl h27 (tb (decide_eq_true (p := ((!(!r'6)) = true) ∨ (t0 ≠ { { GToken.zero with Kind := t0.Kind } with Bits := t0.Bits })) (Or.inl h27)).symm)) ?_
                  refine rs [(83, .b (decide (((!(!r'6)) = true) ∨ (t0 ≠ { { GToken.zero with Kind := t0.Kind } with Bits := t0.Bits }))))] [] rfl rfl rfl ?_
                  exact RunW_nil rfl
                · refine r_on rfl rfl rfl rfl (bfalse h27) rfl (PureD.opD (u_lda rfl rfl Tryd.underlying24 rfl in_24 rfl (Nat.succ_pos _) (Sub.refl _) (GToken.len t0))) ?_
                  refine r_on rfl rfl rfl rfl (bfalse h27) rfl (PureD.opD (u_lda rfl rfl Tryd.underlying24 rfl in_24 rfl (Nat.succ_pos _) (Sub.refl _) (GToken.len ({ { GToken.zero with Kind := t0.Kind } with Bits := t0.Bits })))) ?_
                  refine r_on rfl rfl rfl rfl (bfalse h27) rfl (PureD.opD (p_nea (a := t0) (b := { { GToken.zero with Kind := t0.Kind } with Bits := t0.Bits }) rfl eq_24 rfl (by kernel_rfl) rfl rfl)) ?_
                  refine rp rfl rfl (p_pkf rfl rfl (bfalse h27) (tb ((or_l (p := (!(!r'6)) = true) (q := t0 ≠ { { GToken.zero with Kind := t0.Kind } with Bits := t0.Bits }) h27)))) ?_
                  refine rs [(83, .b (decide (((!(!r'6)) = true) ∨ (t0 ≠ { { GToken.zero with Kind := t0.Kind } with Bits := t0.Bits }))))] [] rfl rfl rfl ?_
                  exact RunW_nil rfl
              · refine AW2_if (p := ((!(!r'6)) = true) ∨ (t0 ≠ { { GToken.zero with Kind := t0.Kind } with Bits := t0.Bits })) rfl (fun h28 => ?_) (fun h28 => ?_)
                · replace H := ite_then h28 H
                  refine sg [0] rfl ?_
                  refine rp rfl rfl (p_asg rfl rfl) ?_
                  refine rz [(2, .i (3 : Int))] [] rfl rfl rfl ?_
                  refine AW2_ret ?_
                  have hz := some_elim H
                  subst hz
                  exact ⟨⟨res_tmp (.same _), trivial⟩, trivial⟩
                · replace H := ite_else h28 H
                  refine as2 [] [] rfl rfl rfl ?_
                  refine AW2_skip ?_
                  refine sg [0] rfl ?_
                  refine rp rfl rfl (p_asg rfl rfl) ?_
                  refine rz [(2, .i (0 : Int))] [] rfl rfl rfl ?_
                  refine AW2_ret ?_
                  have hz := some_elim H
                  subst hz
                  exact ⟨⟨res_tmp (.same _), trivial⟩, trivial⟩
          · replace H := ite_else h24 H
            refine sg [0, 1] rfl ?_
            refine rp rfl rfl (p_ieq rfl rfl rfl) ?_
            refine rp rfl rfl (p_asg rfl rfl) ?_
            refine rz [(1, .q 1 (0)), (3, .b false), (4, .q 4 (0)), (68, .b (decide (t0.Kind = (6 : Int))))] [(1, .pure (GToken.cs t0)), (4, .pure (GToken.cs ({ GToken.zero with Kind := t0.Kind })))] rfl rfl rfl ?_
            refine AW2_if (p := t0.Kind = (6 : Int)) rfl (fun h29 => ?_) (fun h29 => ?_)
            · replace H := ite_then h29 H
              refine sg [0, 1, 2, 3] rfl ?_
              refine rp rfl rfl (u_fa rfl rfl Tryd.underlying24 rfl in_9 (Nat.succ_ne_zero _) rfl rfl (ne_of_lt (n := 0) (Nat.lt_of_lt_of_eq (by decide) (Eq.symm (GToken.len t0))))) ?_
              refine rp rfl rfl (u_ld rfl rfl Tryd.underlying9 rfl rfl ((Sub.refl _).trans (GToken.sub1 t0))) ?_
              refine rp rfl rfl (u_fa rfl rfl Tryd.underlying24 rfl in_9 (Nat.succ_ne_zero _) rfl rfl (ne_of_lt (n := 0) (Nat.lt_of_lt_of_eq (by decide) (Eq.symm (GToken.len ({ GToken.zero with Kind := t0.Kind })))))) ?_
              refine r_op rfl rfl (u_st rfl rfl rfl rfl rfl in_9 rfl (ne_of_lt (n := 0) (Nat.lt_of_lt_of_eq (by decide) (Eq.symm (GToken.len ({ GToken.zero with Kind := t0.Kind }))))) (Upd.trans (Sub.refl _) (GToken.upd1 ({ GToken.zero with Kind := t0.Kind }) t0.Text) (Upd.refl ((GToken.len ({ { GToken.zero with Kind := t0.Kind } with Text := t0.Text })).trans (GToken.len ({ GToken.zero with Kind := t0.Kind })).symm)))) ?_
              refine rz [(1, .q 1 (0)), (3, .b false), (4, .q 4 (0))] [(1, .pure (GToken.cs t0)), (4, .pure (GToken.cs ({ { GToken.zero with Kind := t0.Kind } with Text := t0.Text })))] rfl rfl rfl ?_
              refine AW2_reg [0, 1, 2, 3] rfl ?_
              refine rp rfl rfl (u_fa rfl rfl Tryd.underlying24 rfl in_9 (Nat.succ_ne_zero _) rfl rfl (ne_of_lt (n := 0) (Nat.lt_of_lt_of_eq (by decide) (Eq.symm (GToken.len t0))))) ?_
              refine rp rfl rfl (u_ld rfl rfl Tryd.underlying9 rfl rfl ((Sub.refl _).trans (GToken.sub1 t0))) ?_
              refine bindK H fun r'7 h30 H => ?_
              refine rp rfl rfl (p_callp rfl rfl rfl Tryd.func36 rfl rfl (g_ref_isSign_ac h30) ⟨rfl, trivial⟩) ?_
              refine rp rfl rfl (p_asg rfl rfl) ?_
              refine rz [(1, .q 1 (0)), (3, .b false), (4, .q 4 (0)), (5, .b r'7)] [(1, .pure (GToken.cs t0)), (4, .pure (GToken.cs ({ { GToken.zero with Kind := t0.Kind } with Text := t0.Text })))] rfl rfl rfl ?_
              refine AW2_seq ?_
              refine sg [0] rfl ?_
              refine rp rfl rfl (p_move rfl rfl) ?_
              refine rz [(1, .q 1 (0)), (4, .q 4 (0)), (5, .b r'7), (76, .b false)] [(1, .pure (GToken.cs t0)), (4, .pure (GToken.cs ({ { GToken.zero with Kind := t0.Kind } with Text := t0.Text })))] rfl rfl rfl ?_
              refine AW2_cond rfl (fun h31 => ?_) (fun h31 => ?_)
              · replace H := ite_then h31 H
                refine sg [0] rfl ?_
                refine rp rfl rfl (p_asg rfl rfl) ?_
                refine rz [(2, .i (1 : Int))] [] rfl rfl rfl ?_
                refine AW2_ret ?_
                have hz := some_elim H
                subst hz
                exact ⟨⟨res_tmp (.same _), trivial⟩, trivial⟩
              · replace H := ite_else (ne_true h31) H
                refine as2 [(1, .q 1 (0)), (4, .q 4 (0)), (5, .b r'7)] [(1, .pure (GToken.cs t0)), (4, .pure (GToken.cs ({ { GToken.zero with Kind := t0.Kind } with Text := t0.Text })))] rfl rfl rfl ?_
                refine AW2_skip ?_
                refine AW2_seq ?_
                refine AW2_seq ?_
                refine AW2_mid (⟨[(83, .b (decide (((!r'7) = true) ∨ (t0 ≠ { { GToken.zero with Kind := t0.Kind } with Text := t0.Text }))))], [], 84⟩ : TS) ?_ ?_
                · refine AW2_reg [0, 1, 2, 3, 4, 5, 6] rfl ?_
                  refine rp rfl rfl (p_move rfl rfl) ?_
                  refine rp rfl rfl (p_not rfl rfl) ?_
                  refine rp rfl rfl (p_move rfl rfl) ?_
                  refine (Classical.em ((!r'7) = true)).elim (fun h32 => ?_) (fun h32 => ?_)
                  · refine r_off rfl rfl rfl rfl h32 rfl rfl ?_
                    refine r_off rfl rfl rfl rfl h32 rfl rfl ?_
                    refine r_off rfl rfl rfl rfl h32 rfl rfl ?_
                    refine rp rfl rfl (p_pkt rfl rfl h32 (tb (decide_eq_true (p := ((!r'7) = true) ∨ (t0 ≠ { { GToken.zero with Kind := t0.Kind } with Text := t0.Text })) (Or.inl h32)).symm)) ?_
                    refine rs [(83, .b (decide (((!r'7) = true) ∨ (t0 ≠ { { GToken.zero with Kind := t0.Kind } with Text := t0.Text }))))] [] rfl rfl rfl ?_
                    exact RunW_nil rfl
                  · refine r_on rfl rfl rfl rfl (bfalse h32) rfl (PureD.opD (u_lda rfl rfl Tryd.underlying24 rfl in_24 rfl (Nat.succ_pos _) (Sub.refl _) (GToken.len t0))) ?_
                    refine r_on rfl rfl rfl rfl (bfalse h32) rfl (PureD.opD (u_lda rfl rfl Tryd.underlying24 rfl in_24 rfl (Nat.succ_pos _) (Sub.refl _) (GToken.len ({ { GToken.zero with Kind := t0.Kind } with Text := t0.Text })))) ?_
                    refine r_on rfl rfl rfl rfl (bfalse h32) rfl (PureD.opD (p_nea (a := t0) (b := { { GToken.zero with Kind := t0.Kind } with Text := t0.Text }) rfl eq_24 rfl (by kernel_rfl) rfl rfl)) ?_
                    refine rp rfl rfl (p_pkf rfl rfl (bfalse h32) (tb ((or_l (p := (!r'7) = true) (q := t0 ≠ { { GToken.zero with Kind := t0.Kind } with Text := t0.Text }) h32)))) ?_
                    refine rs [(83, .b (decide (((!r'7) = true) ∨ (t0 ≠ { { GToken.zero with Kind := t0.Kind } with Text := t0.Text }))))] [] rfl rfl rfl ?_
                    exact RunW_nil rfl
                · refine AW2_if (p := ((!r'7) = true) ∨ (t0 ≠ { { GToken.zero with Kind := t0.Kind } with Text := t0.Text })) rfl (fun h33 => ?_) (fun h33 => ?_)
                  · replace H := ite_then h33 H
                    refine sg [0] rfl ?_
                    refine rp rfl rfl (p_asg rfl rfl) ?_
                    refine rz [(2, .i (3 : Int))] [] rfl rfl rfl ?_
                    refine AW2_ret ?_
                    have hz := some_elim H
                    subst hz
                    exact ⟨⟨res_tmp (.same _), trivial⟩, trivial⟩
                  · replace H := ite_else h33 H
                    refine as2 [] [] rfl rfl rfl ?_
                    refine AW2_skip ?_
                    refine sg [0] rfl ?_
                    refine rp rfl rfl (p_asg rfl rfl) ?_
                    refine rz [(2, .i (0 : Int))] [] rfl rfl rfl ?_
                    refine AW2_ret ?_
                    have hz := some_elim H
                    subst hz
                    exact ⟨⟨res_tmp (.same _), trivial⟩, trivial⟩
            · replace H := ite_else h29 H
              refine sg [0] rfl ?_
              refine rp rfl rfl (p_asg rfl rfl) ?_
              refine rz [(2, .i (2 : Int))] [] rfl rfl rfl ?_
              refine AW2_ret ?_
              have hz := some_elim H
              subst hz
              exact ⟨⟨res_tmp (.same _), trivial⟩, trivial⟩

/-! chirographlaw.LexChecks -/
noncomputable def g_law_LexChecks (t0 : GToken) : Option (Bool) :=
  (g_lex_Check t0).bind fun r'1 => (g_ref_TokenFault t0).bind fun r'2 => some (decide (r'1 = r'2))
set_option maxHeartbeats 4000000 in
set_option maxRecDepth 100000 in
theorem g_law_LexChecks_ac {t0 : GToken} {r : Bool} (H : g_law_LexChecks t0 = some r) : ACp Tryd.prog 3 [(.agg (GToken.cs t0))] (AV.bool r) := by
  refine ACp_of (AC2_of_body (vs := [.b r]) Tryd.func3 rfl rfl (Nat.le_of_ble_eq_true rfl) rfl ?_) (fun _ => .same _)
  unfold g_law_LexChecks at H
  refine as2 [(0, .g (GToken.cs t0))] [] rfl rfl rfl ?_
  refine sg [0, 1] rfl ?_
  refine r_op rfl rfl (MakeD.opD (n_box 1 rfl rfl) rfl rfl rfl rfl) ?_
  refine rp rfl rfl (p_asg rfl rfl) ?_
  refine rz [(1, .q 1 (0))] [(1, .pure (GToken.cs t0))] rfl rfl rfl ?_
  refine sg [0, 1, 2] rfl ?_
  refine rp rfl rfl (u_lda rfl rfl Tryd.underlying24 rfl in_24 rfl (Nat.succ_pos _) (Sub.refl _) (GToken.len t0)) ?_
  refine bindK H fun r'1 h1 H => ?_
  refine rp rfl rfl (p_callp rfl rfl rfl Tryd.func10 rfl rfl (g_lex_Check_ac h1) ⟨rfl, trivial⟩) ?_
  refine rp rfl rfl (p_asg rfl rfl) ?_
  refine rz [(1, .q 1 (0)), (3, .i r'1)] [(1, .pure (GToken.cs t0))] rfl rfl rfl ?_
  refine sg [0, 1, 2] rfl ?_
  refine rp rfl rfl (u_lda rfl rfl Tryd.underlying24 rfl in_24 rfl (Nat.succ_pos _) (Sub.refl _) (GToken.len t0)) ?_
  refine bindK H fun r'2 h2 H => ?_
  refine rp rfl rfl (p_callp rfl rfl rfl Tryd.func11 rfl rfl (g_ref_TokenFault_ac h2) ⟨rfl, trivial⟩) ?_
  refine rp rfl rfl (p_asg rfl rfl) ?_
  refine rz [(3, .i r'1), (4, .i r'2)] [] rfl rfl rfl ?_
  refine sg [0, 1, 2, 3] rfl ?_
  refine rp rfl rfl (p_move rfl rfl) ?_
  refine rp rfl rfl (p_move rfl rfl) ?_
  refine rp rfl rfl (p_ieq rfl rfl rfl) ?_
  refine rp rfl rfl (p_asg rfl rfl) ?_
  refine rz [(2, .b (decide (r'1 = r'2)))] [] rfl rfl rfl ?_
  refine AW2_ret ?_
  have hz := some_elim H
  subst hz
  exact ⟨⟨res_tmp (.same _), trivial⟩, trivial⟩

/-! kinds.Columns -/
noncomputable def g_kinds_Columns_l1 (cols0 : List GColumn) (t12_0 : Int) : Int → Option (Int ⊕ (Int ⊕ Unit))
  | t34_1 => (if t34_1 < ((cut cols0 (0 : Int) t12_0).length : Int) then if 0 ≤ t34_1 ∧ t34_1 < ((cut cols0 (0 : Int) t12_0).length : Int) then (if (lrd (cut cols0 (0 : Int) t12_0) t34_1.toNat).Name = (lrd cols0 t12_0.toNat).Name then some (.inr (.inl (8 : Int))) else some (.inl (w64 (t34_1 + (1 : Int))))) else none else some (.inr (.inr ())))
noncomputable def g_kinds_Columns_l0 (cols0 : List GColumn) : Int → Option (Int ⊕ (Int ⊕ Unit))
  | t12_0 => (if t12_0 < (cols0.length : Int) then if 0 ≤ t12_0 ∧ t12_0 < (cols0.length : Int) then (g_lex_Check ({ { GToken.zero with Kind := (1 : Int) } with Text := (lrd cols0 t12_0.toNat).Name })).bind fun r'1 => (if r'1 ≠ (0 : Int) then some (.inr (.inl (3 : Int))) else (if ((lrd cols0 t12_0.toNat).Kind < (1 : Int)) ∨ ((lrd cols0 t12_0.toNat).Kind > (4 : Int)) then some (.inr (.inl (2 : Int))) else if 0 ≤ t12_0 ∧ t12_0 ≤ (cols0.length : Int) then (loopO (g_kinds_Columns_l1 cols0 t12_0) (0 : Int)).bind fun o'5 => match o'5 with | .inl y'6 => some (.inr (.inl y'6)) | .inr (y'7) => some (.inl (w64 (t12_0 + (1 : Int)))) else none)) else none else some (.inr (.inr ())))
noncomputable def g_kinds_Columns (cols0 : List GColumn) : Option (Int) :=
  (if (cols0.length : Int) > (5 : Int) then some (1 : Int) else (loopO (g_kinds_Columns_l0 cols0) (0 : Int)).bind fun o'11 => match o'11 with | .inl y'12 => some y'12 | .inr (y'13) => some (0 : Int))
set_option maxHeartbeats 4000000 in
set_option maxRecDepth 100000 in
theorem g_kinds_Columns_ac {cols0 : List GColumn} {r : Int} (H : g_kinds_Columns cols0 = some r) : ACp Tryd.prog 14 [((fun q : List GColumn => AV.lst (q.flatMap GColumn.cs) q.length) cols0)] (AV.int r) := by
  refine ACp_of (AC2_of_body (vs := [.i r]) Tryd.func14 rfl rfl (Nat.le_of_ble_eq_true rfl) rfl ?_) (fun _ => .same _)
  unfold g_kinds_Columns at H
  refine as2 [(0, .p ((fun q : List GColumn => AV.lst (q.flatMap GColumn.cs) q.length) cols0))] [] rfl rfl rfl ?_
  refine sg [0] rfl ?_
  refine rp rfl rfl (p_asg rfl rfl) ?_
  refine rz [(0, .p ((fun q : List GColumn => AV.lst (q.flatMap GColumn.cs) q.length) cols0))] [] rfl rfl rfl ?_
  refine AW2_seq ?_
  refine sg [0, 1, 2] rfl ?_
  refine rp rfl rfl (p_move rfl rfl) ?_
  refine rp rfl rfl (p_lenl rfl Tryd.underlying35 rfl rfl) ?_
  refine rp rfl rfl (p_bin rfl rfl rfl rfl) ?_
  refine rz [(0, .p ((fun q : List GColumn => AV.lst (q.flatMap GColumn.cs) q.length) cols0)), (9, .b (decide ((cols0.length : Int) > (5 : Int))))] [] rfl rfl rfl ?_
  refine AW2_if (p := (cols0.length : Int) > (5 : Int)) rfl (fun h1 => ?_) (fun h1 => ?_)
  · replace H := ite_then h1 H
    refine sg [0] rfl ?_
    refine rp rfl rfl (p_asg rfl rfl) ?_
    refine rz [(2, .i (1 : Int))] [] rfl rfl rfl ?_
    refine AW2_ret ?_
    have hz := some_elim H
    subst hz
    exact ⟨⟨res_tmp (.same _), trivial⟩, trivial⟩
  · replace H := ite_else h1 H
    refine as2 [(0, .p ((fun q : List GColumn => AV.lst (q.flatMap GColumn.cs) q.length) cols0))] [] rfl rfl rfl ?_
    refine AW2_skip ?_
    refine AW2_seq ?_
    refine sg [0, 1, 2] rfl ?_
    refine rp rfl rfl (p_move rfl rfl) ?_
    refine rp rfl rfl (p_lenl rfl Tryd.underlying35 rfl rfl) ?_
    refine rp rfl rfl (p_move rfl rfl) ?_
    refine rz [(0, .p ((fun q : List GColumn => AV.lst (q.flatMap GColumn.cs) q.length) cols0)), (10, .p ((fun q : List GColumn => AV.lst (q.flatMap GColumn.cs) q.length) cols0)), (11, .i (cols0.length : Int)), (12, .i (0 : Int))] [] rfl rfl rfl ?_
    refine AW2_block ?_
    refine as2 [(0, .p ((fun q : List GColumn => AV.lst (q.flatMap GColumn.cs) q.length) cols0)), (10, .p ((fun q : List GColumn => AV.lst (q.flatMap GColumn.cs) q.length) cols0)), (11, .i (cols0.length : Int)), (12, .i (0 : Int))] [] rfl rfl rfl ?_
    refine bindK H fun o'11 h13 H => ?_
    refine AW2_loopO (fun a'8 : Int => (⟨[(0, .p ((fun q : List GColumn => AV.lst (q.flatMap GColumn.cs) q.length) cols0)), (10, .p ((fun q : List GColumn => AV.lst (q.flatMap GColumn.cs) q.length) cols0)), (11, .i (cols0.length : Int)), (12, .i a'8)], [], 45⟩ : TS)) (fun (o : Int ⊕ Unit) e s' => match o with | .inl y'9 => e = Go.Exit.ret ∧ ResAll Tryd.prog s' [ResultVar.tmp 2] [.i y'9] ∧ HFits s' [] | .inr (y'10) => e = Go.Exit.exit 0 ∧ s' = (⟨[], [], 45⟩ : TS)) h13 rfl (fun t12_0 x hx => ?_) (fun e s' hs => ?_)
    · clear H
      have H := hx
      clear hx
      unfold g_kinds_Columns_l0 at H
      refine sg [0] rfl ?_
      refine rp rfl rfl (p_bin rfl rfl rfl rfl) ?_
      refine rz [(0, .p ((fun q : List GColumn => AV.lst (q.flatMap GColumn.cs) q.length) cols0)), (10, .p ((fun q : List GColumn => AV.lst (q.flatMap GColumn.cs) q.length) cols0)), (11, .i (cols0.length : Int)), (12, .i t12_0), (13, .b (decide (t12_0 < (cols0.length : Int))))] [] rfl rfl rfl ?_
      refine AW2_seq ?_
      refine AW2_if (p := t12_0 < (cols0.length : Int)) rfl (fun h2 => ?_) (fun h2 => ?_)
      · replace H := ite_then h2 H
        refine as2 [(0, .p ((fun q : List GColumn => AV.lst (q.flatMap GColumn.cs) q.length) cols0)), (10, .p ((fun q : List GColumn => AV.lst (q.flatMap GColumn.cs) q.length) cols0)), (11, .i (cols0.length : Int)), (12, .i t12_0)] [] rfl rfl rfl ?_
        refine AW2_skip ?_
        refine AW2_seq ?_
        refine AW2_block ?_
        refine sg [0, 1, 2, 3, 4, 5] rfl ?_
        refine rp rfl rfl (p_move rfl rfl) ?_
        refine chkK H fun h3 H => ?_
        refine rp rfl rfl (u_ixl rfl rfl Tryd.underlying35 in_68 rfl rfl (ixe h3) (ixn h3) (fne (fun x => (GColumn.len x)) (by decide) (ixn h3))) ?_
        refine rp rfl rfl (u_lda rfl rfl Tryd.underlying68 rfl in_68 rfl (Nat.succ_pos _) (Sub.fm default (fun x => (GColumn.len x)) (ixn h3)) (GColumn.len (lrd cols0 t12_0.toNat))) ?_
        refine r_op rfl rfl (MakeD.opD (u_alloc 4 rfl in_68 one_68 zc_68) rfl rfl rfl rfl) ?_
        refine rp rfl rfl (p_asg rfl rfl) ?_
        refine r_op rfl rfl (u_st rfl rfl rfl rfl rfl in_68 (GColumn.len (lrd cols0 t12_0.toNat)) (ne_of_lt (n := 0) (Nat.lt_of_lt_of_eq (by decide) (Eq.symm (GColumn.len GColumn.zero)))) (Upd.refl ((GColumn.len (lrd cols0 t12_0.toNat)).trans (GColumn.len GColumn.zero).symm))) ?_
        refine rz [(0, .p ((fun q : List GColumn => AV.lst (q.flatMap GColumn.cs) q.length) cols0)), (3, .i t12_0), (4, .q 4 (0)), (10, .p ((fun q : List GColumn => AV.lst (q.flatMap GColumn.cs) q.length) cols0)), (11, .i (cols0.length : Int)), (12, .i t12_0)] [(4, .pure (GColumn.cs (lrd cols0 t12_0.toNat)))] rfl rfl rfl ?_
        refine AW2_seq ?_
        refine sg [0, 1, 2, 3, 4] rfl ?_
        refine rp rfl rfl (u_fa rfl rfl Tryd.underlying68 rfl in_9 (Nat.succ_ne_zero _) rfl rfl (ne_of_lt (n := 0) (Nat.lt_of_lt_of_eq (by decide) (Eq.symm (GColumn.len (lrd cols0 t12_0.toNat)))))) ?_
        refine rp rfl rfl (u_ld rfl rfl Tryd.underlying9 rfl rfl ((Sub.refl _).trans (GColumn.sub0 (lrd cols0 t12_0.toNat)))) ?_
        refine rp rfl rfl (u_bld rfl in_24 one_24 zc_24 pl_24 rfl (af_cons rfl rfl (GToken.upd0 GToken.zero (1 : Int)) (af_cons rfl rfl (GToken.upd1 ({ GToken.zero with Kind := (1 : Int) }) ((lrd cols0 t12_0.toNat).Name)) rfl))) ?_
        refine bindK H fun r'1 h4 H => ?_
        refine rp rfl rfl (p_callp rfl rfl rfl Tryd.func10 rfl rfl (g_lex_Check_ac h4) ⟨rfl, trivial⟩) ?_
        refine rp rfl rfl (p_ine rfl rfl rfl) ?_
        refine rz [(0, .p ((fun q : List GColumn => AV.lst (q.flatMap GColumn.cs) q.length) cols0)), (3, .i t12_0), (4, .q 4 (0)), (10, .p ((fun q : List GColumn => AV.lst (q.flatMap GColumn.cs) q.length) cols0)), (11, .i (cols0.length : Int)), (12, .i t12_0), (21, .b (decide (r'1 ≠ (0 : Int))))] [(4, .pure (GColumn.cs (lrd cols0 t12_0.toNat)))] rfl rfl rfl ?_
        refine AW2_if (p := r'1 ≠ (0 : Int)) rfl (fun h5 => ?_) (fun h5 => ?_)
        · replace H := ite_then h5 H
          refine sg [0] rfl ?_
          refine rp rfl rfl (p_asg rfl rfl) ?_
          refine rz [(2, .i (3 : Int))] [] rfl rfl rfl ?_
          refine AW2_ret ?_
          have hz := some_elim H
          subst hz
          exact ⟨rfl, ⟨res_tmp (.same _), trivial⟩, trivial⟩
        · replace H := ite_else h5 H
          refine as2 [(0, .p ((fun q : List GColumn => AV.lst (q.flatMap GColumn.cs) q.length) cols0)), (3, .i t12_0), (4, .q 4 (0)), (10, .p ((fun q : List GColumn => AV.lst (q.flatMap GColumn.cs) q.length) cols0)), (11, .i (cols0.length : Int)), (12, .i t12_0)] [(4, .pure (GColumn.cs (lrd cols0 t12_0.toNat)))] rfl rfl rfl ?_
          refine AW2_skip ?_
          refine AW2_seq ?_
          refine AW2_seq ?_
          refine AW2_mid (⟨[(0, .p ((fun q : List GColumn => AV.lst (q.flatMap GColumn.cs) q.length) cols0)), (3, .i t12_0), (4, .q 4 (0)), (10, .p ((fun q : List GColumn => AV.lst (q.flatMap GColumn.cs) q.length) cols0)), (11, .i (cols0.length : Int)), (12, .i t12_0), (29, .b (decide (((lrd cols0 t12_0.toNat).Kind < (1 : Int)) ∨ ((lrd cols0 t12_0.toNat).Kind > (4 : Int)))))], [(4, .pure (GColumn.cs (lrd cols0 t12_0.toNat)))], 45⟩ : TS) ?_ ?_
          · refine AW2_reg [0, 1, 2, 3, 4, 5, 6, 7] rfl ?_
            refine rp rfl rfl (u_fa rfl rfl Tryd.underlying68 rfl in_3 (Nat.succ_ne_zero _) rfl rfl (ne_of_lt (n := 0) (Nat.lt_of_lt_of_eq (by decide) (Eq.symm (GColumn.len (lrd cols0 t12_0.toNat)))))) ?_
            refine rp rfl rfl (u_ld rfl rfl Tryd.underlying3 rfl rfl ((Sub.refl _).trans (GColumn.sub1 (lrd cols0 t12_0.toNat)))) ?_
            refine rp rfl rfl (p_bin rfl rfl rfl rfl) ?_
            refine rp rfl rfl (p_move rfl rfl) ?_
            refine (Classical.em ((lrd cols0 t12_0.toNat).Kind < (1 : Int))).elim (fun h6 => ?_) (fun h6 => ?_)
            · refine r_off rfl rfl rfl rfl (decide_eq_true (p := (lrd cols0 t12_0.toNat).Kind < (1 : Int)) h6) rfl rfl ?_
              refine r_off rfl rfl rfl rfl (decide_eq_true (p := (lrd cols0 t12_0.toNat).Kind < (1 : Int)) h6) rfl rfl ?_
              refine r_off rfl rfl rfl rfl (decide_eq_true (p := (lrd cols0 t12_0.toNat).Kind < (1 : Int)) h6) rfl rfl ?_
              refine rp rfl rfl (p_pkt rfl rfl (decide_eq_true (p := (lrd cols0 t12_0.toNat).Kind < (1 : Int)) h6) (tb (decide_eq_true (p := ((lrd cols0 t12_0.toNat).Kind < (1 : Int)) ∨ ((lrd cols0 t12_0.toNat).Kind > (4 : Int))) (Or.inl h6)).symm)) ?_
              refine rs [(0, .p ((fun q : List GColumn => AV.lst (q.flatMap GColumn.cs) q.length) cols0)), (3, .i t12_0), (4, .q 4 (0)), (10, .p ((fun q : List GColumn => AV.lst (q.flatMap GColumn.cs) q.length) cols0)), (11, .i (cols0.length : Int)), (12, .i t12_0), (29, .b (decide (((lrd cols0 t12_0.toNat).Kind < (1 : Int)) ∨ ((lrd cols0 t12_0.toNat).Kind > (4 : Int)))))] [(4, .pure (GColumn.cs (lrd cols0 t12_0.toNat)))] rfl rfl rfl ?_
              exact RunW_nil rfl
            · refine r_on rfl rfl rfl rfl (decide_eq_false (p := (lrd cols0 t12_0.toNat).Kind < (1 : Int)) h6) rfl (PureD.opD (u_fa rfl rfl Tryd.underlying68 rfl in_3 (Nat.succ_ne_zero _) rfl rfl (ne_of_lt (n := 0) (Nat.lt_of_lt_of_eq (by decide) (Eq.symm (GColumn.len (lrd cols0 t12_0.toNat))))))) ?_
              refine r_on rfl rfl rfl rfl (decide_eq_false (p := (lrd cols0 t12_0.toNat).Kind < (1 : Int)) h6) rfl (PureD.opD (u_ld rfl rfl Tryd.underlying3 rfl rfl ((Sub.refl _).trans (GColumn.sub1 (lrd cols0 t12_0.toNat))))) ?_
              refine r_on rfl rfl rfl rfl (decide_eq_false (p := (lrd cols0 t12_0.toNat).Kind < (1 : Int)) h6) rfl (PureD.opD (p_bin rfl rfl rfl rfl)) ?_
              refine rp rfl rfl (p_pkf rfl rfl (decide_eq_false (p := (lrd cols0 t12_0.toNat).Kind < (1 : Int)) h6) (tb ((or_l (p := (lrd cols0 t12_0.toNat).Kind < (1 : Int)) (q := (lrd cols0 t12_0.toNat).Kind > (4 : Int)) h6)))) ?_
              refine rs [(0, .p ((fun q : List GColumn => AV.lst (q.flatMap GColumn.cs) q.length) cols0)), (3, .i t12_0), (4, .q 4 (0)), (10, .p ((fun q : List GColumn => AV.lst (q.flatMap GColumn.cs) q.length) cols0)), (11, .i (cols0.length : Int)), (12, .i t12_0), (29, .b (decide (((lrd cols0 t12_0.toNat).Kind < (1 : Int)) ∨ ((lrd cols0 t12_0.toNat).Kind > (4 : Int)))))] [(4, .pure (GColumn.cs (lrd cols0 t12_0.toNat)))] rfl rfl rfl ?_
              exact RunW_nil rfl
          · refine AW2_if (p := ((lrd cols0 t12_0.toNat).Kind < (1 : Int)) ∨ ((lrd cols0 t12_0.toNat).Kind > (4 : Int))) rfl (fun h7 => ?_) (fun h7 => ?_)
            · replace H := ite_then h7 H
              refine sg [0] rfl ?_
              refine rp rfl rfl (p_asg rfl rfl) ?_
              refine rz [(2, .i (2 : Int))] [] rfl rfl rfl ?_
              refine AW2_ret ?_
              have hz := some_elim H
              subst hz
              exact ⟨rfl, ⟨res_tmp (.same _), trivial⟩, trivial⟩
            · replace H := ite_else h7 H
              refine as2 [(0, .p ((fun q : List GColumn => AV.lst (q.flatMap GColumn.cs) q.length) cols0)), (3, .i t12_0), (4, .q 4 (0)), (10, .p ((fun q : List GColumn => AV.lst (q.flatMap GColumn.cs) q.length) cols0)), (11, .i (cols0.length : Int)), (12, .i t12_0)] [(4, .pure (GColumn.cs (lrd cols0 t12_0.toNat)))] rfl rfl rfl ?_
              refine AW2_skip ?_
              refine sg [0, 1, 2, 3, 4] rfl ?_
              refine rp rfl rfl (p_move rfl rfl) ?_
              refine rp rfl rfl (p_move rfl rfl) ?_
              refine chkK H fun h8 H => ?_
              refine rp rfl rfl (u_cutl (g := (fun l => l.flatMap GColumn.cs)) (a := (0 : Int)) (b := t12_0) rfl rfl Tryd.underlying35 in_68 rfl bT_zero (bT_i (Int.le_trans (show 0 ≤ (0 : Int) ∧ (0 : Int) ≤ t12_0 ∧ t12_0 ≤ (cols0.length : Int) from ⟨Int.le_refl _, h8.1, h8.2⟩).1 (show 0 ≤ (0 : Int) ∧ (0 : Int) ≤ t12_0 ∧ t12_0 ≤ (cols0.length : Int) from ⟨Int.le_refl _, h8.1, h8.2⟩).2.1) rfl) (.inl rfl) (show 0 ≤ (0 : Int) ∧ (0 : Int) ≤ t12_0 ∧ t12_0 ≤ (cols0.length : Int) from ⟨Int.le_refl _, h8.1, h8.2⟩) (g_fm (fun x => (GColumn.len x)))) ?_
              refine rp rfl rfl (p_lenl rfl Tryd.underlying35 rfl rfl) ?_
              refine rp rfl rfl (p_move rfl rfl) ?_
              refine rz [(0, .p ((fun q : List GColumn => AV.lst (q.flatMap GColumn.cs) q.length) cols0)), (4, .q 4 (0)), (10, .p ((fun q : List GColumn => AV.lst (q.flatMap GColumn.cs) q.length) cols0)), (11, .i (cols0.length : Int)), (12, .i t12_0), (32, .p ((fun q : List GColumn => AV.lst (q.flatMap GColumn.cs) q.length) (cut cols0 (0 : Int) t12_0))), (33, .i ((cut cols0 (0 : Int) t12_0).length : Int)), (34, .i (0 : Int))] [(4, .pure (GColumn.cs (lrd cols0 t12_0.toNat)))] rfl rfl rfl ?_
              refine AW2_block ?_
              refine as2 [(0, .p ((fun q : List GColumn => AV.lst (q.flatMap GColumn.cs) q.length) cols0)), (4, .q 4 (0)), (10, .p ((fun q : List GColumn => AV.lst (q.flatMap GColumn.cs) q.length) cols0)), (11, .i (cols0.length : Int)), (12, .i t12_0), (32, .p ((fun q : List GColumn => AV.lst (q.flatMap GColumn.cs) q.length) (cut cols0 (0 : Int) t12_0))), (33, .i ((cut cols0 (0 : Int) t12_0).length : Int)), (34, .i (0 : Int))] [(4, .pure (GColumn.cs (lrd cols0 t12_0.toNat)))] rfl rfl rfl ?_
              refine bindK H fun o'5 h12 H => ?_
              refine AW2_loopO (fun a'2 : Int => (⟨[(0, .p ((fun q : List GColumn => AV.lst (q.flatMap GColumn.cs) q.length) cols0)), (4, .q 4 (0)), (10, .p ((fun q : List GColumn => AV.lst (q.flatMap GColumn.cs) q.length) cols0)), (11, .i (cols0.length : Int)), (12, .i t12_0), (32, .p ((fun q : List GColumn => AV.lst (q.flatMap GColumn.cs) q.length) (cut cols0 (0 : Int) t12_0))), (33, .i ((cut cols0 (0 : Int) t12_0).length : Int)), (34, .i a'2)], [(4, .pure (GColumn.cs (lrd cols0 t12_0.toNat)))], 45⟩ : TS)) (fun (o : Int ⊕ Unit) e s' => match o with | .inl y'3 => e = Go.Exit.ret ∧ ResAll Tryd.prog s' [ResultVar.tmp 2] [.i y'3] ∧ HFits s' [] | .inr (y'4) => e = Go.Exit.exit 2 ∧ s' = (⟨[(0, .p ((fun q : List GColumn => AV.lst (q.flatMap GColumn.cs) q.length) cols0)), (10, .p ((fun q : List GColumn => AV.lst (q.flatMap GColumn.cs) q.length) cols0)), (11, .i (cols0.length : Int)), (12, .i t12_0)], [], 45⟩ : TS)) h12 rfl (fun t34_1 x hx => ?_) (fun e s' hs => ?_)
              · clear H
                have H := hx
                clear hx
                unfold g_kinds_Columns_l1 at H
                refine sg [0] rfl ?_
                refine rp rfl rfl (p_bin rfl rfl rfl rfl) ?_
                refine rz [(0, .p ((fun q : List GColumn => AV.lst (q.flatMap GColumn.cs) q.length) cols0)), (4, .q 4 (0)), (10, .p ((fun q : List GColumn => AV.lst (q.flatMap GColumn.cs) q.length) cols0)), (11, .i (cols0.length : Int)), (12, .i t12_0), (32, .p ((fun q : List GColumn => AV.lst (q.flatMap GColumn.cs) q.length) (cut cols0 (0 : Int) t12_0))), (33, .i ((cut cols0 (0 : Int) t12_0).length : Int)), (34, .i t34_1), (35, .b (decide (t34_1 < ((cut cols0 (0 : Int) t12_0).length : Int))))] [(4, .pure (GColumn.cs (lrd cols0 t12_0.toNat)))] rfl rfl rfl ?_
                refine AW2_seq ?_
                refine AW2_if (p := t34_1 < ((cut cols0 (0 : Int) t12_0).length : Int)) rfl (fun h9 => ?_) (fun h9 => ?_)
                · replace H := ite_then h9 H
                  refine as2 [(0, .p ((fun q : List GColumn => AV.lst (q.flatMap GColumn.cs) q.length) cols0)), (4, .q 4 (0)), (10, .p ((fun q : List GColumn => AV.lst (q.flatMap GColumn.cs) q.length) cols0)), (11, .i (cols0.length : Int)), (12, .i t12_0), (32, .p ((fun q : List GColumn => AV.lst (q.flatMap GColumn.cs) q.length) (cut cols0 (0 : Int) t12_0))), (33, .i ((cut cols0 (0 : Int) t12_0).length : Int)), (34, .i t34_1)] [(4, .pure (GColumn.cs (lrd cols0 t12_0.toNat)))] rfl rfl rfl ?_
                  refine AW2_skip ?_
                  refine AW2_seq ?_
                  refine AW2_block ?_
                  refine sg [0, 1, 2, 3] rfl ?_
                  refine chkK H fun h10 H => ?_
                  refine rp rfl rfl (u_ixl rfl rfl Tryd.underlying35 in_68 rfl rfl (ixe h10) (ixn h10) (fne (fun x => (GColumn.len x)) (by decide) (ixn h10))) ?_
                  refine rp rfl rfl (u_lda rfl rfl Tryd.underlying68 rfl in_68 rfl (Nat.succ_pos _) (Sub.fm default (fun x => (GColumn.len x)) (ixn h10)) (GColumn.len (lrd (cut cols0 (0 : Int) t12_0) t34_1.toNat))) ?_
                  refine r_op rfl rfl (MakeD.opD (u_alloc 6 rfl in_68 one_68 zc_68) rfl rfl rfl rfl) ?_
                  refine r_op rfl rfl (u_st rfl rfl rfl rfl rfl in_68 (GColumn.len (lrd (cut cols0 (0 : Int) t12_0) t34_1.toNat)) (ne_of_lt (n := 0) (Nat.lt_of_lt_of_eq (by decide) (Eq.symm (GColumn.len GColumn.zero)))) (Upd.refl ((GColumn.len (lrd (cut cols0 (0 : Int) t12_0) t34_1.toNat)).trans (GColumn.len GColumn.zero).symm))) ?_
                  refine rz [(0, .p ((fun q : List GColumn => AV.lst (q.flatMap GColumn.cs) q.length) cols0)), (4, .q 4 (0)), (6, .q 6 (0)), (10, .p ((fun q : List GColumn => AV.lst (q.flatMap GColumn.cs) q.length) cols0)), (11, .i (cols0.length : Int)), (12, .i t12_0), (32, .p ((fun q : List GColumn => AV.lst (q.flatMap GColumn.cs) q.length) (cut cols0 (0 : Int) t12_0))), (33, .i ((cut cols0 (0 : Int) t12_0).length : Int)), (34, .i t34_1)] [(4, .pure (GColumn.cs (lrd cols0 t12_0.toNat))), (6, .pure (GColumn.cs (lrd (cut cols0 (0 : Int) t12_0) t34_1.toNat)))] rfl rfl rfl ?_
                  refine sg [0, 1, 2, 3, 4] rfl ?_
                  refine rp rfl rfl (u_fa rfl rfl Tryd.underlying68 rfl in_9 (Nat.succ_ne_zero _) rfl rfl (ne_of_lt (n := 0) (Nat.lt_of_lt_of_eq (by decide) (Eq.symm (GColumn.len (lrd (cut cols0 (0 : Int) t12_0) t34_1.toNat)))))) ?_
                  refine rp rfl rfl (u_ld rfl rfl Tryd.underlying9 rfl rfl ((Sub.refl _).trans (GColumn.sub0 (lrd (cut cols0 (0 : Int) t12_0) t34_1.toNat)))) ?_
                  refine rp rfl rfl (u_fa rfl rfl Tryd.underlying68 rfl in_9 (Nat.succ_ne_zero _) rfl rfl (ne_of_lt (n := 0) (Nat.lt_of_lt_of_eq (by decide) (Eq.symm (GColumn.len (lrd cols0 t12_0.toNat)))))) ?_
                  refine rp rfl rfl (u_ld rfl rfl Tryd.underlying9 rfl rfl ((Sub.refl _).trans (GColumn.sub0 (lrd cols0 t12_0.toNat)))) ?_
                  refine rp rfl rfl (p_seq rfl rfl rfl) ?_
                  refine rz [(0, .p ((fun q : List GColumn => AV.lst (q.flatMap GColumn.cs) q.length) cols0)), (4, .q 4 (0)), (10, .p ((fun q : List GColumn => AV.lst (q.flatMap GColumn.cs) q.length) cols0)), (11, .i (cols0.length : Int)), (12, .i t12_0), (32, .p ((fun q : List GColumn => AV.lst (q.flatMap GColumn.cs) q.length) (cut cols0 (0 : Int) t12_0))), (33, .i ((cut cols0 (0 : Int) t12_0).length : Int)), (34, .i t34_1), (42, .b (decide ((lrd (cut cols0 (0 : Int) t12_0) t34_1.toNat).Name = (lrd cols0 t12_0.toNat).Name)))] [(4, .pure (GColumn.cs (lrd cols0 t12_0.toNat)))] rfl rfl rfl ?_
                  refine AW2_if (p := (lrd (cut cols0 (0 : Int) t12_0) t34_1.toNat).Name = (lrd cols0 t12_0.toNat).Name) rfl (fun h11 => ?_) (fun h11 => ?_)
                  · replace H := ite_then h11 H
                    refine sg [0] rfl ?_
                    refine rp rfl rfl (p_asg rfl rfl) ?_
                    refine rz [(2, .i (8 : Int))] [] rfl rfl rfl ?_
                    refine AW2_ret ?_
                    have hz := some_elim H
                    subst hz
                    exact ⟨rfl, ⟨res_tmp (.same _), trivial⟩, trivial⟩
                  · replace H := ite_else h11 H
                    refine as2 [(0, .p ((fun q : List GColumn => AV.lst (q.flatMap GColumn.cs) q.length) cols0)), (4, .q 4 (0)), (10, .p ((fun q : List GColumn => AV.lst (q.flatMap GColumn.cs) q.length) cols0)), (11, .i (cols0.length : Int)), (12, .i t12_0), (32, .p ((fun q : List GColumn => AV.lst (q.flatMap GColumn.cs) q.length) (cut cols0 (0 : Int) t12_0))), (33, .i ((cut cols0 (0 : Int) t12_0).length : Int)), (34, .i t34_1)] [(4, .pure (GColumn.cs (lrd cols0 t12_0.toNat)))] rfl rfl rfl ?_
                    refine AW2_skip ?_
                    refine AW2_reg [0, 1] rfl ?_
                    refine rp rfl rfl (p_bin rfl rfl rfl rfl) ?_
                    refine rp rfl rfl (p_move rfl rfl) ?_
                    refine rz [(0, .p ((fun q : List GColumn => AV.lst (q.flatMap GColumn.cs) q.length) cols0)), (4, .q 4 (0)), (10, .p ((fun q : List GColumn => AV.lst (q.flatMap GColumn.cs) q.length) cols0)), (11, .i (cols0.length : Int)), (12, .i t12_0), (32, .p ((fun q : List GColumn => AV.lst (q.flatMap GColumn.cs) q.length) (cut cols0 (0 : Int) t12_0))), (33, .i ((cut cols0 (0 : Int) t12_0).length : Int)), (34, .i (w64 (t34_1 + (1 : Int))))] [(4, .pure (GColumn.cs (lrd cols0 t12_0.toNat)))] rfl rfl rfl ?_
                    have hz := some_elim H
                    subst hz
                    exact ⟨rfl, rfl⟩
                · replace H := ite_else h9 H
                  refine as2 [(0, .p ((fun q : List GColumn => AV.lst (q.flatMap GColumn.cs) q.length) cols0)), (10, .p ((fun q : List GColumn => AV.lst (q.flatMap GColumn.cs) q.length) cols0)), (11, .i (cols0.length : Int)), (12, .i t12_0)] [] rfl rfl rfl ?_
                  refine AW2_exit ?_
                  refine thenQ2_exit ?_
                  have hz := some_elim H
                  subst hz
                  exact ⟨rfl, rfl⟩
              · rcases o'5 with y'6 | y'7
                · obtain ⟨rfl, hs⟩ := hs
                  refine ⟨by simp, ?_⟩
                  have hz := some_elim H
                  subst hz
                  exact ⟨rfl, hs.1, hs.2⟩
                · obtain ⟨rfl, rfl⟩ := hs
                  refine ⟨by simp, ?_⟩
                  refine blockQ2_exit ?_
                  refine AW2_reg [0, 1] rfl ?_
                  refine rp rfl rfl (p_bin rfl rfl rfl rfl) ?_
                  refine rp rfl rfl (p_move rfl rfl) ?_
                  refine rz [(0, .p ((fun q : List GColumn => AV.lst (q.flatMap GColumn.cs) q.length) cols0)), (10, .p ((fun q : List GColumn => AV.lst (q.flatMap GColumn.cs) q.length) cols0)), (11, .i (cols0.length : Int)), (12, .i (w64 (t12_0 + (1 : Int))))] [] rfl rfl rfl ?_
                  have hz := some_elim H
                  subst hz
                  exact ⟨rfl, rfl⟩
      · replace H := ite_else h2 H
        refine as2 [] [] rfl rfl rfl ?_
        refine AW2_exit ?_
        refine thenQ2_exit ?_
        have hz := some_elim H
        subst hz
        exact ⟨rfl, rfl⟩
    · rcases o'11 with y'12 | y'13
      · obtain ⟨rfl, hs⟩ := hs
        refine ⟨by simp, ?_⟩
        have hz := some_elim H
        subst hz
        exact ⟨hs.1, hs.2⟩
      · obtain ⟨rfl, rfl⟩ := hs
        refine ⟨by simp, ?_⟩
        refine blockQ2_exit ?_
        refine sg [0] rfl ?_
        refine rp rfl rfl (p_asg rfl rfl) ?_
        refine rz [(2, .i (0 : Int))] [] rfl rfl rfl ?_
        refine AW2_ret ?_
        have hz := some_elim H
        subst hz
        exact ⟨⟨res_tmp (.same _), trivial⟩, trivial⟩

/-! chirographref.columnAt -/
noncomputable def g_ref_columnAt_l0 (cols0 : List GColumn) (name1 : List UInt8) : Int → Option (Int ⊕ (Int ⊕ Unit))
  | i5_0 => (if i5_0 ≥ (0 : Int) then if 0 ≤ i5_0 ∧ i5_0 < (cols0.length : Int) then (if (lrd cols0 i5_0.toNat).Name = name1 then some (.inr (.inl i5_0)) else some (.inl (w64 (i5_0 - (1 : Int))))) else none else some (.inr (.inr ())))
noncomputable def g_ref_columnAt (cols0 : List GColumn) (name1 : List UInt8) : Option (Int) :=
  (loopO (g_ref_columnAt_l0 cols0 name1) (w64 ((cols0.length : Int) - (1 : Int)))).bind fun o'4 => match o'4 with | .inl y'5 => some y'5 | .inr (y'6) => some (-1 : Int)
set_option maxHeartbeats 4000000 in
set_option maxRecDepth 100000 in
theorem g_ref_columnAt_ac {cols0 : List GColumn} {name1 : List UInt8} {r : Int} (H : g_ref_columnAt cols0 name1 = some r) : ACp Tryd.prog 41 [((fun q : List GColumn => AV.lst (q.flatMap GColumn.cs) q.length) cols0), (AV.txt name1)] (AV.int r) := by
  refine ACp_of (AC2_of_body (vs := [.i r]) Tryd.func41 rfl rfl (Nat.le_of_ble_eq_true rfl) rfl ?_) (fun _ => .same _)
  unfold g_ref_columnAt at H
  refine as2 [(0, .p ((fun q : List GColumn => AV.lst (q.flatMap GColumn.cs) q.length) cols0)), (1, .t name1)] [] rfl rfl rfl ?_
  refine sg [0] rfl ?_
  refine rp rfl rfl (p_asg rfl rfl) ?_
  refine rz [(0, .p ((fun q : List GColumn => AV.lst (q.flatMap GColumn.cs) q.length) cols0)), (1, .t name1)] [] rfl rfl rfl ?_
  refine AW2_seq ?_
  refine sg [0, 1, 2, 3] rfl ?_
  refine rp rfl rfl (p_move rfl rfl) ?_
  refine rp rfl rfl (p_lenl rfl Tryd.underlying35 rfl rfl) ?_
  refine rp rfl rfl (p_bin rfl rfl rfl rfl) ?_
  refine rp rfl rfl (p_asg rfl rfl) ?_
  refine rz [(0, .p ((fun q : List GColumn => AV.lst (q.flatMap GColumn.cs) q.length) cols0)), (1, .t name1), (5, .i (w64 ((cols0.length : Int) - (1 : Int))))] [] rfl rfl rfl ?_
  refine AW2_block ?_
  refine as2 [(0, .p ((fun q : List GColumn => AV.lst (q.flatMap GColumn.cs) q.length) cols0)), (1, .t name1), (5, .i (w64 ((cols0.length : Int) - (1 : Int))))] [] rfl rfl rfl ?_
  refine bindK H fun o'4 h4 H => ?_
  refine AW2_loopO (fun a'1 : Int => (⟨[(0, .p ((fun q : List GColumn => AV.lst (q.flatMap GColumn.cs) q.length) cols0)), (1, .t name1), (5, .i a'1)], [], 21⟩ : TS)) (fun (o : Int ⊕ Unit) e s' => match o with | .inl y'2 => e = Go.Exit.ret ∧ ResAll Tryd.prog s' [ResultVar.tmp 4] [.i y'2] ∧ HFits s' [] | .inr (y'3) => e = Go.Exit.exit 0 ∧ s' = (⟨[], [], 21⟩ : TS)) h4 rfl (fun i5_0 x hx => ?_) (fun e s' hs => ?_)
  · clear H
    have H := hx
    clear hx
    unfold g_ref_columnAt_l0 at H
    refine AW2_seq ?_
    refine sg [0, 1] rfl ?_
    refine rp rfl rfl (p_move rfl rfl) ?_
    refine rp rfl rfl (p_bin rfl rfl rfl rfl) ?_
    refine rz [(0, .p ((fun q : List GColumn => AV.lst (q.flatMap GColumn.cs) q.length) cols0)), (1, .t name1), (5, .i i5_0), (10, .b (decide (i5_0 ≥ (0 : Int))))] [] rfl rfl rfl ?_
    refine AW2_if (p := i5_0 ≥ (0 : Int)) rfl (fun h1 => ?_) (fun h1 => ?_)
    · replace H := ite_then h1 H
      refine as2 [(0, .p ((fun q : List GColumn => AV.lst (q.flatMap GColumn.cs) q.length) cols0)), (1, .t name1), (5, .i i5_0)] [] rfl rfl rfl ?_
      refine AW2_skip ?_
      refine AW2_seq ?_
      refine AW2_block ?_
      refine sg [0, 1, 2, 3, 4, 5, 6] rfl ?_
      refine rp rfl rfl (p_move rfl rfl) ?_
      refine rp rfl rfl (p_move rfl rfl) ?_
      refine chkK H fun h2 H => ?_
      refine rp rfl rfl (u_ixl rfl rfl Tryd.underlying35 in_68 rfl rfl (ixe h2) (ixn h2) (fne (fun x => (GColumn.len x)) (by decide) (ixn h2))) ?_
      refine rp rfl rfl (u_far rfl rfl Tryd.underlying68 rfl in_9 (Nat.succ_ne_zero _) rfl) ?_
      refine rp rfl rfl (u_ld rfl rfl Tryd.underlying9 rfl rfl ((Sub.fm default (fun x => (GColumn.len x)) (ixn h2)).trans (GColumn.sub0 (lrd cols0 i5_0.toNat)))) ?_
      refine rp rfl rfl (p_move rfl rfl) ?_
      refine rp rfl rfl (p_seq rfl rfl rfl) ?_
      refine rz [(0, .p ((fun q : List GColumn => AV.lst (q.flatMap GColumn.cs) q.length) cols0)), (1, .t name1), (5, .i i5_0), (19, .b (decide ((lrd cols0 i5_0.toNat).Name = name1)))] [] rfl rfl rfl ?_
      refine AW2_if (p := (lrd cols0 i5_0.toNat).Name = name1) rfl (fun h3 => ?_) (fun h3 => ?_)
      · replace H := ite_then h3 H
        refine sg [0, 1] rfl ?_
        refine rp rfl rfl (p_move rfl rfl) ?_
        refine rp rfl rfl (p_asg rfl rfl) ?_
        refine rz [(4, .i i5_0)] [] rfl rfl rfl ?_
        refine AW2_ret ?_
        have hz := some_elim H
        subst hz
        exact ⟨rfl, ⟨res_tmp (.same _), trivial⟩, trivial⟩
      · replace H := ite_else h3 H
        refine as2 [(0, .p ((fun q : List GColumn => AV.lst (q.flatMap GColumn.cs) q.length) cols0)), (1, .t name1), (5, .i i5_0)] [] rfl rfl rfl ?_
        refine AW2_skip ?_
        refine AW2_reg [0, 1, 2] rfl ?_
        refine rp rfl rfl (p_move rfl rfl) ?_
        refine rp rfl rfl (p_bin rfl rfl rfl rfl) ?_
        refine rp rfl rfl (p_asg rfl rfl) ?_
        refine rz [(0, .p ((fun q : List GColumn => AV.lst (q.flatMap GColumn.cs) q.length) cols0)), (1, .t name1), (5, .i (w64 (i5_0 - (1 : Int))))] [] rfl rfl rfl ?_
        have hz := some_elim H
        subst hz
        exact ⟨rfl, rfl⟩
    · replace H := ite_else h1 H
      refine as2 [] [] rfl rfl rfl ?_
      refine AW2_exit ?_
      refine thenQ2_exit ?_
      have hz := some_elim H
      subst hz
      exact ⟨rfl, rfl⟩
  · rcases o'4 with y'5 | y'6
    · obtain ⟨rfl, hs⟩ := hs
      refine ⟨by simp, ?_⟩
      have hz := some_elim H
      subst hz
      exact ⟨hs.1, hs.2⟩
    · obtain ⟨rfl, rfl⟩ := hs
      refine ⟨by simp, ?_⟩
      refine blockQ2_exit ?_
      refine sg [0] rfl ?_
      refine rp rfl rfl (p_asg rfl rfl) ?_
      refine rz [(4, .i (-1 : Int))] [] rfl rfl rfl ?_
      refine AW2_ret ?_
      have hz := some_elim H
      subst hz
      exact ⟨⟨res_tmp (.same _), trivial⟩, trivial⟩

/-! chirographref.ColumnsFault -/
noncomputable def g_ref_ColumnsFault_l0 (cols0 : List GColumn) : Int → Option (Int ⊕ (Int ⊕ Unit))
  | t10_0 => (if t10_0 < (cols0.length : Int) then if 0 ≤ t10_0 ∧ t10_0 < (cols0.length : Int) then (g_ref_isName ((lrd cols0 t10_0.toNat).Name)).bind fun r'1 => (if ((!r'1) = true) ∨ ((((lrd cols0 t10_0.toNat).Name).length : Int) > (8 : Int)) then some (.inr (.inl (3 : Int))) else letO (decide (((((lrd cols0 t10_0.toNat).Kind ≠ (1 : Int)) ∧ ((lrd cols0 t10_0.toNat).Kind ≠ (2 : Int))) ∧ ((lrd cols0 t10_0.toNat).Kind ≠ (3 : Int))) ∧ ((lrd cols0 t10_0.toNat).Kind ≠ (4 : Int)))) fun t26'2 => (if t26'2 = true then some (.inr (.inl (2 : Int))) else if 0 ≤ t10_0 ∧ t10_0 ≤ (cols0.length : Int) then (g_ref_columnAt (cut cols0 (0 : Int) t10_0) ((lrd cols0 t10_0.toNat).Name)).bind fun r'3 => (if r'3 ≥ (0 : Int) then some (.inr (.inl (8 : Int))) else some (.inl (w64 (t10_0 + (1 : Int))))) else none)) else none else some (.inr (.inr ())))
noncomputable def g_ref_ColumnsFault (cols0 : List GColumn) : Option (Int) :=
  (if (cols0.length : Int) > (5 : Int) then some (1 : Int) else (loopO (g_ref_ColumnsFault_l0 cols0) (0 : Int)).bind fun o'7 => match o'7 with | .inl y'8 => some y'8 | .inr (y'9) => some (0 : Int))
set_option maxHeartbeats 4000000 in
set_option maxRecDepth 100000 in
theorem g_ref_ColumnsFault_ac {cols0 : List GColumn} {r : Int} (H : g_ref_ColumnsFault cols0 = some r) : ACp Tryd.prog 15 [((fun q : List GColumn => AV.lst (q.flatMap GColumn.cs) q.length) cols0)] (AV.int r) := by
  refine ACp_of (AC2_of_body (vs := [.i r]) Tryd.func15 rfl rfl (Nat.le_of_ble_eq_true rfl) rfl ?_) (fun _ => .same _)
  unfold g_ref_ColumnsFault at H
  refine as2 [(0, .p ((fun q : List GColumn => AV.lst (q.flatMap GColumn.cs) q.length) cols0))] [] rfl rfl rfl ?_
  refine sg [0] rfl ?_
  refine rp rfl rfl (p_asg rfl rfl) ?_
  refine rz [(0, .p ((fun q : List GColumn => AV.lst (q.flatMap GColumn.cs) q.length) cols0))] [] rfl rfl rfl ?_
  refine AW2_seq ?_
  refine sg [0, 1, 2] rfl ?_
  refine rp rfl rfl (p_move rfl rfl) ?_
  refine rp rfl rfl (p_lenl rfl Tryd.underlying35 rfl rfl) ?_
  refine rp rfl rfl (p_bin rfl rfl rfl rfl) ?_
  refine rz [(0, .p ((fun q : List GColumn => AV.lst (q.flatMap GColumn.cs) q.length) cols0)), (7, .b (decide ((cols0.length : Int) > (5 : Int))))] [] rfl rfl rfl ?_
  refine AW2_if (p := (cols0.length : Int) > (5 : Int)) rfl (fun h1 => ?_) (fun h1 => ?_)
  · replace H := ite_then h1 H
    refine sg [0] rfl ?_
    refine rp rfl rfl (p_asg rfl rfl) ?_
    refine rz [(2, .i (1 : Int))] [] rfl rfl rfl ?_
    refine AW2_ret ?_
    have hz := some_elim H
    subst hz
    exact ⟨⟨res_tmp (.same _), trivial⟩, trivial⟩
  · replace H := ite_else h1 H
    refine as2 [(0, .p ((fun q : List GColumn => AV.lst (q.flatMap GColumn.cs) q.length) cols0))] [] rfl rfl rfl ?_
    refine AW2_skip ?_
    refine AW2_seq ?_
    refine sg [0, 1, 2] rfl ?_
    refine rp rfl rfl (p_move rfl rfl) ?_
    refine rp rfl rfl (p_lenl rfl Tryd.underlying35 rfl rfl) ?_
    refine rp rfl rfl (p_move rfl rfl) ?_
    refine rz [(0, .p ((fun q : List GColumn => AV.lst (q.flatMap GColumn.cs) q.length) cols0)), (8, .p ((fun q : List GColumn => AV.lst (q.flatMap GColumn.cs) q.length) cols0)), (9, .i (cols0.length : Int)), (10, .i (0 : Int))] [] rfl rfl rfl ?_
    refine AW2_block ?_
    refine as2 [(0, .p ((fun q : List GColumn => AV.lst (q.flatMap GColumn.cs) q.length) cols0)), (8, .p ((fun q : List GColumn => AV.lst (q.flatMap GColumn.cs) q.length) cols0)), (9, .i (cols0.length : Int)), (10, .i (0 : Int))] [] rfl rfl rfl ?_
    refine bindK H fun o'7 h14 H => ?_
    refine AW2_loopO (fun a'4 : Int => (⟨[(0, .p ((fun q : List GColumn => AV.lst (q.flatMap GColumn.cs) q.length) cols0)), (8, .p ((fun q : List GColumn => AV.lst (q.flatMap GColumn.cs) q.length) cols0)), (9, .i (cols0.length : Int)), (10, .i a'4)], [], 54⟩ : TS)) (fun (o : Int ⊕ Unit) e s' => match o with | .inl y'5 => e = Go.Exit.ret ∧ ResAll Tryd.prog s' [ResultVar.tmp 2] [.i y'5] ∧ HFits s' [] | .inr (y'6) => e = Go.Exit.exit 0 ∧ s' = (⟨[], [], 54⟩ : TS)) h14 rfl (fun t10_0 x hx => ?_) (fun e s' hs => ?_)
    · clear H
      have H := hx
      clear hx
      unfold g_ref_ColumnsFault_l0 at H
      refine sg [0] rfl ?_
      refine rp rfl rfl (p_bin rfl rfl rfl rfl) ?_
      refine rz [(0, .p ((fun q : List GColumn => AV.lst (q.flatMap GColumn.cs) q.length) cols0)), (8, .p ((fun q : List GColumn => AV.lst (q.flatMap GColumn.cs) q.length) cols0)), (9, .i (cols0.length : Int)), (10, .i t10_0), (11, .b (decide (t10_0 < (cols0.length : Int))))] [] rfl rfl rfl ?_
      refine AW2_seq ?_
      refine AW2_if (p := t10_0 < (cols0.length : Int)) rfl (fun h2 => ?_) (fun h2 => ?_)
      · replace H := ite_then h2 H
        refine as2 [(0, .p ((fun q : List GColumn => AV.lst (q.flatMap GColumn.cs) q.length) cols0)), (8, .p ((fun q : List GColumn => AV.lst (q.flatMap GColumn.cs) q.length) cols0)), (9, .i (cols0.length : Int)), (10, .i t10_0)] [] rfl rfl rfl ?_
        refine AW2_skip ?_
        refine AW2_seq ?_
        refine AW2_block ?_
        refine sg [0, 1, 2, 3, 4, 5] rfl ?_
        refine rp rfl rfl (p_move rfl rfl) ?_
        refine chkK H fun h3 H => ?_
        refine rp rfl rfl (u_ixl rfl rfl Tryd.underlying35 in_68 rfl rfl (ixe h3) (ixn h3) (fne (fun x => (GColumn.len x)) (by decide) (ixn h3))) ?_
        refine rp rfl rfl (u_lda rfl rfl Tryd.underlying68 rfl in_68 rfl (Nat.succ_pos _) (Sub.fm default (fun x => (GColumn.len x)) (ixn h3)) (GColumn.len (lrd cols0 t10_0.toNat))) ?_
        refine r_op rfl rfl (MakeD.opD (u_alloc 4 rfl in_68 one_68 zc_68) rfl rfl rfl rfl) ?_
        refine rp rfl rfl (p_asg rfl rfl) ?_
        refine r_op rfl rfl (u_st rfl rfl rfl rfl rfl in_68 (GColumn.len (lrd cols0 t10_0.toNat)) (ne_of_lt (n := 0) (Nat.lt_of_lt_of_eq (by decide) (Eq.symm (GColumn.len GColumn.zero)))) (Upd.refl ((GColumn.len (lrd cols0 t10_0.toNat)).trans (GColumn.len GColumn.zero).symm))) ?_
        refine rz [(0, .p ((fun q : List GColumn => AV.lst (q.flatMap GColumn.cs) q.length) cols0)), (3, .i t10_0), (4, .q 4 (0)), (8, .p ((fun q : List GColumn => AV.lst (q.flatMap GColumn.cs) q.length) cols0)), (9, .i (cols0.length : Int)), (10, .i t10_0)] [(4, .pure (GColumn.cs (lrd cols0 t10_0.toNat)))] rfl rfl rfl ?_
        refine AW2_block ?_
        refine AW2_seq ?_
        refine bindK H fun r'1 h4 H => ?_
        refine AW2_mid (⟨[(0, .p ((fun q : List GColumn => AV.lst (q.flatMap GColumn.cs) q.length) cols0)), (3, .i t10_0), (4, .q 4 (0)), (8, .p ((fun q : List GColumn => AV.lst (q.flatMap GColumn.cs) q.length) cols0)), (9, .i (cols0.length : Int)), (10, .i t10_0), (15, .b (decide (((!r'1) = true) ∨ ((((lrd cols0 t10_0.toNat).Name).length : Int) > (8 : Int)))))], [(4, .pure (GColumn.cs (lrd cols0 t10_0.toNat)))], 54⟩ : TS) ?_ ?_
        · refine AW2_reg [0, 1, 2, 3, 4, 5, 6, 7, 8, 9, 10] rfl ?_
          refine rp rfl rfl (u_fa rfl rfl Tryd.underlying68 rfl in_9 (Nat.succ_ne_zero _) rfl rfl (ne_of_lt (n := 0) (Nat.lt_of_lt_of_eq (by decide) (Eq.symm (GColumn.len (lrd cols0 t10_0.toNat)))))) ?_
          refine rp rfl rfl (u_ld rfl rfl Tryd.underlying9 rfl rfl ((Sub.refl _).trans (GColumn.sub0 (lrd cols0 t10_0.toNat)))) ?_
          refine rp rfl rfl (p_callp rfl rfl rfl Tryd.func33 rfl rfl (g_ref_isName_ac h4) ⟨rfl, trivial⟩) ?_
          refine rp rfl rfl (p_not rfl rfl) ?_
          refine rp rfl rfl (p_move rfl rfl) ?_
          refine (Classical.em ((!r'1) = true)).elim (fun h5 => ?_) (fun h5 => ?_)
          · refine r_off rfl rfl rfl rfl h5 rfl rfl ?_
            refine r_off rfl rfl rfl rfl h5 rfl rfl ?_
            refine r_off rfl rfl rfl rfl h5 rfl rfl ?_
            refine r_off rfl rfl rfl rfl h5 rfl rfl ?_
            refine rp rfl rfl (p_pkt rfl rfl h5 (tb (decide_eq_true (p := ((!r'1) = true) ∨ ((((lrd cols0 t10_0.toNat).Name).length : Int) > (8 : Int))) (Or.inl h5)).symm)) ?_
            refine rp rfl rfl (p_asg rfl rfl) ?_
            refine rs [(0, .p ((fun q : List GColumn => AV.lst (q.flatMap GColumn.cs) q.length) cols0)), (3, .i t10_0), (4, .q 4 (0)), (8, .p ((fun q : List GColumn => AV.lst (q.flatMap GColumn.cs) q.length) cols0)), (9, .i (cols0.length : Int)), (10, .i t10_0), (15, .b (decide (((!r'1) = true) ∨ ((((lrd cols0 t10_0.toNat).Name).length : Int) > (8 : Int)))))] [(4, .pure (GColumn.cs (lrd cols0 t10_0.toNat)))] rfl rfl rfl ?_
            exact RunW_nil rfl
          · refine r_on rfl rfl rfl rfl (bfalse h5) rfl (PureD.opD (u_fa rfl rfl Tryd.underlying68 rfl in_9 (Nat.succ_ne_zero _) rfl rfl (ne_of_lt (n := 0) (Nat.lt_of_lt_of_eq (by decide) (Eq.symm (GColumn.len (lrd cols0 t10_0.toNat))))))) ?_
            refine r_on rfl rfl rfl rfl (bfalse h5) rfl (PureD.opD (u_ld rfl rfl Tryd.underlying9 rfl rfl ((Sub.refl _).trans (GColumn.sub0 (lrd cols0 t10_0.toNat))))) ?_
            refine r_on rfl rfl rfl rfl (bfalse h5) rfl (PureD.opD (p_lent rfl Tryd.underlying9 rfl)) ?_
            refine r_on rfl rfl rfl rfl (bfalse h5) rfl (PureD.opD (p_bin rfl rfl rfl rfl)) ?_
            refine rp rfl rfl (p_pkf rfl rfl (bfalse h5) (tb ((or_l (p := (!r'1) = true) (q := (((lrd cols0 t10_0.toNat).Name).length : Int) > (8 : Int)) h5)))) ?_
            refine rp rfl rfl (p_asg rfl rfl) ?_
            refine rs [(0, .p ((fun q : List GColumn => AV.lst (q.flatMap GColumn.cs) q.length) cols0)), (3, .i t10_0), (4, .q 4 (0)), (8, .p ((fun q : List GColumn => AV.lst (q.flatMap GColumn.cs) q.length) cols0)), (9, .i (cols0.length : Int)), (10, .i t10_0), (15, .b (decide (((!r'1) = true) ∨ ((((lrd cols0 t10_0.toNat).Name).length : Int) > (8 : Int)))))] [(4, .pure (GColumn.cs (lrd cols0 t10_0.toNat)))] rfl rfl rfl ?_
            exact RunW_nil rfl
        · refine AW2_if (p := ((!r'1) = true) ∨ ((((lrd cols0 t10_0.toNat).Name).length : Int) > (8 : Int))) rfl (fun h6 => ?_) (fun h6 => ?_)
          · replace H := ite_then h6 H
            refine sg [0] rfl ?_
            refine rp rfl rfl (p_asg rfl rfl) ?_
            refine rz [(2, .i (3 : Int))] [] rfl rfl rfl ?_
            refine AW2_ret ?_
            have hz := some_elim H
            subst hz
            exact ⟨rfl, ⟨res_tmp (.same _), trivial⟩, trivial⟩
          · replace H := ite_else h6 H
            refine AW2_seq ?_
            refine AW2_mid (⟨[(0, .p ((fun q : List GColumn => AV.lst (q.flatMap GColumn.cs) q.length) cols0)), (3, .i t10_0), (4, .q 4 (0)), (8, .p ((fun q : List GColumn => AV.lst (q.flatMap GColumn.cs) q.length) cols0)), (9, .i (cols0.length : Int)), (10, .i t10_0), (26, .b (decide (((((lrd cols0 t10_0.toNat).Kind ≠ (1 : Int)) ∧ ((lrd cols0 t10_0.toNat).Kind ≠ (2 : Int))) ∧ ((lrd cols0 t10_0.toNat).Kind ≠ (3 : Int))) ∧ ((lrd cols0 t10_0.toNat).Kind ≠ (4 : Int)))))], [(4, .pure (GColumn.cs (lrd cols0 t10_0.toNat)))], 54⟩ : TS) ?_ ?_
            · refine AW2_reg [0, 1, 2, 3, 4, 5, 6, 7, 8, 9, 10, 11, 12, 13, 14, 15, 16, 17, 18] rfl ?_
              refine rp rfl rfl (u_fa rfl rfl Tryd.underlying68 rfl in_3 (Nat.succ_ne_zero _) rfl rfl (ne_of_lt (n := 0) (Nat.lt_of_lt_of_eq (by decide) (Eq.symm (GColumn.len (lrd cols0 t10_0.toNat)))))) ?_
              refine rp rfl rfl (u_ld rfl rfl Tryd.underlying3 rfl rfl ((Sub.refl _).trans (GColumn.sub1 (lrd cols0 t10_0.toNat)))) ?_
              refine rp rfl rfl (p_ine rfl rfl rfl) ?_
              refine rp rfl rfl (p_move rfl rfl) ?_
              refine (Classical.em ((lrd cols0 t10_0.toNat).Kind ≠ (1 : Int))).elim (fun h7 => ?_) (fun h7 => ?_)
              · refine r_on rfl rfl rfl rfl (decide_eq_true (p := (lrd cols0 t10_0.toNat).Kind ≠ (1 : Int)) h7) rfl (PureD.opD (u_fa rfl rfl Tryd.underlying68 rfl in_3 (Nat.succ_ne_zero _) rfl rfl (ne_of_lt (n := 0) (Nat.lt_of_lt_of_eq (by decide) (Eq.symm (GColumn.len (lrd cols0 t10_0.toNat))))))) ?_
                refine r_on rfl rfl rfl rfl (decide_eq_true (p := (lrd cols0 t10_0.toNat).Kind ≠ (1 : Int)) h7) rfl (PureD.opD (u_ld rfl rfl Tryd.underlying3 rfl rfl ((Sub.refl _).trans (GColumn.sub1 (lrd cols0 t10_0.toNat))))) ?_
                refine r_on rfl rfl rfl rfl (decide_eq_true (p := (lrd cols0 t10_0.toNat).Kind ≠ (1 : Int)) h7) rfl (PureD.opD (p_ine rfl rfl rfl)) ?_
                refine rp rfl rfl (p_pkt rfl rfl (decide_eq_true (p := (lrd cols0 t10_0.toNat).Kind ≠ (1 : Int)) h7) (tb ((and_l (p := (lrd cols0 t10_0.toNat).Kind ≠ (1 : Int)) (q := (lrd cols0 t10_0.toNat).Kind ≠ (2 : Int)) h7)))) ?_
                refine rp rfl rfl (p_move rfl rfl) ?_
                refine (Classical.em ((lrd cols0 t10_0.toNat).Kind ≠ (2 : Int))).elim (fun h8 => ?_) (fun h8 => ?_)
                · refine r_on rfl rfl rfl rfl (decide_eq_true (p := ((lrd cols0 t10_0.toNat).Kind ≠ (1 : Int)) ∧ ((lrd cols0 t10_0.toNat).Kind ≠ (2 : Int))) ⟨h7, h8⟩) rfl (PureD.opD (u_fa rfl rfl Tryd.underlying68 rfl in_3 (Nat.succ_ne_zero _) rfl rfl (ne_of_lt (n := 0) (Nat.lt_of_lt_of_eq (by decide) (Eq.symm (GColumn.len (lrd cols0 t10_0.toNat))))))) ?_
                  refine r_on rfl rfl rfl rfl (decide_eq_true (p := ((lrd cols0 t10_0.toNat).Kind ≠ (1 : Int)) ∧ ((lrd cols0 t10_0.toNat).Kind ≠ (2 : Int))) ⟨h7, h8⟩) rfl (PureD.opD (u_ld rfl rfl Tryd.underlying3 rfl rfl ((Sub.refl _).trans (GColumn.sub1 (lrd cols0 t10_0.toNat))))) ?_
                  refine r_on rfl rfl rfl rfl (decide_eq_true (p := ((lrd cols0 t10_0.toNat).Kind ≠ (1 : Int)) ∧ ((lrd cols0 t10_0.toNat).Kind ≠ (2 : Int))) ⟨h7, h8⟩) rfl (PureD.opD (p_ine rfl rfl rfl)) ?_
                  refine rp rfl rfl (p_pkt rfl rfl (decide_eq_true (p := ((lrd cols0 t10_0.toNat).Kind ≠ (1 : Int)) ∧ ((lrd cols0 t10_0.toNat).Kind ≠ (2 : Int))) ⟨h7, h8⟩) (tb ((and_l (p := ((lrd cols0 t10_0.toNat).Kind ≠ (1 : Int)) ∧ ((lrd cols0 t10_0.toNat).Kind ≠ (2 : Int))) (q := (lrd cols0 t10_0.toNat).Kind ≠ (3 : Int)) ⟨h7, h8⟩)))) ?_
                  refine rp rfl rfl (p_move rfl rfl) ?_
                  refine (Classical.em ((lrd cols0 t10_0.toNat).Kind ≠ (3 : Int))).elim (fun h9 => ?_) (fun h9 => ?_)
                  · refine r_on rfl rfl rfl rfl (decide_eq_true (p := (((lrd cols0 t10_0.toNat).Kind ≠ (1 : Int)) ∧ ((lrd cols0 t10_0.toNat).Kind ≠ (2 : Int))) ∧ ((lrd cols0 t10_0.toNat).Kind ≠ (3 : Int))) ⟨⟨h7, h8⟩, h9⟩) rfl (PureD.opD (u_fa rfl rfl Tryd.underlying68 rfl in_3 (Nat.succ_ne_zero _) rfl rfl (ne_of_lt (n := 0) (Nat.lt_of_lt_of_eq (by decide) (Eq.symm (GColumn.len (lrd cols0 t10_0.toNat))))))) ?_
                    refine r_on rfl rfl rfl rfl (decide_eq_true (p := (((lrd cols0 t10_0.toNat).Kind ≠ (1 : Int)) ∧ ((lrd cols0 t10_0.toNat).Kind ≠ (2 : Int))) ∧ ((lrd cols0 t10_0.toNat).Kind ≠ (3 : Int))) ⟨⟨h7, h8⟩, h9⟩) rfl (PureD.opD (u_ld rfl rfl Tryd.underlying3 rfl rfl ((Sub.refl _).trans (GColumn.sub1 (lrd cols0 t10_0.toNat))))) ?_
                    refine r_on rfl rfl rfl rfl (decide_eq_true (p := (((lrd cols0 t10_0.toNat).Kind ≠ (1 : Int)) ∧ ((lrd cols0 t10_0.toNat).Kind ≠ (2 : Int))) ∧ ((lrd cols0 t10_0.toNat).Kind ≠ (3 : Int))) ⟨⟨h7, h8⟩, h9⟩) rfl (PureD.opD (p_ine rfl rfl rfl)) ?_
                    refine rp rfl rfl (p_pkt rfl rfl (decide_eq_true (p := (((lrd cols0 t10_0.toNat).Kind ≠ (1 : Int)) ∧ ((lrd cols0 t10_0.toNat).Kind ≠ (2 : Int))) ∧ ((lrd cols0 t10_0.toNat).Kind ≠ (3 : Int))) ⟨⟨h7, h8⟩, h9⟩) (tb ((and_l (p := (((lrd cols0 t10_0.toNat).Kind ≠ (1 : Int)) ∧ ((lrd cols0 t10_0.toNat).Kind ≠ (2 : Int))) ∧ ((lrd cols0 t10_0.toNat).Kind ≠ (3 : Int))) (q := (lrd cols0 t10_0.toNat).Kind ≠ (4 : Int)) ⟨⟨h7, h8⟩, h9⟩)))) ?_
                    refine rp rfl rfl (p_asg rfl rfl) ?_
                    refine rs [(0, .p ((fun q : List GColumn => AV.lst (q.flatMap GColumn.cs) q.length) cols0)), (3, .i t10_0), (4, .q 4 (0)), (8, .p ((fun q : List GColumn => AV.lst (q.flatMap GColumn.cs) q.length) cols0)), (9, .i (cols0.length : Int)), (10, .i t10_0), (26, .b (decide (((((lrd cols0 t10_0.toNat).Kind ≠ (1 : Int)) ∧ ((lrd cols0 t10_0.toNat).Kind ≠ (2 : Int))) ∧ ((lrd cols0 t10_0.toNat).Kind ≠ (3 : Int))) ∧ ((lrd cols0 t10_0.toNat).Kind ≠ (4 : Int)))))] [(4, .pure (GColumn.cs (lrd cols0 t10_0.toNat)))] rfl rfl rfl ?_
                    exact RunW_nil rfl
                  · refine r_off rfl rfl rfl rfl (decide_eq_false (p := (((lrd cols0 t10_0.toNat).Kind ≠ (1 : Int)) ∧ ((lrd cols0 t10_0.toNat).Kind ≠ (2 : Int))) ∧ ((lrd cols0 t10_0.toNat).Kind ≠ (3 : Int))) (fun h => h9 h.2)) rfl rfl ?_
                    refine r_off rfl rfl rfl rfl (decide_eq_false (p := (((lrd cols0 t10_0.toNat).Kind ≠ (1 : Int)) ∧ ((lrd cols0 t10_0.toNat).Kind ≠ (2 : Int))) ∧ ((lrd cols0 t10_0.toNat).Kind ≠ (3 : Int))) (fun h => h9 h.2)) rfl rfl ?_
                    refine r_off rfl rfl rfl rfl (decide_eq_false (p := (((lrd cols0 t10_0.toNat).Kind ≠ (1 : Int)) ∧ ((lrd cols0 t10_0.toNat).Kind ≠ (2 : Int))) ∧ ((lrd cols0 t10_0.toNat).Kind ≠ (3 : Int))) (fun h => h9 h.2)) rfl rfl ?_
                    refine rp rfl rfl (p_pkf rfl rfl (decide_eq_false (p := (((lrd cols0 t10_0.toNat).Kind ≠ (1 : Int)) ∧ ((lrd cols0 t10_0.toNat).Kind ≠ (2 : Int))) ∧ ((lrd cols0 t10_0.toNat).Kind ≠ (3 : Int))) (fun h => h9 h.2)) (tb (decide_eq_false (p := ((((lrd cols0 t10_0.toNat).Kind ≠ (1 : Int)) ∧ ((lrd cols0 t10_0.toNat).Kind ≠ (2 : Int))) ∧ ((lrd cols0 t10_0.toNat).Kind ≠ (3 : Int))) ∧ ((lrd cols0 t10_0.toNat).Kind ≠ (4 : Int))) (fun x => (fun h => h9 h.2) x.1)).symm)) ?_
                    refine rp rfl rfl (p_asg rfl rfl) ?_
                    refine rs [(0, .p ((fun q : List GColumn => AV.lst (q.flatMap GColumn.cs) q.length) cols0)), (3, .i t10_0), (4, .q 4 (0)), (8, .p ((fun q : List GColumn => AV.lst (q.flatMap GColumn.cs) q.length) cols0)), (9, .i (cols0.length : Int)), (10, .i t10_0), (26, .b (decide (((((lrd cols0 t10_0.toNat).Kind ≠ (1 : Int)) ∧ ((lrd cols0 t10_0.toNat).Kind ≠ (2 : Int))) ∧ ((lrd cols0 t10_0.toNat).Kind ≠ (3 : Int))) ∧ ((lrd cols0 t10_0.toNat).Kind ≠ (4 : Int)))))] [(4, .pure (GColumn.cs (lrd cols0 t10_0.toNat)))] rfl rfl rfl ?_
                    exact RunW_nil rfl
                · refine r_off rfl rfl rfl rfl (decide_eq_false (p := ((lrd cols0 t10_0.toNat).Kind ≠ (1 : Int)) ∧ ((lrd cols0 t10_0.toNat).Kind ≠ (2 : Int))) (fun h => h8 h.2)) rfl rfl ?_
                  refine r_off rfl rfl rfl rfl (decide_eq_false (p := ((lrd cols0 t10_0.toNat).Kind ≠ (1 : Int)) ∧ ((lrd cols0 t10_0.toNat).Kind ≠ (2 : Int))) (fun h => h8 h.2)) rfl rfl ?_
                  refine r_off rfl rfl rfl rfl (decide_eq_false (p := ((lrd cols0 t10_0.toNat).Kind ≠ (1 : Int)) ∧ ((lrd cols0 t10_0.toNat).Kind ≠ (2 : Int))) (fun h => h8 h.2)) rfl rfl ?_
                  refine rp rfl rfl (p_pkf rfl rfl (decide_eq_false (p := ((lrd cols0 t10_0.toNat).Kind ≠ (1 : Int)) ∧ ((lrd cols0 t10_0.toNat).Kind ≠ (2 : Int))) (fun h => h8 h.2)) (tb (decide_eq_false (p := (((lrd cols0 t10_0.toNat).Kind ≠ (1 : Int)) ∧ ((lrd cols0 t10_0.toNat).Kind ≠ (2 : Int))) ∧ ((lrd cols0 t10_0.toNat).Kind ≠ (3 : Int))) (fun x => (fun h => h8 h.2) x.1)).symm)) ?_
                  refine rp rfl rfl (p_move rfl rfl) ?_
                  refine r_off rfl rfl rfl rfl (decide_eq_false (p := (((lrd cols0 t10_0.toNat).Kind ≠ (1 : Int)) ∧ ((lrd cols0 t10_0.toNat).Kind ≠ (2 : Int))) ∧ ((lrd cols0 t10_0.toNat).Kind ≠ (3 : Int))) (fun h => (fun h => h8 h.2) h.1)) rfl rfl ?_
                  refine r_off rfl rfl rfl rfl (decide_eq_false (p := (((lrd cols0 t10_0.toNat).Kind ≠ (1 : Int)) ∧ ((lrd cols0 t10_0.toNat).Kind ≠ (2 : Int))) ∧ ((lrd cols0 t10_0.toNat).Kind ≠ (3 : Int))) (fun h => (fun h => h8 h.2) h.1)) rfl rfl ?_
                  refine r_off rfl rfl rfl rfl (decide_eq_false (p := (((lrd cols0 t10_0.toNat).Kind ≠ (1 : Int)) ∧ ((lrd cols0 t10_0.toNat).Kind ≠ (2 : Int))) ∧ ((lrd cols0 t10_0.toNat).Kind ≠ (3 : Int))) (fun h => (fun h => h8 h.2) h.1)) rfl rfl ?_
                  refine rp rfl rfl (p_pkf rfl rfl (decide_eq_false (p := (((lrd cols0 t10_0.toNat).Kind ≠ (1 : Int)) ∧ ((lrd cols0 t10_0.toNat).Kind ≠ (2 : Int))) ∧ ((lrd cols0 t10_0.toNat).Kind ≠ (3 : Int))) (fun h => (fun h => h8 h.2) h.1)) (tb (decide_eq_false (p := ((((lrd cols0 t10_0.toNat).Kind ≠ (1 : Int)) ∧ ((lrd cols0 t10_0.toNat).Kind ≠ (2 : Int))) ∧ ((lrd cols0 t10_0.toNat).Kind ≠ (3 : Int))) ∧ ((lrd cols0 t10_0.toNat).Kind ≠ (4 : Int))) (fun x => (fun h => (fun h => h8 h.2) h.1) x.1)).symm)) ?_
                  refine rp rfl rfl (p_asg rfl rfl) ?_
                  refine rs [(0, .p ((fun q : List GColumn => AV.lst (q.flatMap GColumn.cs) q.length) cols0)), (3, .i t10_0), (4, .q 4 (0)), (8, .p ((fun q : List GColumn => AV.lst (q.flatMap GColumn.cs) q.length) cols0)), (9, .i (cols0.length : Int)), (10, .i t10_0), (26, .b (decide (((((lrd cols0 t10_0.toNat).Kind ≠ (1 : Int)) ∧ ((lrd cols0 t10_0.toNat).Kind ≠ (2 : Int))) ∧ ((lrd cols0 t10_0.toNat).Kind ≠ (3 : Int))) ∧ ((lrd cols0 t10_0.toNat).Kind ≠ (4 : Int)))))] [(4, .pure (GColumn.cs (lrd cols0 t10_0.toNat)))] rfl rfl rfl ?_
                  exact RunW_nil rfl
              · refine r_off rfl rfl rfl rfl (decide_eq_false (p := (lrd cols0 t10_0.toNat).Kind ≠ (1 : Int)) h7) rfl rfl ?_
                refine r_off rfl rfl rfl rfl (decide_eq_false (p := (lrd cols0 t10_0.toNat).Kind ≠ (1 : Int)) h7) rfl rfl ?_
                refine r_off rfl rfl rfl rfl (decide_eq_false (p := (lrd cols0 t10_0.toNat).Kind ≠ (1 : Int)) h7) rfl rfl ?_
                refine rp rfl rfl (p_pkf rfl rfl (decide_eq_false (p := (lrd cols0 t10_0.toNat).Kind ≠ (1 : Int)) h7) (tb (decide_eq_false (p := ((lrd cols0 t10_0.toNat).Kind ≠ (1 : Int)) ∧ ((lrd cols0 t10_0.toNat).Kind ≠ (2 : Int))) (fun x => h7 x.1)).symm)) ?_
                refine rp rfl rfl (p_move rfl rfl) ?_
                refine r_off rfl rfl rfl rfl (decide_eq_false (p := ((lrd cols0 t10_0.toNat).Kind ≠ (1 : Int)) ∧ ((lrd cols0 t10_0.toNat).Kind ≠ (2 : Int))) (fun h => h7 h.1)) rfl rfl ?_
                refine r_off rfl rfl rfl rfl (decide_eq_false (p := ((lrd cols0 t10_0.toNat).Kind ≠ (1 : Int)) ∧ ((lrd cols0 t10_0.toNat).Kind ≠ (2 : Int))) (fun h => h7 h.1)) rfl rfl ?_
                refine r_off rfl rfl rfl rfl (decide_eq_false (p := ((lrd cols0 t10_0.toNat).Kind ≠ (1 : Int)) ∧ ((lrd cols0 t10_0.toNat).Kind ≠ (2 : Int))) (fun h => h7 h.1)) rfl rfl ?_
                refine rp rfl rfl (p_pkf rfl rfl (decide_eq_false (p := ((lrd cols0 t10_0.toNat).Kind ≠ (1 : Int)) ∧ ((lrd cols0 t10_0.toNat).Kind ≠ (2 : Int))) (fun h => h7 h.1)) (tb (decide_eq_false (p := (((lrd cols0 t10_0.toNat).Kind ≠ (1 : Int)) ∧ ((lrd cols0 t10_0.toNat).Kind ≠ (2 : Int))) ∧ ((lrd cols0 t10_0.toNat).Kind ≠ (3 : Int))) (fun x => (fun h => h7 h.1) x.1)).symm)) ?_
                refine rp rfl rfl (p_move rfl rfl) ?_
                refine r_off rfl rfl rfl rfl (decide_eq_false (p := (((lrd cols0 t10_0.toNat).Kind ≠ (1 : Int)) ∧ ((lrd cols0 t10_0.toNat).Kind ≠ (2 : Int))) ∧ ((lrd cols0 t10_0.toNat).Kind ≠ (3 : Int))) (fun h => (fun h => h7 h.1) h.1)) rfl rfl ?_
                refine r_off rfl rfl rfl rfl (decide_eq_false (p := (((lrd cols0 t10_0.toNat).Kind ≠ (1 : Int)) ∧ ((lrd cols0 t10_0.toNat).Kind ≠ (2 : Int))) ∧ ((lrd cols0 t10_0.toNat).Kind ≠ (3 : Int))) (fun h => (fun h => h7 h.1) h.1)) rfl rfl ?_
                refine r_off rfl rfl rfl rfl (decide_eq_false (p := (((lrd cols0 t10_0.toNat).Kind ≠ (1 : Int)) ∧ ((lrd cols0 t10_0.toNat).Kind ≠ (2 : Int))) ∧ ((lrd cols0 t10_0.toNat).Kind ≠ (3 : Int))) (fun h => (fun h => h7 h.1) h.1)) rfl rfl ?_
                refine rp rfl rfl (p_pkf rfl rfl (decide_eq_false (p := (((lrd cols0 t10_0.toNat).Kind ≠ (1 : Int)) ∧ ((lrd cols0 t10_0.toNat).Kind ≠ (2 : Int))) ∧ ((lrd cols0 t10_0.toNat).Kind ≠ (3 : Int))) (fun h => (fun h => h7 h.1) h.1)) (tb (decide_eq_false (p := ((((lrd cols0 t10_0.toNat).Kind ≠ (1 : Int)) ∧ ((lrd cols0 t10_0.toNat).Kind ≠ (2 : Int))) ∧ ((lrd cols0 t10_0.toNat).Kind ≠ (3 : Int))) ∧ ((lrd cols0 t10_0.toNat).Kind ≠ (4 : Int))) (fun x => (fun h => (fun h => h7 h.1) h.1) x.1)).symm)) ?_
                refine rp rfl rfl (p_asg rfl rfl) ?_
                refine rs [(0, .p ((fun q : List GColumn => AV.lst (q.flatMap GColumn.cs) q.length) cols0)), (3, .i t10_0), (4, .q 4 (0)), (8, .p ((fun q : List GColumn => AV.lst (q.flatMap GColumn.cs) q.length) cols0)), (9, .i (cols0.length : Int)), (10, .i t10_0), (26, .b (decide (((((lrd cols0 t10_0.toNat).Kind ≠ (1 : Int)) ∧ ((lrd cols0 t10_0.toNat).Kind ≠ (2 : Int))) ∧ ((lrd cols0 t10_0.toNat).Kind ≠ (3 : Int))) ∧ ((lrd cols0 t10_0.toNat).Kind ≠ (4 : Int)))))] [(4, .pure (GColumn.cs (lrd cols0 t10_0.toNat)))] rfl rfl rfl ?_
                exact RunW_nil rfl
            · refine gen1 (fun t26'2 => (⟨[(0, .p ((fun q : List GColumn => AV.lst (q.flatMap GColumn.cs) q.length) cols0)), (3, .i t10_0), (4, .q 4 (0)), (8, .p ((fun q : List GColumn => AV.lst (q.flatMap GColumn.cs) q.length) cols0)), (9, .i (cols0.length : Int)), (10, .i t10_0), (26, .b t26'2)], [(4, .pure (GColumn.cs (lrd cols0 t10_0.toNat)))], 54⟩ : TS)) H ?_
              intro t26'2 H
              refine AW2_cond rfl (fun h10 => ?_) (fun h10 => ?_)
              · replace H := ite_then h10 H
                refine sg [0] rfl ?_
                refine rp rfl rfl (p_asg rfl rfl) ?_
                refine rz [(2, .i (2 : Int))] [] rfl rfl rfl ?_
                refine AW2_ret ?_
                have hz := some_elim H
                subst hz
                exact ⟨rfl, ⟨res_tmp (.same _), trivial⟩, trivial⟩
              · replace H := ite_else (ne_true h10) H
                refine AW2_seq ?_
                refine chkK H fun h11 H => ?_
                refine bindK H fun r'3 h12 H => ?_
                refine AW2_ghoQ ?_
                refine AW2_draw 5 [5, 6, 7] (fun k => ([.p ((fun q : List GColumn => AV.lst (q.flatMap GColumn.cs) q.length) cols0), .i t10_0, .p ((fun q : List GColumn => AV.lst (q.flatMap GColumn.cs) q.length) (cut cols0 (0 : Int) t10_0)), .q 4 (0 + 0), .t ((lrd cols0 t10_0.toNat).Name)] : List TV).getD k TV.any) (fun k => ([[(0, none)], [(3, none)], [(46, some 0), (47, some 1)], [(4, none)], [(49, some 3)]] : List (List (Nat × Option Nat))).getD k []) [(0, none), (8, none), (9, none), (10, none), (48, some 2), (50, some 4)] [] (fun k => ([[], [], [0, 1], [], [3], [0, 1, 2, 3, 4], [0, 1, 2, 3, 4, 5], [0, 1, 2, 3, 4, 5, 6]] : List (List Nat)).getD k []) mixed (by kernel_rfl) rfl rfl (a_op (g_x rfl (x_p rfl (p_move rfl rfl) rfl)) (a_op (g_x rfl (x_p rfl (p_move rfl rfl) rfl)) (a_op (g_x rfl (x_p rfl (u_cutl (g := (fun l => l.flatMap GColumn.cs)) (a := (0 : Int)) (b := t10_0) rfl rfl Tryd.underlying35 in_68 rfl bT_zero (bT_i (Int.le_trans (show 0 ≤ (0 : Int) ∧ (0 : Int) ≤ t10_0 ∧ t10_0 ≤ (cols0.length : Int) from ⟨Int.le_refl _, h11.1, h11.2⟩).1 (show 0 ≤ (0 : Int) ∧ (0 : Int) ≤ t10_0 ∧ t10_0 ≤ (cols0.length : Int) from ⟨Int.le_refl _, h11.1, h11.2⟩).2.1) rfl) (.inl rfl) (show 0 ≤ (0 : Int) ∧ (0 : Int) ≤ t10_0 ∧ t10_0 ≤ (cols0.length : Int) from ⟨Int.le_refl _, h11.1, h11.2⟩) (g_fm (fun x => (GColumn.len x)))) rfl)) (a_op (g_x rfl (x_p rfl (u_fa rfl rfl Tryd.underlying68 rfl in_9 (Nat.succ_ne_zero _) rfl rfl (ne_of_lt (n := 0) (Nat.lt_of_lt_of_eq (by decide) (Eq.symm (GColumn.len (lrd cols0 t10_0.toNat)))))) rfl)) (a_op (g_x rfl (x_p rfl (u_ld rfl rfl Tryd.underlying9 rfl rfl ((Sub.refl _).trans (GColumn.sub0 (lrd cols0 t10_0.toNat)))) rfl)) (a_nil)))))) ?_
                refine t_op rfl rfl (PureD.opD (p_callp rfl rfl rfl Tryd.func41 rfl rfl (g_ref_columnAt_ac h12) ⟨rfl, rfl, trivial⟩)) ?_
                refine t_op rfl rfl (PureD.opD (p_bin rfl rfl rfl rfl)) ?_
                refine t_op rfl rfl (PureD.opD (p_asg rfl rfl)) ?_
                refine t_gho (Gho_st (L := [(0, .p ((fun q : List GColumn => AV.lst (q.flatMap GColumn.cs) q.length) cols0)), (8, .p ((fun q : List GColumn => AV.lst (q.flatMap GColumn.cs) q.length) cols0)), (9, .i (cols0.length : Int)), (10, .i t10_0), (45, .b (decide (r'3 ≥ (0 : Int))))]) (H := []) (N := 54) rfl ⟨TLes.same _, TLes.same _, TLes.same _, TLes.same _, TLes.same _, trivial⟩ trivial) ?_
                refine AW2_if (p := r'3 ≥ (0 : Int)) rfl (fun h13 => ?_) (fun h13 => ?_)
                · replace H := ite_then h13 H
                  refine sg [0] rfl ?_
                  refine rp rfl rfl (p_asg rfl rfl) ?_
                  refine rz [(2, .i (8 : Int))] [] rfl rfl rfl ?_
                  refine AW2_ret ?_
                  have hz := some_elim H
                  subst hz
                  exact ⟨rfl, ⟨res_tmp (.same _), trivial⟩, trivial⟩
                · replace H := ite_else h13 H
                  refine as2 [(0, .p ((fun q : List GColumn => AV.lst (q.flatMap GColumn.cs) q.length) cols0)), (8, .p ((fun q : List GColumn => AV.lst (q.flatMap GColumn.cs) q.length) cols0)), (9, .i (cols0.length : Int)), (10, .i t10_0)] [] rfl rfl rfl ?_
                  refine AW2_skip ?_
                  refine AW2_reg [0, 1] rfl ?_
                  refine rp rfl rfl (p_bin rfl rfl rfl rfl) ?_
                  refine rp rfl rfl (p_move rfl rfl) ?_
                  refine rz [(0, .p ((fun q : List GColumn => AV.lst (q.flatMap GColumn.cs) q.length) cols0)), (8, .p ((fun q : List GColumn => AV.lst (q.flatMap GColumn.cs) q.length) cols0)), (9, .i (cols0.length : Int)), (10, .i (w64 (t10_0 + (1 : Int))))] [] rfl rfl rfl ?_
                  have hz := some_elim H
                  subst hz
                  exact ⟨rfl, rfl⟩
      · replace H := ite_else h2 H
        refine as2 [] [] rfl rfl rfl ?_
        refine AW2_exit ?_
        refine thenQ2_exit ?_
        have hz := some_elim H
        subst hz
        exact ⟨rfl, rfl⟩
    · rcases o'7 with y'8 | y'9
      · obtain ⟨rfl, hs⟩ := hs
        refine ⟨by simp, ?_⟩
        have hz := some_elim H
        subst hz
        exact ⟨hs.1, hs.2⟩
      · obtain ⟨rfl, rfl⟩ := hs
        refine ⟨by simp, ?_⟩
        refine blockQ2_exit ?_
        refine sg [0] rfl ?_
        refine rp rfl rfl (p_asg rfl rfl) ?_
        refine rz [(2, .i (0 : Int))] [] rfl rfl rfl ?_
        refine AW2_ret ?_
        have hz := some_elim H
        subst hz
        exact ⟨⟨res_tmp (.same _), trivial⟩, trivial⟩

/-! chirographlaw.KindsColumns -/
noncomputable def g_law_KindsColumns (cols0 : List GColumn) : Option (Bool) :=
  (g_kinds_Columns cols0).bind fun r'1 => (g_ref_ColumnsFault cols0).bind fun r'2 => some (decide (r'1 = r'2))
set_option maxHeartbeats 4000000 in
set_option maxRecDepth 100000 in
theorem g_law_KindsColumns_ac {cols0 : List GColumn} {r : Bool} (H : g_law_KindsColumns cols0 = some r) : ACp Tryd.prog 5 [((fun q : List GColumn => AV.lst (q.flatMap GColumn.cs) q.length) cols0)] (AV.bool r) := by
  refine ACp_of (AC2_of_body (vs := [.b r]) Tryd.func5 rfl rfl (Nat.le_of_ble_eq_true rfl) rfl ?_) (fun _ => .same _)
  unfold g_law_KindsColumns at H
  refine as2 [(0, .p ((fun q : List GColumn => AV.lst (q.flatMap GColumn.cs) q.length) cols0))] [] rfl rfl rfl ?_
  refine sg [0] rfl ?_
  refine rp rfl rfl (p_asg rfl rfl) ?_
  refine rz [(0, .p ((fun q : List GColumn => AV.lst (q.flatMap GColumn.cs) q.length) cols0))] [] rfl rfl rfl ?_
  refine sg [0, 1, 2] rfl ?_
  refine rp rfl rfl (p_move rfl rfl) ?_
  refine bindK H fun r'1 h1 H => ?_
  refine rp rfl rfl (p_callp rfl rfl rfl Tryd.func14 rfl rfl (g_kinds_Columns_ac h1) ⟨rfl, trivial⟩) ?_
  refine rp rfl rfl (p_asg rfl rfl) ?_
  refine rz [(0, .p ((fun q : List GColumn => AV.lst (q.flatMap GColumn.cs) q.length) cols0)), (3, .i r'1)] [] rfl rfl rfl ?_
  refine sg [0, 1, 2] rfl ?_
  refine rp rfl rfl (p_move rfl rfl) ?_
  refine bindK H fun r'2 h2 H => ?_
  refine rp rfl rfl (p_callp rfl rfl rfl Tryd.func15 rfl rfl (g_ref_ColumnsFault_ac h2) ⟨rfl, trivial⟩) ?_
  refine rp rfl rfl (p_asg rfl rfl) ?_
  refine rz [(3, .i r'1), (4, .i r'2)] [] rfl rfl rfl ?_
  refine sg [0, 1, 2, 3] rfl ?_
  refine rp rfl rfl (p_move rfl rfl) ?_
  refine rp rfl rfl (p_move rfl rfl) ?_
  refine rp rfl rfl (p_ieq rfl rfl rfl) ?_
  refine rp rfl rfl (p_asg rfl rfl) ?_
  refine rz [(2, .b (decide (r'1 = r'2)))] [] rfl rfl rfl ?_
  refine AW2_ret ?_
  have hz := some_elim H
  subst hz
  exact ⟨⟨res_tmp (.same _), trivial⟩, trivial⟩

/-! kinds.fits -/
noncomputable def g_kinds_fits_l0 (row0 : List GValue) (cols1 : List GColumn) : Int → Option (Int ⊕ (Int ⊕ Unit))
  | t21_0 => (if t21_0 < (row0.length : Int) then if 0 ≤ t21_0 ∧ t21_0 < (row0.length : Int) then (g_value_Check (lrd row0 t21_0.toNat)).bind fun r'2 => (if r'2 ≠ (0 : Int) then some (.inr (.inl r'2)) else ((if (lrd row0 t21_0.toNat).Kind = (0 : Int) then if 0 ≤ t21_0 ∧ t21_0 < (cols1.length : Int) then some (!((lrd cols1 t21_0.toNat).Null)) else none else some false)).bind fun g'3 => (if g'3 = true then some (.inr (.inl (12 : Int))) else ((if (lrd row0 t21_0.toNat).Kind ≠ (0 : Int) then if 0 ≤ t21_0 ∧ t21_0 < (cols1.length : Int) then some (decide ((lrd row0 t21_0.toNat).Kind ≠ (lrd cols1 t21_0.toNat).Kind)) else none else some false)).bind fun g'4 => (if g'4 = true then some (.inr (.inl (2 : Int))) else some (.inl (w64 (t21_0 + (1 : Int))))))) else none else some (.inr (.inr ())))
noncomputable def g_kinds_fits (row0 : List GValue) (cols1 : List GColumn) : Option (Int) :=
  (g_kinds_Columns cols1).bind fun r'1 => (if r'1 ≠ (0 : Int) then some r'1 else (if (row0.length : Int) ≠ (cols1.length : Int) then some (1 : Int) else (loopO (g_kinds_fits_l0 row0 cols1) (0 : Int)).bind fun o'8 => match o'8 with | .inl y'9 => some y'9 | .inr (y'10) => some (0 : Int)))
set_option maxHeartbeats 4000000 in
set_option maxRecDepth 100000 in
theorem g_kinds_fits_ac {row0 : List GValue} {cols1 : List GColumn} {r : Int} (H : g_kinds_fits row0 cols1 = some r) : ACp Tryd.prog 42 [((fun q : List GValue => AV.lst (q.flatMap GValue.cs) q.length) row0), ((fun q : List GColumn => AV.lst (q.flatMap GColumn.cs) q.length) cols1)] (AV.int r) := by
  refine ACp_of (AC2_of_body (vs := [.i r]) Tryd.func42 rfl rfl (Nat.le_of_ble_eq_true rfl) rfl ?_) (fun _ => .same _)
  unfold g_kinds_fits at H
  refine as2 [(0, .p ((fun q : List GValue => AV.lst (q.flatMap GValue.cs) q.length) row0)), (1, .p ((fun q : List GColumn => AV.lst (q.flatMap GColumn.cs) q.length) cols1))] [] rfl rfl rfl ?_
  refine sg [0] rfl ?_
  refine rp rfl rfl (p_asg rfl rfl) ?_
  refine rz [(0, .p ((fun q : List GValue => AV.lst (q.flatMap GValue.cs) q.length) row0)), (1, .p ((fun q : List GColumn => AV.lst (q.flatMap GColumn.cs) q.length) cols1))] [] rfl rfl rfl ?_
  refine AW2_seq ?_
  refine sg [0, 1, 2] rfl ?_
  refine rp rfl rfl (p_move rfl rfl) ?_
  refine bindK H fun r'1 h1 H => ?_
  refine rp rfl rfl (p_callp rfl rfl rfl Tryd.func14 rfl rfl (g_kinds_Columns_ac h1) ⟨rfl, trivial⟩) ?_
  refine rp rfl rfl (p_asg rfl rfl) ?_
  refine rz [(0, .p ((fun q : List GValue => AV.lst (q.flatMap GValue.cs) q.length) row0)), (1, .p ((fun q : List GColumn => AV.lst (q.flatMap GColumn.cs) q.length) cols1)), (5, .i r'1)] [] rfl rfl rfl ?_
  refine sg [0, 1] rfl ?_
  refine rp rfl rfl (p_move rfl rfl) ?_
  refine rp rfl rfl (p_ine rfl rfl rfl) ?_
  refine rz [(0, .p ((fun q : List GValue => AV.lst (q.flatMap GValue.cs) q.length) row0)), (1, .p ((fun q : List GColumn => AV.lst (q.flatMap GColumn.cs) q.length) cols1)), (5, .i r'1), (12, .b (decide (r'1 ≠ (0 : Int))))] [] rfl rfl rfl ?_
  refine AW2_if (p := r'1 ≠ (0 : Int)) rfl (fun h2 => ?_) (fun h2 => ?_)
  · replace H := ite_then h2 H
    refine sg [0, 1] rfl ?_
    refine rp rfl rfl (p_move rfl rfl) ?_
    refine rp rfl rfl (p_asg rfl rfl) ?_
    refine rz [(4, .i r'1)] [] rfl rfl rfl ?_
    refine AW2_ret ?_
    have hz := some_elim H
    subst hz
    exact ⟨⟨res_tmp (.same _), trivial⟩, trivial⟩
  · replace H := ite_else h2 H
    refine as2 [(0, .p ((fun q : List GValue => AV.lst (q.flatMap GValue.cs) q.length) row0)), (1, .p ((fun q : List GColumn => AV.lst (q.flatMap GColumn.cs) q.length) cols1))] [] rfl rfl rfl ?_
    refine AW2_skip ?_
    refine AW2_seq ?_
    refine sg [0, 1, 2, 3, 4] rfl ?_
    refine rp rfl rfl (p_move rfl rfl) ?_
    refine rp rfl rfl (p_lenl rfl Tryd.underlying38 rfl rfl) ?_
    refine rp rfl rfl (p_move rfl rfl) ?_
    refine rp rfl rfl (p_lenl rfl Tryd.underlying35 rfl rfl) ?_
    refine rp rfl rfl (p_ine rfl rfl rfl) ?_
    refine rz [(0, .p ((fun q : List GValue => AV.lst (q.flatMap GValue.cs) q.length) row0)), (1, .p ((fun q : List GColumn => AV.lst (q.flatMap GColumn.cs) q.length) cols1)), (18, .b (decide ((row0.length : Int) ≠ (cols1.length : Int))))] [] rfl rfl rfl ?_
    refine AW2_if (p := (row0.length : Int) ≠ (cols1.length : Int)) rfl (fun h3 => ?_) (fun h3 => ?_)
    · replace H := ite_then h3 H
      refine sg [0] rfl ?_
      refine rp rfl rfl (p_asg rfl rfl) ?_
      refine rz [(4, .i (1 : Int))] [] rfl rfl rfl ?_
      refine AW2_ret ?_
      have hz := some_elim H
      subst hz
      exact ⟨⟨res_tmp (.same _), trivial⟩, trivial⟩
    · replace H := ite_else h3 H
      refine as2 [(0, .p ((fun q : List GValue => AV.lst (q.flatMap GValue.cs) q.length) row0)), (1, .p ((fun q : List GColumn => AV.lst (q.flatMap GColumn.cs) q.length) cols1))] [] rfl rfl rfl ?_
      refine AW2_skip ?_
      refine AW2_seq ?_
      refine sg [0, 1, 2] rfl ?_
      refine rp rfl rfl (p_move rfl rfl) ?_
      refine rp rfl rfl (p_lenl rfl Tryd.underlying38 rfl rfl) ?_
      refine rp rfl rfl (p_move rfl rfl) ?_
      refine rz [(1, .p ((fun q : List GColumn => AV.lst (q.flatMap GColumn.cs) q.length) cols1)), (19, .p ((fun q : List GValue => AV.lst (q.flatMap GValue.cs) q.length) row0)), (20, .i (row0.length : Int)), (21, .i (0 : Int))] [] rfl rfl rfl ?_
      refine AW2_block ?_
      refine as2 [(1, .p ((fun q : List GColumn => AV.lst (q.flatMap GColumn.cs) q.length) cols1)), (19, .p ((fun q : List GValue => AV.lst (q.flatMap GValue.cs) q.length) row0)), (20, .i (row0.length : Int)), (21, .i (0 : Int))] [] rfl rfl rfl ?_
      refine bindK H fun o'8 h18 H => ?_
      refine AW2_loopO (fun a'5 : Int => (⟨[(1, .p ((fun q : List GColumn => AV.lst (q.flatMap GColumn.cs) q.length) cols1)), (19, .p ((fun q : List GValue => AV.lst (q.flatMap GValue.cs) q.length) row0)), (20, .i (row0.length : Int)), (21, .i a'5)], [], 58⟩ : TS)) (fun (o : Int ⊕ Unit) e s' => match o with | .inl y'6 => e = Go.Exit.ret ∧ ResAll Tryd.prog s' [ResultVar.tmp 4] [.i y'6] ∧ HFits s' [] | .inr (y'7) => e = Go.Exit.exit 0 ∧ s' = (⟨[], [], 58⟩ : TS)) h18 rfl (fun t21_0 x hx => ?_) (fun e s' hs => ?_)
      · clear H
        have H := hx
        clear hx
        unfold g_kinds_fits_l0 at H
        refine sg [0] rfl ?_
        refine rp rfl rfl (p_bin rfl rfl rfl rfl) ?_
        refine rz [(1, .p ((fun q : List GColumn => AV.lst (q.flatMap GColumn.cs) q.length) cols1)), (19, .p ((fun q : List GValue => AV.lst (q.flatMap GValue.cs) q.length) row0)), (20, .i (row0.length : Int)), (21, .i t21_0), (22, .b (decide (t21_0 < (row0.length : Int))))] [] rfl rfl rfl ?_
        refine AW2_seq ?_
        refine AW2_if (p := t21_0 < (row0.length : Int)) rfl (fun h4 => ?_) (fun h4 => ?_)
        · replace H := ite_then h4 H
          refine as2 [(1, .p ((fun q : List GColumn => AV.lst (q.flatMap GColumn.cs) q.length) cols1)), (19, .p ((fun q : List GValue => AV.lst (q.flatMap GValue.cs) q.length) row0)), (20, .i (row0.length : Int)), (21, .i t21_0)] [] rfl rfl rfl ?_
          refine AW2_skip ?_
          refine AW2_seq ?_
          refine AW2_block ?_
          refine sg [0, 1, 2, 3, 4, 5] rfl ?_
          refine rp rfl rfl (p_move rfl rfl) ?_
          refine chkK H fun h5 H => ?_
          refine rp rfl rfl (u_ixl rfl rfl Tryd.underlying38 in_29 rfl rfl (ixe h5) (ixn h5) (fne (fun x => (GValue.len x)) (by decide) (ixn h5))) ?_
          refine rp rfl rfl (u_lda rfl rfl Tryd.underlying29 rfl in_29 rfl (Nat.succ_pos _) (Sub.fm default (fun x => (GValue.len x)) (ixn h5)) (GValue.len (lrd row0 t21_0.toNat))) ?_
          refine r_op rfl rfl (MakeD.opD (u_alloc 7 rfl in_29 one_29 zc_29) rfl rfl rfl rfl) ?_
          refine rp rfl rfl (p_asg rfl rfl) ?_
          refine r_op rfl rfl (u_st rfl rfl rfl rfl rfl in_29 (GValue.len (lrd row0 t21_0.toNat)) (ne_of_lt (n := 0) (Nat.lt_of_lt_of_eq (by decide) (Eq.symm (GValue.len GValue.zero)))) (Upd.refl ((GValue.len (lrd row0 t21_0.toNat)).trans (GValue.len GValue.zero).symm))) ?_
          refine rz [(1, .p ((fun q : List GColumn => AV.lst (q.flatMap GColumn.cs) q.length) cols1)), (6, .i t21_0), (7, .q 7 (0)), (19, .p ((fun q : List GValue => AV.lst (q.flatMap GValue.cs) q.length) row0)), (20, .i (row0.length : Int)), (21, .i t21_0)] [(7, .pure (GValue.cs (lrd row0 t21_0.toNat)))] rfl rfl rfl ?_
          refine AW2_seq ?_
          refine sg [0, 1, 2] rfl ?_
          refine rp rfl rfl (u_lda rfl rfl Tryd.underlying29 rfl in_29 rfl (Nat.succ_pos _) (Sub.refl _) (GValue.len (lrd row0 t21_0.toNat))) ?_
          refine bindK H fun r'2 h6 H => ?_
          refine rp rfl rfl (p_callp rfl rfl rfl Tryd.func31 rfl rfl (g_value_Check_ac h6) ⟨rfl, trivial⟩) ?_
          refine rp rfl rfl (p_asg rfl rfl) ?_
          refine rz [(1, .p ((fun q : List GColumn => AV.lst (q.flatMap GColumn.cs) q.length) cols1)), (6, .i t21_0), (7, .q 7 (0)), (8, .i r'2), (19, .p ((fun q : List GValue => AV.lst (q.flatMap GValue.cs) q.length) row0)), (20, .i (row0.length : Int)), (21, .i t21_0)] [(7, .pure (GValue.cs (lrd row0 t21_0.toNat)))] rfl rfl rfl ?_
          refine sg [0, 1] rfl ?_
          refine rp rfl rfl (p_move rfl rfl) ?_
          refine rp rfl rfl (p_ine rfl rfl rfl) ?_
          refine rz [(1, .p ((fun q : List GColumn => AV.lst (q.flatMap GColumn.cs) q.length) cols1)), (6, .i t21_0), (7, .q 7 (0)), (8, .i r'2), (19, .p ((fun q : List GValue => AV.lst (q.flatMap GValue.cs) q.length) row0)), (20, .i (row0.length : Int)), (21, .i t21_0), (29, .b (decide (r'2 ≠ (0 : Int))))] [(7, .pure (GValue.cs (lrd row0 t21_0.toNat)))] rfl rfl rfl ?_
          refine AW2_if (p := r'2 ≠ (0 : Int)) rfl (fun h7 => ?_) (fun h7 => ?_)
          · replace H := ite_then h7 H
            refine sg [0, 1] rfl ?_
            refine rp rfl rfl (p_move rfl rfl) ?_
            refine rp rfl rfl (p_asg rfl rfl) ?_
            refine rz [(4, .i r'2)] [] rfl rfl rfl ?_
            refine AW2_ret ?_
            have hz := some_elim H
            subst hz
            exact ⟨rfl, ⟨res_tmp (.same _), trivial⟩, trivial⟩
          · replace H := ite_else h7 H
            refine as2 [(1, .p ((fun q : List GColumn => AV.lst (q.flatMap GColumn.cs) q.length) cols1)), (6, .i t21_0), (7, .q 7 (0)), (19, .p ((fun q : List GValue => AV.lst (q.flatMap GValue.cs) q.length) row0)), (20, .i (row0.length : Int)), (21, .i t21_0)] [(7, .pure (GValue.cs (lrd row0 t21_0.toNat)))] rfl rfl rfl ?_
            refine AW2_skip ?_
            refine AW2_block ?_
            refine AW2_seq ?_
            refine bindK H fun g'3 h11 H => ?_
            refine AW2_mid (⟨[(1, .p ((fun q : List GColumn => AV.lst (q.flatMap GColumn.cs) q.length) cols1)), (6, .i t21_0), (7, .q 7 (0)), (19, .p ((fun q : List GValue => AV.lst (q.flatMap GValue.cs) q.length) row0)), (20, .i (row0.length : Int)), (21, .i t21_0), (31, .b g'3)], [(7, .pure (GValue.cs (lrd row0 t21_0.toNat)))], 58⟩ : TS) ?_ ?_
            · clear H
              have H := h11
              clear h11
              refine AW2_reg [0, 1, 2, 3, 4, 5, 6, 7, 8, 9, 10, 11] rfl ?_
              refine rp rfl rfl (u_fa rfl rfl Tryd.underlying29 rfl in_3 (Nat.succ_ne_zero _) rfl rfl (ne_of_lt (n := 0) (Nat.lt_of_lt_of_eq (by decide) (Eq.symm (GValue.len (lrd row0 t21_0.toNat)))))) ?_
              refine rp rfl rfl (u_ld rfl rfl Tryd.underlying3 rfl rfl ((Sub.refl _).trans (GValue.sub0 (lrd row0 t21_0.toNat)))) ?_
              refine rp rfl rfl (p_ieq rfl rfl rfl) ?_
              refine rp rfl rfl (p_move rfl rfl) ?_
              refine (Classical.em ((lrd row0 t21_0.toNat).Kind = (0 : Int))).elim (fun h9 => ?_) (fun h9 => ?_)
              · replace H := ite_then h9 H
                refine r_on rfl rfl rfl rfl (decide_eq_true (p := (lrd row0 t21_0.toNat).Kind = (0 : Int)) h9) rfl (PureD.opD (p_move rfl rfl)) ?_
                refine r_on rfl rfl rfl rfl (decide_eq_true (p := (lrd row0 t21_0.toNat).Kind = (0 : Int)) h9) rfl (PureD.opD (p_move rfl rfl)) ?_
                refine chkK H fun h10 H => ?_
                refine r_on rfl rfl rfl rfl (decide_eq_true (p := (lrd row0 t21_0.toNat).Kind = (0 : Int)) h9) rfl (PureD.opD (u_ixl rfl rfl Tryd.underlying35 in_68 rfl rfl (ixe h10) (ixn h10) (fne (fun x => (GColumn.len x)) (by decide) (ixn h10)))) ?_
                refine r_on rfl rfl rfl rfl (decide_eq_true (p := (lrd row0 t21_0.toNat).Kind = (0 : Int)) h9) rfl (PureD.opD (u_far rfl rfl Tryd.underlying68 rfl in_4 (Nat.succ_ne_zero _) rfl)) ?_
                refine r_on rfl rfl rfl rfl (decide_eq_true (p := (lrd row0 t21_0.toNat).Kind = (0 : Int)) h9) rfl (PureD.opD (u_ld rfl rfl Tryd.underlying4 rfl rfl ((Sub.fm default (fun x => (GColumn.len x)) (ixn h10)).trans (GColumn.sub2 (lrd cols1 t21_0.toNat))))) ?_
                refine r_on rfl rfl rfl rfl (decide_eq_true (p := (lrd row0 t21_0.toNat).Kind = (0 : Int)) h9) rfl (PureD.opD (p_not rfl rfl)) ?_
                refine rp rfl rfl (p_pkt rfl rfl (decide_eq_true (p := (lrd row0 t21_0.toNat).Kind = (0 : Int)) h9) (.same _)) ?_
                refine rp rfl rfl (p_asg rfl rfl) ?_
                refine rs [(1, .p ((fun q : List GColumn => AV.lst (q.flatMap GColumn.cs) q.length) cols1)), (6, .i t21_0), (7, .q 7 (0)), (19, .p ((fun q : List GValue => AV.lst (q.flatMap GValue.cs) q.length) row0)), (20, .i (row0.length : Int)), (21, .i t21_0), (31, .b (!((lrd cols1 t21_0.toNat).Null)))] [(7, .pure (GValue.cs (lrd row0 t21_0.toNat)))] rfl rfl rfl ?_
                have hz := some_elim H
                subst hz
                exact RunW_nil rfl
              · replace H := ite_else h9 H
                refine r_off rfl rfl rfl rfl (decide_eq_false (p := (lrd row0 t21_0.toNat).Kind = (0 : Int)) h9) rfl rfl ?_
                refine r_off rfl rfl rfl rfl (decide_eq_false (p := (lrd row0 t21_0.toNat).Kind = (0 : Int)) h9) rfl rfl ?_
                refine r_off rfl rfl rfl rfl (decide_eq_false (p := (lrd row0 t21_0.toNat).Kind = (0 : Int)) h9) rfl rfl ?_
                refine r_off rfl rfl rfl rfl (decide_eq_false (p := (lrd row0 t21_0.toNat).Kind = (0 : Int)) h9) rfl rfl ?_
                refine r_off rfl rfl rfl rfl (decide_eq_false (p := (lrd row0 t21_0.toNat).Kind = (0 : Int)) h9) rfl rfl ?_
                refine r_off rfl rfl rfl rfl (decide_eq_false (p := (lrd row0 t21_0.toNat).Kind = (0 : Int)) h9) rfl rfl ?_
                refine rp rfl rfl (p_pkf rfl rfl (decide_eq_false (p := (lrd row0 t21_0.toNat).Kind = (0 : Int)) h9) (.same _)) ?_
                refine rp rfl rfl (p_asg rfl rfl) ?_
                refine rs [(1, .p ((fun q : List GColumn => AV.lst (q.flatMap GColumn.cs) q.length) cols1)), (6, .i t21_0), (7, .q 7 (0)), (19, .p ((fun q : List GValue => AV.lst (q.flatMap GValue.cs) q.length) row0)), (20, .i (row0.length : Int)), (21, .i t21_0), (31, .b false)] [(7, .pure (GValue.cs (lrd row0 t21_0.toNat)))] rfl rfl rfl ?_
                have hz := some_elim H
                subst hz
                exact RunW_nil rfl
            · refine AW2_cond rfl (fun h12 => ?_) (fun h12 => ?_)
              · replace H := ite_then h12 H
                refine sg [0] rfl ?_
                refine rp rfl rfl (p_asg rfl rfl) ?_
                refine rz [(4, .i (12 : Int))] [] rfl rfl rfl ?_
                refine AW2_ret ?_
                have hz := some_elim H
                subst hz
                exact ⟨rfl, ⟨res_tmp (.same _), trivial⟩, trivial⟩
              · replace H := ite_else (ne_true h12) H
                refine AW2_seq ?_
                refine bindK H fun g'4 h15 H => ?_
                refine AW2_mid (⟨[(1, .p ((fun q : List GColumn => AV.lst (q.flatMap GColumn.cs) q.length) cols1)), (19, .p ((fun q : List GValue => AV.lst (q.flatMap GValue.cs) q.length) row0)), (20, .i (row0.length : Int)), (21, .i t21_0), (43, .b g'4)], [], 58⟩ : TS) ?_ ?_
                · clear H
                  have H := h15
                  clear h15
                  refine (Classical.em ((lrd row0 t21_0.toNat).Kind ≠ (0 : Int))).elim (fun h13 => ?_) (fun h13 => ?_)
                  · replace H := ite_then h13 H
                    refine chkK H fun h14 H => ?_
                    have hz := some_elim H
                    subst hz
                    refine AW2_ghoQ ?_
                    refine AW2_draw 11 [11, 12, 13] (fun k => ([.q 7 (0 + 0), .i ((lrd row0 t21_0.toNat).Kind), .b (decide ((lrd row0 t21_0.toNat).Kind ≠ (0 : Int))), .b (decide ((lrd row0 t21_0.toNat).Kind ≠ (0 : Int))), .q 7 (0 + 0), .i ((lrd row0 t21_0.toNat).Kind), .p ((fun q : List GColumn => AV.lst (q.flatMap GColumn.cs) q.length) cols1), .i t21_0, .p (.rptr (cols1.flatMap GColumn.cs) (t21_0.toNat * 3)), .p (.rptr (cols1.flatMap GColumn.cs) (t21_0.toNat * 3 + 1)), .i ((lrd cols1 t21_0.toNat).Kind)] : List TV).getD k TV.any) (fun k => ([[(7, none)], [(44, some 0)], [(45, some 1)], [(46, some 2)], [(7, none), (47, some 3)], [(47, some 3), (48, some 4)], [(1, none), (47, some 3)], [(6, none), (47, some 3)], [(47, some 3), (50, some 6), (51, some 7)], [(47, some 3), (52, some 8)], [(47, some 3), (53, some 9)]] : List (List (Nat × Option Nat))).getD k []) [(1, none), (19, none), (20, none), (21, none), (47, some 3), (49, some 5), (54, some 10)] [] (fun k => ([[], [0], [0, 1], [0, 1, 2], [0, 1, 2, 3], [0, 1, 2, 3, 4], [0, 1, 2, 3], [0, 1, 2, 3], [0, 1, 2, 3, 6, 7], [0, 1, 2, 3, 6, 7, 8], [0, 1, 2, 3, 6, 7, 8, 9], [0, 1, 2, 3, 4, 5, 6, 7, 8, 9, 10], [0, 1, 2, 3, 4, 5, 6, 7, 8, 9, 10, 11], [0, 1, 2, 3, 4, 5, 6, 7, 8, 9, 10, 11, 12]] : List (List Nat)).getD k []) mixed (by kernel_rfl) rfl rfl (a_op (g_x rfl (x_p rfl (u_fa rfl rfl Tryd.underlying29 rfl in_3 (Nat.succ_ne_zero _) rfl rfl (ne_of_lt (n := 0) (Nat.lt_of_lt_of_eq (by decide) (Eq.symm (GValue.len (lrd row0 t21_0.toNat)))))) rfl)) (a_op (g_x rfl (x_p rfl (u_ld rfl rfl Tryd.underlying3 rfl rfl ((Sub.refl _).trans (GValue.sub0 (lrd row0 t21_0.toNat)))) rfl)) (a_op (g_x rfl (x_p rfl (p_ine rfl rfl rfl) rfl)) (a_op (g_x rfl (x_p rfl (p_move rfl rfl) rfl)) (a_op (g_on rfl rfl rfl (decide_eq_true (p := (lrd row0 t21_0.toNat).Kind ≠ (0 : Int)) h13) rfl (x_p rfl (u_fa rfl rfl Tryd.underlying29 rfl in_3 (Nat.succ_ne_zero _) rfl rfl (ne_of_lt (n := 0) (Nat.lt_of_lt_of_eq (by decide) (Eq.symm (GValue.len (lrd row0 t21_0.toNat)))))) rfl)) (a_op (g_on rfl rfl rfl (decide_eq_true (p := (lrd row0 t21_0.toNat).Kind ≠ (0 : Int)) h13) rfl (x_p rfl (u_ld rfl rfl Tryd.underlying3 rfl rfl ((Sub.refl _).trans (GValue.sub0 (lrd row0 t21_0.toNat)))) rfl)) (a_op (g_on rfl rfl rfl (decide_eq_true (p := (lrd row0 t21_0.toNat).Kind ≠ (0 : Int)) h13) rfl (x_p rfl (p_move rfl rfl) rfl)) (a_op (g_on rfl rfl rfl (decide_eq_true (p := (lrd row0 t21_0.toNat).Kind ≠ (0 : Int)) h13) rfl (x_p rfl (p_move rfl rfl) rfl)) (a_op (g_on rfl rfl rfl (decide_eq_true (p := (lrd row0 t21_0.toNat).Kind ≠ (0 : Int)) h13) rfl (x_p rfl (u_ixl rfl rfl Tryd.underlying35 in_68 rfl rfl (ixe h14) (ixn h14) (fne (fun x => (GColumn.len x)) (by decide) (ixn h14))) rfl)) (a_op (g_on rfl rfl rfl (decide_eq_true (p := (lrd row0 t21_0.toNat).Kind ≠ (0 : Int)) h13) rfl (x_p rfl (u_far rfl rfl Tryd.underlying68 rfl in_3 (Nat.succ_ne_zero _) rfl) rfl)) (a_op (g_on rfl rfl rfl (decide_eq_true (p := (lrd row0 t21_0.toNat).Kind ≠ (0 : Int)) h13) rfl (x_p rfl (u_ld rfl rfl Tryd.underlying3 rfl rfl ((Sub.fm default (fun x => (GColumn.len x)) (ixn h14)).trans (GColumn.sub1 (lrd cols1 t21_0.toNat)))) rfl)) (a_nil)))))))))))) ?_
                    refine t_on rfl rfl rfl rfl (decide_eq_true (p := (lrd row0 t21_0.toNat).Kind ≠ (0 : Int)) h13) rfl (PureD.opD (p_ine rfl rfl rfl)) ?_
                    refine t_op rfl rfl (PureD.opD (p_pkt rfl rfl (decide_eq_true (p := (lrd row0 t21_0.toNat).Kind ≠ (0 : Int)) h13) (.same _))) ?_
                    refine t_op rfl rfl (PureD.opD (p_asg rfl rfl)) ?_
                    refine t_gho (Gho_st (L := [(1, .p ((fun q : List GColumn => AV.lst (q.flatMap GColumn.cs) q.length) cols1)), (19, .p ((fun q : List GValue => AV.lst (q.flatMap GValue.cs) q.length) row0)), (20, .i (row0.length : Int)), (21, .i t21_0), (43, .b (decide ((lrd row0 t21_0.toNat).Kind ≠ (lrd cols1 t21_0.toNat).Kind)))]) (H := []) (N := 58) rfl ⟨TLes.same _, TLes.same _, TLes.same _, TLes.same _, TLes.same _, trivial⟩ trivial) ?_
                    exact rfl
                  · replace H := ite_else h13 H
                    have hz := some_elim H
                    subst hz
                    refine AW2_ghoQ ?_
                    refine AW2_draw 11 [11, 12, 13] (fun k => ([.q 7 (0 + 0), .i ((lrd row0 t21_0.toNat).Kind), .b (decide ((lrd row0 t21_0.toNat).Kind ≠ (0 : Int))), .b (decide ((lrd row0 t21_0.toNat).Kind ≠ (0 : Int))), .p (.tup []), .p (.tup []), .p (.tup []), .p (.tup []), .p (.tup []), .p (.tup []), .p (.tup [])] : List TV).getD k TV.any) (fun k => ([[(7, none)], [(44, some 0)], [(45, some 1)], [(46, some 2)], [(7, none), (47, some 3)], [(47, some 3), (48, some 4)], [(1, none), (47, some 3)], [(6, none), (47, some 3)], [(47, some 3), (50, some 6), (51, some 7)], [(47, some 3), (52, some 8)], [(47, some 3), (53, some 9)]] : List (List (Nat × Option Nat))).getD k []) [(1, none), (19, none), (20, none), (21, none), (47, some 3), (49, some 5), (54, some 10)] [] (fun k => ([[], [0], [0, 1], [0, 1, 2], [0, 1, 2, 3], [0, 1, 2, 3, 4], [0, 1, 2, 3], [0, 1, 2, 3], [0, 1, 2, 3, 6, 7], [0, 1, 2, 3, 6, 7, 8], [0, 1, 2, 3, 6, 7, 8, 9], [0, 1, 2, 3, 4, 5, 6, 7, 8, 9, 10], [0, 1, 2, 3, 4, 5, 6, 7, 8, 9, 10, 11], [0, 1, 2, 3, 4, 5, 6, 7, 8, 9, 10, 11, 12]] : List (List Nat)).getD k []) mixed (by kernel_rfl) rfl rfl (a_op (g_x rfl (x_p rfl (u_fa rfl rfl Tryd.underlying29 rfl in_3 (Nat.succ_ne_zero _) rfl rfl (ne_of_lt (n := 0) (Nat.lt_of_lt_of_eq (by decide) (Eq.symm (GValue.len (lrd row0 t21_0.toNat)))))) rfl)) (a_op (g_x rfl (x_p rfl (u_ld rfl rfl Tryd.underlying3 rfl rfl ((Sub.refl _).trans (GValue.sub0 (lrd row0 t21_0.toNat)))) rfl)) (a_op (g_x rfl (x_p rfl (p_ine rfl rfl rfl) rfl)) (a_op (g_x rfl (x_p rfl (p_move rfl rfl) rfl)) (a_op (g_off rfl rfl rfl rfl rfl (decide_eq_false (p := (lrd row0 t21_0.toNat).Kind ≠ (0 : Int)) h13) rfl rfl) (a_op (g_off rfl rfl rfl rfl rfl (decide_eq_false (p := (lrd row0 t21_0.toNat).Kind ≠ (0 : Int)) h13) rfl rfl) (a_op (g_off rfl rfl rfl rfl rfl (decide_eq_false (p := (lrd row0 t21_0.toNat).Kind ≠ (0 : Int)) h13) rfl rfl) (a_op (g_off rfl rfl rfl rfl rfl (decide_eq_false (p := (lrd row0 t21_0.toNat).Kind ≠ (0 : Int)) h13) rfl rfl) (a_op (g_off rfl rfl rfl rfl rfl (decide_eq_false (p := (lrd row0 t21_0.toNat).Kind ≠ (0 : Int)) h13) rfl rfl) (a_op (g_off rfl rfl rfl rfl rfl (decide_eq_false (p := (lrd row0 t21_0.toNat).Kind ≠ (0 : Int)) h13) rfl rfl) (a_op (g_off rfl rfl rfl rfl rfl (decide_eq_false (p := (lrd row0 t21_0.toNat).Kind ≠ (0 : Int)) h13) rfl rfl) (a_nil)))))))))))) ?_
                    refine t_off rfl rfl rfl rfl (decide_eq_false (p := (lrd row0 t21_0.toNat).Kind ≠ (0 : Int)) h13) rfl rfl ?_
                    refine t_op rfl rfl (PureD.opD (p_pkf rfl rfl (decide_eq_false (p := (lrd row0 t21_0.toNat).Kind ≠ (0 : Int)) h13) (.same _))) ?_
                    refine t_op rfl rfl (PureD.opD (p_asg rfl rfl)) ?_
                    refine t_gho (Gho_st (L := [(1, .p ((fun q : List GColumn => AV.lst (q.flatMap GColumn.cs) q.length) cols1)), (19, .p ((fun q : List GValue => AV.lst (q.flatMap GValue.cs) q.length) row0)), (20, .i (row0.length : Int)), (21, .i t21_0), (43, .b false)]) (H := []) (N := 58) rfl ⟨TLes.same _, TLes.same _, TLes.same _, TLes.same _, TLes.same _, trivial⟩ trivial) ?_
                    exact rfl
                · refine AW2_cond rfl (fun h16 => ?_) (fun h16 => ?_)
                  · replace H := ite_then h16 H
                    refine sg [0] rfl ?_
                    refine rp rfl rfl (p_asg rfl rfl) ?_
                    refine rz [(4, .i (2 : Int))] [] rfl rfl rfl ?_
                    refine AW2_ret ?_
                    have hz := some_elim H
                    subst hz
                    exact ⟨rfl, ⟨res_tmp (.same _), trivial⟩, trivial⟩
                  · replace H := ite_else (ne_true h16) H
                    refine as2 [(1, .p ((fun q : List GColumn => AV.lst (q.flatMap GColumn.cs) q.length) cols1)), (19, .p ((fun q : List GValue => AV.lst (q.flatMap GValue.cs) q.length) row0)), (20, .i (row0.length : Int)), (21, .i t21_0)] [] rfl rfl rfl ?_
                    refine AW2_skip ?_
                    refine AW2_reg [0, 1] rfl ?_
                    refine rp rfl rfl (p_bin rfl rfl rfl rfl) ?_
                    refine rp rfl rfl (p_move rfl rfl) ?_
                    refine rz [(1, .p ((fun q : List GColumn => AV.lst (q.flatMap GColumn.cs) q.length) cols1)), (19, .p ((fun q : List GValue => AV.lst (q.flatMap GValue.cs) q.length) row0)), (20, .i (row0.length : Int)), (21, .i (w64 (t21_0 + (1 : Int))))] [] rfl rfl rfl ?_
                    have hz := some_elim H
                    subst hz
                    exact ⟨rfl, rfl⟩
        · replace H := ite_else h4 H
          refine as2 [] [] rfl rfl rfl ?_
          refine AW2_exit ?_
          refine thenQ2_exit ?_
          have hz := some_elim H
          subst hz
          exact ⟨rfl, rfl⟩
      · rcases o'8 with y'9 | y'10
        · obtain ⟨rfl, hs⟩ := hs
          refine ⟨by simp, ?_⟩
          have hz := some_elim H
          subst hz
          exact ⟨hs.1, hs.2⟩
        · obtain ⟨rfl, rfl⟩ := hs
          refine ⟨by simp, ?_⟩
          refine blockQ2_exit ?_
          refine sg [0] rfl ?_
          refine rp rfl rfl (p_asg rfl rfl) ?_
          refine rz [(4, .i (0 : Int))] [] rfl rfl rfl ?_
          refine AW2_ret ?_
          have hz := some_elim H
          subst hz
          exact ⟨⟨res_tmp (.same _), trivial⟩, trivial⟩
end Go.Proofs.YtalnmpfjgiecdaaDoor.VM
