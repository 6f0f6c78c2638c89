/- Functions of the program, as they answer, and that their code comes to these answers. -/
import Derived.Test.YtcahembojhmpbaaDoorKm2
namespace Go.Proofs.YtcahembojhmpbaaDoor.VM
open Go Go.RowKit

set_option maxRecDepth 100000 in
theorem ty_3 {d : Nat} {cs : List AV} (h : Typed Tryd.prog d 3 cs) : ∃ x : Int, cs = [(AV.int x)] ∧ okI x := match d, h with
  | 0, h => False.elim h
  | d + 1, h => ty_int Tryd.underlying3 h
set_option maxRecDepth 100000 in
theorem ty_22 {d : Nat} {cs : List AV} (h : Typed Tryd.prog d 22 cs) : ∃ x : UInt64, cs = [(AV.u64 x)] ∧ okA x := match d, h with
  | 0, h => False.elim h
  | d + 1, h => ty_u64 Tryd.underlying22 h
set_option maxRecDepth 100000 in
theorem ty_9 {d : Nat} {cs : List AV} (h : Typed Tryd.prog d 9 cs) : ∃ x : List UInt8, cs = [(AV.txt x)] ∧ okT x := match d, h with
  | 0, h => False.elim h
  | d + 1, h => ty_text Tryd.underlying9 h
def GValue.ok (x : GValue) : Prop := okI x.Kind ∧ okI x.Int_ ∧ okA x.Bits ∧ okT x.Text
set_option maxRecDepth 100000 in
theorem ty_24 {d : Nat} {cs : List AV} (h : Typed Tryd.prog d 24 cs) : ∃ x : GValue, cs = GValue.cs x ∧ GValue.ok x := match d, h with
  | 0, h => False.elim h
  | d + 1, h => by
    obtain ⟨es, rfl, hl, hf⟩ := ty_struct Tryd.underlying24 h
    match es, hl, hf with
    | [e0, e1, e2, e3], _, hf =>
    obtain ⟨x0, h0, q0⟩ := ty_3 (hf 0 _ e0 rfl rfl)
    obtain ⟨x1, h1, q1⟩ := ty_3 (hf 1 _ e1 rfl rfl)
    obtain ⟨x2, h2, q2⟩ := ty_22 (hf 2 _ e2 rfl rfl)
    obtain ⟨x3, h3, q3⟩ := ty_9 (hf 3 _ e3 rfl rfl)
    refine ⟨⟨x0, x1, x2, x3⟩, ?_, ⟨q0, q1, q2, q3⟩⟩
    rw [h0, h1, h2, h3]
    simp only [List.flatten_cons, List.flatten_nil, List.append_nil, GValue.cs]
inductive GExpr.ok : GExpr → Prop
  | mk {x : GExpr} : okI x.Op → GValue.ok x.Value → okT x.Name → x.Args.length * 88 ≤ reachBytes → x.Args.length ≤ maxLen → (∀ y ∈ x.Args, GExpr.ok y) → GExpr.ok x
set_option maxRecDepth 100000 in
theorem ty_27_ (N : Nat) : ∀ (d : Nat) (cs : List AV), d ≤ N → Typed Tryd.prog d 27 cs → ∃ x : GExpr, cs = GExpr.cs x ∧ GExpr.ok x := by
  induction N with
  | zero =>
    intro d cs hd h
    obtain rfl : d = 0 := by omega
    exact False.elim h
  | succ N ih =>
    intro d cs hd h
    match d, hd, h with
    | 0, _, h => exact False.elim h
    | d + 1, hd, h =>
    obtain ⟨es, rfl, hl, hf⟩ := ty_struct Tryd.underlying27 h
    match es, hl, hf with
    | [e0, e1, e2, e3], _, hf =>
    obtain ⟨x0, h0, q0⟩ := ty_3 (hf 0 _ e0 rfl rfl)
    obtain ⟨x1, h1, q1⟩ := ty_24 (hf 1 _ e1 rfl rfl)
    obtain ⟨x2, h2, q2⟩ := ty_9 (hf 2 _ e2 rfl rfl)
    obtain ⟨x3, h3, q3⟩ : ∃ l : List GExpr, e3 = [.lst (l.flatMap GExpr.cs) l.length] ∧ okL 88 GExpr.ok l := by
      have h9 := hf 3 _ e3 rfl rfl
      match d, hd, h9 with
      | 0, _, h => exact False.elim h
      | k + 1, hd, h => exact ty_slicef (g := fun b : GExpr => GExpr.cs b) Tryd.underlying25 (bytes_of in_27) (fun x hx => ih k x (by omega) hx) h
    refine ⟨⟨x0, x1, x2, x3⟩, ?_, .mk q0 q1 q2 q3.1 q3.2.1 q3.2.2⟩
    rw [h0, h1, h2, h3, GExpr.cs_eq]
    simp only [List.flatten_cons, List.flatten_nil, List.append_nil]
theorem ty_27 {d : Nat} {cs : List AV} (h : Typed Tryd.prog d 27 cs) : ∃ x : GExpr, cs = GExpr.cs x ∧ GExpr.ok x := ty_27_ d d cs (Nat.le_refl _) h
set_option maxRecDepth 100000 in
theorem ty_4 {d : Nat} {cs : List AV} (h : Typed Tryd.prog d 4 cs) : ∃ x : Bool, cs = [(AV.bool x)] ∧ okA x := match d, h with
  | 0, h => False.elim h
  | d + 1, h => ty_bool Tryd.underlying4 h
def GColumn.ok (x : GColumn) : Prop := okT x.Name ∧ okI x.Kind ∧ okA x.Null
set_option maxRecDepth 100000 in
theorem ty_59 {d : Nat} {cs : List AV} (h : Typed Tryd.prog d 59 cs) : ∃ x : GColumn, cs = GColumn.cs x ∧ GColumn.ok x := match d, h with
  | 0, h => False.elim h
  | d + 1, h => by
    obtain ⟨es, rfl, hl, hf⟩ := ty_struct Tryd.underlying59 h
    match es, hl, hf with
    | [e0, e1, e2], _, hf =>
    obtain ⟨x0, h0, q0⟩ := ty_9 (hf 0 _ e0 rfl rfl)
    obtain ⟨x1, h1, q1⟩ := ty_3 (hf 1 _ e1 rfl rfl)
    obtain ⟨x2, h2, q2⟩ := ty_4 (hf 2 _ e2 rfl rfl)
    refine ⟨⟨x0, x1, x2⟩, ?_, ⟨q0, q1, q2⟩⟩
    rw [h0, h1, h2]
    simp only [List.flatten_cons, List.flatten_nil, List.append_nil, GColumn.cs]
set_option maxRecDepth 100000 in
theorem ty_28 {d : Nat} {cs : List AV} (h : Typed Tryd.prog d 28 cs) : ∃ x : List GColumn, cs = [((fun q : List GColumn => AV.lst (q.flatMap GColumn.cs) q.length) x)] ∧ (okL 32 GColumn.ok) x := match d, h with
  | 0, h => False.elim h
  | d + 1, h => ty_slicef (g := fun b : GColumn => GColumn.cs b) Tryd.underlying28 (bytes_of in_59) (fun _ hx => ty_59 hx) h

/-! chirographref.reach -/
noncomputable def g_ref_reach_l0 (s0 : List UInt8) (l1 : List UInt8) : Int → Option (Int ⊕ (Int))
  | n5_0 => ((if n5_0 < (s0.length : Int) then if 0 ≤ n5_0 ∧ n5_0 < (s0.length : Int) then (g_ref_among (lrd s0 n5_0.toNat) l1).bind fun r'1 => some r'1 else none else some false)).bind fun g'2 => (if g'2 = true then some (.inl (w64 (n5_0 + (1 : Int)))) else some (.inr n5_0))
noncomputable def g_ref_reach (s0 : List UInt8) (l1 : List UInt8) : Option (Int) :=
  (loopO (g_ref_reach_l0 s0 l1) (0 : Int)).bind fun y'6 => some y'6
set_option maxHeartbeats 4000000 in
set_option maxRecDepth 100000 in
theorem g_ref_reach_ac {s0 : List UInt8} {l1 : List UInt8} {r : Int} (H : g_ref_reach s0 l1 = some r) : ACp Tryd.prog 73 [(AV.txt s0), (AV.txt l1)] (AV.int r) := by
 refine ACp_of (AC2_of_body (vs := [.i r]) Tryd.func73 rfl rfl (Nat.le_of_ble_eq_true rfl) rfl ?_) (fun _ => .same _)
 unfold g_ref_reach at H
 refine as2 [(0, .t s0), (1, .t l1)] [] rfl rfl rfl ?_
 refine sg [0] rfl ?_
 refine rp rfl rfl (p_asg rfl rfl) ?_
 refine rz [(0, .t s0), (1, .t l1)] [] rfl rfl rfl ?_
 refine sg [0] rfl ?_
 refine rp rfl rfl (p_asg rfl rfl) ?_
 refine rz [(0, .t s0), (1, .t l1), (5, .i (0 : Int))] [] rfl rfl rfl ?_
 refine AW2_seq ?_
 refine AW2_block ?_
 refine as2 [(0, .t s0), (1, .t l1), (5, .i (0 : Int))] [] rfl rfl rfl ?_
 refine bindK H fun y'6 h8 H => ?_
 refine AW2_loopO (fun a'3 : Int => (⟨[(0, .t s0), (1, .t l1), (5, .i a'3)], [], 20⟩ : TS)) (fun (y'4 : Int) e s' => e = Go.Exit.exit 0 ∧ s' = (⟨[(5, .i y'4)], [], 20⟩ : TS)) h8 rfl (fun n5_0 x hx => ?_) (fun e s' hs => ?_)
 ·clear H
  have H := hx
  clear hx
  unfold g_ref_reach_l0 at H
  refine AW2_seq ?_
  refine AW2_seq ?_
  refine bindK H fun g'2 h5 H => ?_
  refine AW2_mid (⟨[(0, .t s0), (1, .t l1), (5, .i n5_0), (16, .b g'2)], [], 20⟩ : TS) ?_ ?_
  ·clear H
   have H := h5
   clear h5
   refine AW2_reg [0, 1, 2, 3, 4, 5, 6, 7, 8, 9, 10] rfl ?_
   refine rp rfl rfl (p_move rfl rfl) ?_
   refine rp rfl rfl (p_move rfl rfl) ?_
   refine rp rfl rfl (p_lent rfl Tryd.underlying9 rfl) ?_
   refine rp rfl rfl (p_bin rfl rfl rfl rfl) ?_
   refine rp rfl rfl (p_move rfl rfl) ?_
   refine (Classical.em (n5_0 < (s0.length : Int))).elim (fun h2 => ?_) (fun h2 => ?_)
   ·replace H := ite_then h2 H
    refine r_on rfl rfl rfl rfl (decide_eq_true h2) rfl (PureD.opD (p_move rfl rfl)) ?_
    refine r_on rfl rfl rfl rfl (decide_eq_true h2) rfl (PureD.opD (p_move rfl rfl)) ?_
    refine chkK H fun h3 H => ?_
    refine r_on rfl rfl rfl rfl (decide_eq_true h2) rfl (PureD.opD (p_ixt rfl Tryd.underlying9 rfl rfl (ixe h3) (lrd_get (ixn h3)))) ?_
    refine r_on rfl rfl rfl rfl (decide_eq_true h2) rfl (PureD.opD (p_move rfl rfl)) ?_
    refine bindK H fun r'1 h4 H => ?_
    refine r_on rfl rfl rfl rfl (decide_eq_true h2) rfl (PureD.opD (p_callp rfl rfl rfl Tryd.func72 rfl rfl (g_ref_among_ac h4) ⟨rfl, rfl, trivial⟩)) ?_
    refine rp rfl rfl (p_pkt rfl rfl (decide_eq_true h2) (.same _)) ?_
    refine rs [(0, .t s0), (1, .t l1), (5, .i n5_0), (16, .b r'1)] [] rfl rfl rfl ?_
    have hz := some_elim H
    subst hz
    exact RunW_nil rfl
   ·replace H := ite_else h2 H
    refine r_off rfl rfl rfl rfl (decide_eq_false h2) rfl rfl ?_
    refine r_off rfl rfl rfl rfl (decide_eq_false h2) rfl rfl ?_
    refine r_off rfl rfl rfl rfl (decide_eq_false h2) rfl rfl ?_
    refine r_off rfl rfl rfl rfl (decide_eq_false h2) rfl rfl ?_
    refine r_off rfl rfl rfl rfl (decide_eq_false h2) rfl rfl ?_
    refine rp rfl rfl (p_pkf rfl rfl (decide_eq_false h2) (.same _)) ?_
    refine rs [(0, .t s0), (1, .t l1), (5, .i n5_0), (16, .b false)] [] rfl rfl rfl ?_
    have hz := some_elim H
    subst hz
    exact RunW_nil rfl
  ·refine AW2_cond rfl (fun h6 => ?_) (fun h6 => ?_)
   ·replace H := ite_then h6 H
    refine as2 [(0, .t s0), (1, .t l1), (5, .i n5_0)] [] rfl rfl rfl ?_
    refine AW2_skip ?_
    refine AW2_block ?_
    refine AW2_reg [0, 1, 2] rfl ?_
    refine rp rfl rfl (p_move rfl rfl) ?_
    refine rp rfl rfl (p_bin rfl rfl rfl rfl) ?_
    refine rp rfl rfl (p_asg rfl rfl) ?_
    refine rz [(0, .t s0), (1, .t l1), (5, .i (w64 (n5_0 + (1 : Int))))] [] rfl rfl rfl ?_
    have hz := some_elim H
    subst hz
    exact ⟨rfl, rfl⟩
   ·replace H := ite_else (ne_true h6) H
    refine as2 [(5, .i n5_0)] [] rfl rfl rfl ?_
    refine AW2_exit ?_
    refine thenQ2_exit ?_
    have hz := some_elim H
    subst hz
    exact ⟨rfl, rfl⟩
 ·obtain ⟨rfl, rfl⟩ := hs
  refine ⟨by simp, ?_⟩
  refine blockQ2_exit ?_
  refine sg [0, 1] rfl ?_
  refine rp rfl rfl (p_move rfl rfl) ?_
  refine rp rfl rfl (p_asg rfl rfl) ?_
  refine rz [(4, .i y'6)] [] rfl rfl rfl ?_
  refine AW2_ret ?_
  have hz := some_elim H
  subst hz
  exact ⟨⟨res_tmp (.same _), trivial⟩, trivial⟩

/-! chirographref.isName -/
def g_ref_isName_t0 : List UInt8 := [97, 98, 99, 100, 101, 102, 103, 104, 105, 106, 107, 108, 109, 110, 111, 112, 113, 114, 115, 116, 117, 118, 119, 120, 121, 122]
def g_ref_isName_t1 : List UInt8 := [97, 98, 99, 100, 101, 102, 103, 104, 105, 106, 107, 108, 109, 110, 111, 112, 113, 114, 115, 116, 117, 118, 119, 120, 121, 122, 48, 49, 50, 51, 52, 53, 54, 55, 56, 57, 95]
noncomputable def g_ref_isName (s0 : List UInt8) : Option (Bool) :=
  ((if s0 ≠ [] then if 0 < s0.length then (g_ref_among (lrd s0 0) g_ref_isName_t0).bind fun r'1 => (if r'1 = true then (g_ref_reach s0 g_ref_isName_t1).bind fun r'2 => some (decide (r'2 = (s0.length : Int))) else some false) else none else some false)).bind fun g'3 => some g'3
set_option maxHeartbeats 4000000 in
set_option maxRecDepth 100000 in
theorem g_ref_isName_ac {s0 : List UInt8} {r : Bool} (H : g_ref_isName s0 = some r) : ACp Tryd.prog 48 [(AV.txt s0)] (AV.bool r) := by
 refine ACp_of (AC2_of_body (vs := [.b r]) Tryd.func48 rfl rfl (Nat.le_of_ble_eq_true rfl) rfl ?_) (fun _ => .same _)
 unfold g_ref_isName at H
 refine as2 [(0, .t s0)] [] rfl rfl rfl ?_
 refine sg [0] rfl ?_
 refine rp rfl rfl (p_asg rfl rfl) ?_
 refine rz [(0, .t s0)] [] rfl rfl rfl ?_
 refine AW2_seq ?_
 refine bindK H fun g'3 h7 H => ?_
 refine AW2_mid (⟨[(2, .b g'3)], [], 17⟩ : TS) ?_ ?_
 ·clear H
  have H := h7
  clear h7
  refine AW2_reg [0, 1, 2, 3, 4, 5, 6, 7, 8, 9, 10, 11, 12, 13, 14] rfl ?_
  refine rp rfl rfl (p_move rfl rfl) ?_
  refine rp rfl rfl (p_sne rfl rfl rfl) ?_
  refine rp rfl rfl (p_move rfl rfl) ?_
  refine (Classical.em (s0 ≠ [])).elim (fun h2 => ?_) (fun h2 => ?_)
  ·replace H := ite_then h2 H
   refine r_on rfl rfl rfl rfl (decide_eq_true h2) rfl (PureD.opD (p_move rfl rfl)) ?_
   refine chkK H fun h3 H => ?_
   refine r_on rfl rfl rfl rfl (decide_eq_true h2) rfl (PureD.opD (p_ixt rfl Tryd.underlying9 rfl rfl rfl (lrd_get h3))) ?_
   refine bindK H fun r'1 h4 H => ?_
   refine r_on rfl rfl rfl rfl (decide_eq_true h2) rfl (PureD.opD (p_callp rfl rfl rfl Tryd.func72 rfl rfl (g_ref_among_ac h4) ⟨rfl, by kernel_rfl, trivial⟩)) ?_
   refine rp rfl rfl (p_pkt rfl rfl (decide_eq_true h2) (.same _)) ?_
   refine rp rfl rfl (p_move rfl rfl) ?_
   refine (Classical.em (r'1 = true)).elim (fun h5 => ?_) (fun h5 => ?_)
   ·replace H := ite_then h5 H
    refine rn rfl rfl rfl rfl h5 rfl (p_move rfl rfl) ?_
    refine bindK H fun r'2 h6 H => ?_
    refine rn rfl rfl rfl rfl h5 rfl (p_callp rfl rfl rfl Tryd.func73 rfl rfl (g_ref_reach_ac h6) ⟨rfl, by kernel_rfl, trivial⟩) ?_
    refine rn rfl rfl rfl rfl h5 rfl (p_move rfl rfl) ?_
    refine rn rfl rfl rfl rfl h5 rfl (p_lent rfl Tryd.underlying9 rfl) ?_
    refine rn rfl rfl rfl rfl h5 rfl (p_ieq rfl rfl rfl) ?_
    refine rp rfl rfl (p_pkt rfl rfl h5 (.same _)) ?_
    refine rp rfl rfl (p_asg rfl rfl) ?_
    refine rs [(2, .b (decide (r'2 = (s0.length : Int))))] [] rfl rfl rfl ?_
    have hz := some_elim H
    subst hz
    exact RunW_nil rfl
   ·replace H := ite_else h5 H
    refine r_off rfl rfl rfl rfl (bfalse h5) rfl rfl ?_
    refine r_off rfl rfl rfl rfl (bfalse h5) rfl rfl ?_
    refine r_off rfl rfl rfl rfl (bfalse h5) rfl rfl ?_
    refine r_off rfl rfl rfl rfl (bfalse h5) rfl rfl ?_
    refine r_off rfl rfl rfl rfl (bfalse h5) rfl rfl ?_
    refine rp rfl rfl (p_pkf rfl rfl (bfalse h5) (.same _)) ?_
    refine rp rfl rfl (p_asg rfl rfl) ?_
    refine rs [(2, .b false)] [] rfl rfl rfl ?_
    have hz := some_elim H
    subst hz
    exact RunW_nil rfl
  ·replace H := ite_else h2 H
   refine r_off rfl rfl rfl rfl (decide_eq_false h2) rfl rfl ?_
   refine r_off rfl rfl rfl rfl (decide_eq_false h2) rfl rfl ?_
   refine r_off rfl rfl rfl rfl (decide_eq_false h2) rfl rfl ?_
   refine rp rfl rfl (p_pkf rfl rfl (decide_eq_false h2) (.same _)) ?_
   refine rp rfl rfl (p_move rfl rfl) ?_
   refine r_off rfl rfl rfl rfl (bfalse (by decide)) rfl rfl ?_
   refine r_off rfl rfl rfl rfl (bfalse (by decide)) rfl rfl ?_
   refine r_off rfl rfl rfl rfl (bfalse (by decide)) rfl rfl ?_
   refine r_off rfl rfl rfl rfl (bfalse (by decide)) rfl rfl ?_
   refine r_off rfl rfl rfl rfl (bfalse (by decide)) rfl rfl ?_
   refine rp rfl rfl (p_pkf rfl rfl (bfalse (by decide)) (.same _)) ?_
   refine rp rfl rfl (p_asg rfl rfl) ?_
   refine rs [(2, .b false)] [] rfl rfl rfl ?_
   have hz := some_elim H
   subst hz
   exact RunW_nil rfl
 ·refine AW2_ret ?_
  have hz := some_elim H
  subst hz
  exact ⟨⟨res_tmp (.same _), trivial⟩, trivial⟩

/-! chirographref.nodeFault -/
def g_ref_nodeFault_r4 : List (List (Nat × Option Nat)) := [[(1, none)], [(19, some 0)], [(20, some 1)], [(3, none)], [(1, none)], [(23, some 4)], [(22, some 3), (24, some 5)], [(25, some 6)]]
def g_ref_nodeFault_r4c : List (List Nat) := [[], [0], [0, 1], [], [], [4], [3, 4, 5], [3, 4, 5, 6], [0, 1, 2, 3, 4, 5, 6, 7], [0, 1, 2, 3, 4, 5, 6, 7, 8]]
noncomputable def g_ref_nodeFault_l0 (e0 : GExpr) (R' : GExpr → Option Int) : Int → Option (Int ⊕ (Int ⊕ Unit))
  | t87_0 => (if t87_0 < (e0.Args.length : Int) then if 0 ≤ t87_0 ∧ t87_0 < (e0.Args.length : Int) then (R' (lrd e0.Args t87_0.toNat)).bind fun r'9 => (if r'9 ≠ (0 : Int) then some (.inr (.inl r'9)) else some (.inl (w64 (t87_0 + (1 : Int))))) else none else some (.inr (.inr ())))
noncomputable def g_ref_nodeFault_b (R' : GExpr → Option Int) (e0 : GExpr) : Option (Int) :=
  letO (([(0 : Int), (0 : Int), (0 : Int), (1 : Int), (1 : Int), (2 : Int), (2 : Int), (2 : Int), (2 : Int), (2 : Int), (2 : Int), (2 : Int), (2 : Int), (2 : Int), (2 : Int), (2 : Int), (2 : Int), (1 : Int), (1 : Int), (2 : Int), (2 : Int)] : List Int)) fun want3'1 => (if (e0.Op < (1 : Int)) ∨ (e0.Op ≥ (want3'1.length : Int)) then some (2 : Int) else if 0 ≤ e0.Op ∧ e0.Op < (want3'1.length : Int) then ((if e0.Op = (1 : Int) then ((if (e0.Args.length : Int) = (lrd want3'1 e0.Op.toNat) then (if e0.Name = [] then (g_ref_ValueFault e0.Value).bind fun r'4 => (if r'4 = (0 : Int) then some (decide (e0.Value.Int_ ≥ (0 : Int))) else some false) else some false) else some false)).bind fun g'5 => some g'5 else (if e0.Op = (2 : Int) then ((if (e0.Args.length : Int) = (lrd want3'1 e0.Op.toNat) then (if e0.Value = GValue.zero then (g_ref_isName e0.Name).bind fun r'7 => (if r'7 = true then some (decide ((e0.Name.length : Int) ≤ (8 : Int))) else some false) else some false) else some false)).bind fun g'8 => some g'8 else some (decide ((((e0.Args.length : Int) = (lrd want3'1 e0.Op.toNat)) ∧ (e0.Name = [])) ∧ (e0.Value = GValue.zero)))))).bind fun j'2 => (if (!j'2) = true then some (3 : Int) else (loopO (g_ref_nodeFault_l0 e0 R') (0 : Int)).bind fun o'13 => match o'13 with | .inl y'14 => some y'14 | .inr (y'15) => some (0 : Int)) else none)
noncomputable def g_ref_nodeFault : Nat → GExpr → Option Int
  | 0, _ => none
  | fu + 1, e0 => g_ref_nodeFault_b (g_ref_nodeFault fu) e0
set_option maxHeartbeats 4000000 in
set_option maxRecDepth 100000 in
theorem g_ref_nodeFault_ac0 {R' : GExpr → Option Int} (hR : ∀ {e0 : GExpr} {r : Int}, R' e0 = some r → ACp Tryd.prog 47 [(.agg (GExpr.cs e0))] (AV.int r)) {e0 : GExpr} {r : Int} (H : g_ref_nodeFault_b R' e0 = some r) : ACp Tryd.prog 47 [(.agg (GExpr.cs e0))] (AV.int r) := by
 refine ACp_of (AC2_of_body (vs := [.i r]) Tryd.func47 rfl rfl (Nat.le_of_ble_eq_true rfl) rfl ?_) (fun _ => .same _)
 unfold g_ref_nodeFault_b at H
 refine as2 [(0, .g (GExpr.cs e0))] [] rfl rfl rfl ?_
 refine sg [0, 1] rfl ?_
 refine r_op rfl rfl (MakeD.opD (n_box 1 rfl rfl) rfl rfl rfl rfl) ?_
 refine rp rfl rfl (p_asg rfl rfl) ?_
 refine rz [(1, .q 1 (0))] [(1, .pure (GExpr.cs e0))] rfl rfl rfl ?_
 refine sg [0, 1] rfl ?_
 refine r_op rfl rfl (MakeD.opD (u_bs 8 rfl Tryd.underlying76 in_3 rfl one_3 (by decide) (by decide) rfl rfl rfl) rfl rfl rfl rfl) ?_
 refine rp rfl rfl (p_asg rfl rfl) ?_
 refine RunW_st [(1, .q 1 (0)), (3, .c (.own 8 ([(0 : Int), (0 : Int), (0 : Int), (1 : Int), (1 : Int), (2 : Int), (2 : Int), (2 : Int), (2 : Int), (2 : Int), (2 : Int), (2 : Int), (2 : Int), (2 : Int), (2 : Int), (2 : Int), (2 : Int), (1 : Int), (1 : Int), (2 : Int), (2 : Int)] : List Int).length 1))] [(1, .pure (GExpr.cs e0)), (8, .pure (([(0 : Int), (0 : Int), (0 : Int), (1 : Int), (1 : Int), (2 : Int), (2 : Int), (2 : Int), (2 : Int), (2 : Int), (2 : Int), (2 : Int), (2 : Int), (2 : Int), (2 : Int), (2 : Int), (2 : Int), (1 : Int), (1 : Int), (2 : Int), (2 : Int)] : List Int).map AV.int))] rfl ⟨TLes.same _, TLes.own rfl, trivial⟩ ⟨rfl, rfl, trivial⟩ ?_
 refine RunW_gho (Gho_ren 8 3 rfl rfl rfl rfl rfl) ?_
 refine rz [(1, .q 1 (0)), (3, .c (.own 3 ([(0 : Int), (0 : Int), (0 : Int), (1 : Int), (1 : Int), (2 : Int), (2 : Int), (2 : Int), (2 : Int), (2 : Int), (2 : Int), (2 : Int), (2 : Int), (2 : Int), (2 : Int), (2 : Int), (2 : Int), (1 : Int), (1 : Int), (2 : Int), (2 : Int)] : List Int).length 1))] [(1, .pure (GExpr.cs e0)), (3, .pure (([(0 : Int), (0 : Int), (0 : Int), (1 : Int), (1 : Int), (2 : Int), (2 : Int), (2 : Int), (2 : Int), (2 : Int), (2 : Int), (2 : Int), (2 : Int), (2 : Int), (2 : Int), (2 : Int), (2 : Int), (1 : Int), (1 : Int), (2 : Int), (2 : Int)] : List Int).map AV.int))] rfl rfl rfl ?_
 refine gen1 (fun want3'1 => (⟨[(1, .q 1 (0)), (3, .c (.own 3 want3'1.length 1))], [(1, .pure (GExpr.cs e0)), (3, .pure (want3'1.map AV.int))], 97⟩ : TS)) H ?_
 intro want3'1 H
 refine AW2_seq ?_
 refine AW2_seq ?_
 refine AW2_mid (⟨[(1, .q 1 (0)), (3, .c (.own 3 want3'1.length 1)), (18, .b (decide ((e0.Op < (1 : Int)) ∨ (e0.Op ≥ (want3'1.length : Int)))))], [(1, .pure (GExpr.cs e0)), (3, .pure (want3'1.map AV.int))], 97⟩ : TS) ?_ ?_
 ·refine AW2_reg [0, 1, 2, 3, 4, 5, 6, 7, 8, 9] rfl ?_
  refine rp rfl rfl (u_fa rfl rfl Tryd.underlying27 rfl in_3 (Nat.succ_ne_zero _) rfl rfl (ne_of_lt (n := 0) (Nat.lt_of_lt_of_eq (by decide) (Eq.symm (GExpr.len e0))))) ?_
  refine rp rfl rfl (u_ld rfl rfl Tryd.underlying3 rfl rfl ((Sub.refl _).trans (GExpr.sub0 e0))) ?_
  refine rp rfl rfl (p_bin rfl rfl rfl rfl) ?_
  refine rp rfl rfl (p_move rfl rfl) ?_
  refine (Classical.em (e0.Op < (1 : Int))).elim (fun h1 => ?_) (fun h1 => ?_)
  ·refine r_off rfl rfl rfl rfl (decide_eq_true h1) rfl rfl ?_
   refine r_off rfl rfl rfl rfl (decide_eq_true h1) rfl rfl ?_
   refine r_off rfl rfl rfl rfl (decide_eq_true h1) rfl rfl ?_
   refine r_off rfl rfl rfl rfl (decide_eq_true h1) rfl rfl ?_
   refine r_off rfl rfl rfl rfl (decide_eq_true h1) rfl rfl ?_
   refine rp rfl rfl (p_pkt rfl rfl (decide_eq_true h1) (tb (decide_eq_true (p := (e0.Op < (1 : Int)) ∨ (e0.Op ≥ (want3'1.length : Int))) (Or.inl h1)).symm)) ?_
   refine rs [(1, .q 1 (0)), (3, .c (.own 3 want3'1.length 1)), (18, .b (decide ((e0.Op < (1 : Int)) ∨ (e0.Op ≥ (want3'1.length : Int)))))] [(1, .pure (GExpr.cs e0)), (3, .pure (want3'1.map AV.int))] rfl rfl rfl ?_
   exact RunW_nil rfl
  ·refine r_on rfl rfl rfl rfl (decide_eq_false h1) rfl (PureD.opD (u_fa rfl rfl Tryd.underlying27 rfl in_3 (Nat.succ_ne_zero _) rfl rfl (ne_of_lt (n := 0) (Nat.lt_of_lt_of_eq (by decide) (Eq.symm (GExpr.len e0)))))) ?_
   refine r_on rfl rfl rfl rfl (decide_eq_false h1) rfl (PureD.opD (u_ld rfl rfl Tryd.underlying3 rfl rfl ((Sub.refl _).trans (GExpr.sub0 e0)))) ?_
   refine r_on rfl rfl rfl rfl (decide_eq_false h1) rfl (PureD.opD (p_move rfl rfl)) ?_
   refine r_on rfl rfl rfl rfl (decide_eq_false h1) rfl (PureD.opD (p_leno rfl Tryd.underlying76 rfl rfl rfl (ml AV.int want3'1) (by decide))) ?_
   refine r_on rfl rfl rfl rfl (decide_eq_false h1) rfl (PureD.opD (p_bin rfl rfl rfl rfl)) ?_
   refine rp rfl rfl (p_pkf rfl rfl (decide_eq_false h1) (tb ((or_l (p := e0.Op < (1 : Int)) (q := e0.Op ≥ (want3'1.length : Int)) h1)))) ?_
   refine rs [(1, .q 1 (0)), (3, .c (.own 3 want3'1.length 1)), (18, .b (decide ((e0.Op < (1 : Int)) ∨ (e0.Op ≥ (want3'1.length : Int)))))] [(1, .pure (GExpr.cs e0)), (3, .pure (want3'1.map AV.int))] rfl rfl rfl ?_
   exact RunW_nil rfl
 ·refine AW2_if (p := (e0.Op < (1 : Int)) ∨ (e0.Op ≥ (want3'1.length : Int))) rfl (fun h2 => ?_) (fun h2 => ?_)
  ·replace H := ite_then h2 H
   refine sg [0] rfl ?_
   refine rp rfl rfl (p_asg rfl rfl) ?_
   refine rz [(2, .i (2 : Int))] [] rfl rfl rfl ?_
   refine AW2_ret ?_
   have hz := some_elim H
   subst hz
   exact ⟨⟨res_tmp (.same _), trivial⟩, trivial⟩
  ·replace H := ite_else h2 H
   refine as2 [(1, .q 1 (0)), (3, .c (.own 3 want3'1.length 1))] [(1, .pure (GExpr.cs e0)), (3, .pure (want3'1.map AV.int))] rfl rfl rfl ?_
   refine AW2_skip ?_
   refine AW2_seq ?_
   refine chkK H fun h3 H => ?_
   refine AW2_ghoQ ?_
   refine AW2_draw 8 [8, 9] (fun k => ([.q 1 (0 + 6), .p ((fun q : List GExpr => AV.lst (q.flatMap GExpr.cs) q.length) e0.Args), .i (e0.Args.length : Int), .c (.own 3 want3'1.length 1), .q 1 (0 + 0), .i e0.Op, .q 3 (0 + e0.Op.toNat * 1), .i (lrd want3'1 e0.Op.toNat)] : List TV).getD k TV.any) (fun k => g_ref_nodeFault_r4.getD k []) [(1, none), (21, some 2), (26, some 7)] [] (fun k => g_ref_nodeFault_r4c.getD k []) mixed (by kernel_rfl) rfl rfl (a_op (g_x rfl (x_p rfl (u_fa rfl rfl Tryd.underlying27 rfl in_25 (Nat.succ_ne_zero _) rfl rfl (ne_of_lt (n := 0) (Nat.lt_of_lt_of_eq (by decide) (Eq.symm (GExpr.len e0))))) rfl)) (a_op (g_x rfl (x_p rfl (u_ld rfl rfl Tryd.underlying25 rfl rfl ((Sub.refl _).trans (GExpr.sub3 e0))) rfl)) (a_op (g_x rfl (x_p rfl (p_lenl rfl Tryd.underlying25 rfl rfl) rfl)) (a_op (g_x rfl (x_p rfl (p_move rfl rfl) rfl)) (a_op (g_x rfl (x_p rfl (u_fa rfl rfl Tryd.underlying27 rfl in_3 (Nat.succ_ne_zero _) rfl rfl (ne_of_lt (n := 0) (Nat.lt_of_lt_of_eq (by decide) (Eq.symm (GExpr.len e0))))) rfl)) (a_op (g_x rfl (x_p rfl (u_ld rfl rfl Tryd.underlying3 rfl rfl ((Sub.refl _).trans (GExpr.sub0 e0))) rfl)) (a_op (g_x rfl (x_p rfl (u_ixo rfl rfl Tryd.underlying76 in_3 rfl rfl (lne (ixn h3)) rfl (ixe h3) (ixn h3)) rfl)) (a_op (g_x rfl (x_p rfl (u_ld rfl rfl Tryd.underlying3 rfl rfl ((Sub.refl _).trans (Sub.map default (ixn h3)))) rfl)) (a_nil))))))))) ?_
   refine t_op rfl rfl (PureD.opD (p_ieq rfl rfl rfl)) ?_
   refine t_op rfl rfl (PureD.opD (p_asg rfl rfl)) ?_
   refine t_gho (Gho_st (L := [(1, .q 1 (0)), (4, .b (decide ((e0.Args.length : Int) = (lrd want3'1 e0.Op.toNat))))]) (H := [(1, .pure (GExpr.cs e0))]) (N := 97) rfl ⟨TLes.same _, TLes.same _, trivial⟩ ⟨rfl, trivial⟩) ?_
   refine AW2_seq ?_
   refine bindK H fun j'2 h4 H => ?_
   refine AW2_mid (⟨[(1, .q 1 (0)), (4, .b j'2)], [(1, .pure (GExpr.cs e0))], 97⟩ : TS) ?_ ?_
   ·clear H
    have H := h4
    clear h4
    refine sg [0, 1] rfl ?_
    refine rp rfl rfl (u_fa rfl rfl Tryd.underlying27 rfl in_3 (Nat.succ_ne_zero _) rfl rfl (ne_of_lt (n := 0) (Nat.lt_of_lt_of_eq (by decide) (Eq.symm (GExpr.len e0))))) ?_
    refine rp rfl rfl (u_ld rfl rfl Tryd.underlying3 rfl rfl ((Sub.refl _).trans (GExpr.sub0 e0))) ?_
    refine rz [(1, .q 1 (0)), (4, .b (decide ((e0.Args.length : Int) = (lrd want3'1 e0.Op.toNat)))), (29, .i e0.Op)] [(1, .pure (GExpr.cs e0))] rfl rfl rfl ?_
    refine AW2_block ?_
    refine sg [0, 1] rfl ?_
    refine rp rfl rfl (p_ieq rfl rfl rfl) ?_
    refine rp rfl rfl (p_asg rfl rfl) ?_
    refine rz [(1, .q 1 (0)), (4, .b (decide ((e0.Args.length : Int) = (lrd want3'1 e0.Op.toNat)))), (29, .i e0.Op), (42, .b (decide (e0.Op = (1 : Int))))] [(1, .pure (GExpr.cs e0))] rfl rfl rfl ?_
    refine AW2_if (p := e0.Op = (1 : Int)) rfl (fun h5 => ?_) (fun h5 => ?_)
    ·replace H := ite_then h5 H
     refine bindK H fun g'5 h11 H => ?_
     refine AW2_mid (⟨[(1, .q 1 (0)), (4, .b g'5)], [(1, .pure (GExpr.cs e0))], 97⟩ : TS) ?_ ?_
     ·clear H
      have H := h11
      clear h11
      refine AW2_reg [0, 1, 2, 3, 4, 5, 6, 7, 8, 9, 10, 11, 12, 13, 14, 15, 16, 17, 18] rfl ?_
      refine rp rfl rfl (p_move rfl rfl) ?_
      refine rp rfl rfl (p_move rfl rfl) ?_
      refine (Classical.em ((e0.Args.length : Int) = (lrd want3'1 e0.Op.toNat))).elim (fun h7 => ?_) (fun h7 => ?_)
      ·replace H := ite_then h7 H
       refine r_on rfl rfl rfl rfl (decide_eq_true h7) rfl (PureD.opD (u_fa rfl rfl Tryd.underlying27 rfl in_9 (Nat.succ_ne_zero _) rfl rfl (ne_of_lt (n := 0) (Nat.lt_of_lt_of_eq (by decide) (Eq.symm (GExpr.len e0)))))) ?_
       refine r_on rfl rfl rfl rfl (decide_eq_true h7) rfl (PureD.opD (u_ld rfl rfl Tryd.underlying9 rfl rfl ((Sub.refl _).trans (GExpr.sub2 e0)))) ?_
       refine r_on rfl rfl rfl rfl (decide_eq_true h7) rfl (PureD.opD (p_seq rfl rfl rfl)) ?_
       refine rp rfl rfl (p_pkt rfl rfl (decide_eq_true h7) (.same _)) ?_
       refine rp rfl rfl (p_move rfl rfl) ?_
       refine (Classical.em (e0.Name = [])).elim (fun h8 => ?_) (fun h8 => ?_)
       ·replace H := ite_then h8 H
        refine r_on rfl rfl rfl rfl (decide_eq_true h8) rfl (PureD.opD (u_fa rfl rfl Tryd.underlying27 rfl in_24 (Nat.succ_ne_zero _) rfl rfl (ne_of_lt (n := 0) (Nat.lt_of_lt_of_eq (by decide) (Eq.symm (GExpr.len e0)))))) ?_
        refine r_on rfl rfl rfl rfl (decide_eq_true h8) rfl (PureD.opD (u_lda rfl rfl Tryd.underlying24 rfl in_24 rfl (Nat.succ_pos _) ((Sub.refl _).trans (GExpr.sub1 e0)) (GValue.len e0.Value))) ?_
        refine bindK H fun r'4 h9 H => ?_
        refine r_on rfl rfl rfl rfl (decide_eq_true h8) rfl (PureD.opD (p_callp rfl rfl rfl Tryd.func35 rfl rfl (g_ref_ValueFault_ac h9) ⟨rfl, trivial⟩)) ?_
        refine r_on rfl rfl rfl rfl (decide_eq_true h8) rfl (PureD.opD (p_ieq rfl rfl rfl)) ?_
        refine rp rfl rfl (p_pkt rfl rfl (decide_eq_true h8) (.same _)) ?_
        refine rp rfl rfl (p_move rfl rfl) ?_
        refine (Classical.em (r'4 = (0 : Int))).elim (fun h10 => ?_) (fun h10 => ?_)
        ·replace H := ite_then h10 H
         refine r_on rfl rfl rfl rfl (decide_eq_true h10) rfl (PureD.opD (u_fa rfl rfl Tryd.underlying27 rfl in_24 (Nat.succ_ne_zero _) rfl rfl (ne_of_lt (n := 0) (Nat.lt_of_lt_of_eq (by decide) (Eq.symm (GExpr.len e0)))))) ?_
         refine r_on rfl rfl rfl rfl (decide_eq_true h10) rfl (PureD.opD (u_fa rfl rfl Tryd.underlying24 rfl in_3 (Nat.succ_ne_zero _) rfl rfl (ne_of_lt (n := 0) (Nat.lt_of_lt_of_eq (by decide) (Eq.symm (GExpr.len e0)))))) ?_
         refine r_on rfl rfl rfl rfl (decide_eq_true h10) rfl (PureD.opD (u_ld rfl rfl Tryd.underlying3 rfl rfl (((Sub.refl _).trans (GExpr.sub1 e0)).trans (GValue.sub1 e0.Value)))) ?_
         refine r_on rfl rfl rfl rfl (decide_eq_true h10) rfl (PureD.opD (p_bin rfl rfl rfl rfl)) ?_
         refine rp rfl rfl (p_pkt rfl rfl (decide_eq_true h10) (.same _)) ?_
         refine rp rfl rfl (p_asg rfl rfl) ?_
         refine rs [(1, .q 1 (0)), (4, .b (decide (e0.Value.Int_ ≥ (0 : Int))))] [(1, .pure (GExpr.cs e0))] rfl rfl rfl ?_
         have hz := some_elim H
         subst hz
         exact RunW_nil rfl
        ·replace H := ite_else h10 H
         refine r_off rfl rfl rfl rfl (decide_eq_false h10) rfl rfl ?_
         refine r_off rfl rfl rfl rfl (decide_eq_false h10) rfl rfl ?_
         refine r_off rfl rfl rfl rfl (decide_eq_false h10) rfl rfl ?_
         refine r_off rfl rfl rfl rfl (decide_eq_false h10) rfl rfl ?_
         refine rp rfl rfl (p_pkf rfl rfl (decide_eq_false h10) (.same _)) ?_
         refine rp rfl rfl (p_asg rfl rfl) ?_
         refine rs [(1, .q 1 (0)), (4, .b false)] [(1, .pure (GExpr.cs e0))] rfl rfl rfl ?_
         have hz := some_elim H
         subst hz
         exact RunW_nil rfl
       ·replace H := ite_else h8 H
        refine r_off rfl rfl rfl rfl (decide_eq_false h8) rfl rfl ?_
        refine r_off rfl rfl rfl rfl (decide_eq_false h8) rfl rfl ?_
        refine r_off rfl rfl rfl rfl (decide_eq_false h8) rfl rfl ?_
        refine r_off rfl rfl rfl rfl (decide_eq_false h8) rfl rfl ?_
        refine rp rfl rfl (p_pkf rfl rfl (decide_eq_false h8) (.same _)) ?_
        refine rp rfl rfl (p_move rfl rfl) ?_
        refine r_off rfl rfl rfl rfl (bfalse (by decide)) rfl rfl ?_
        refine r_off rfl rfl rfl rfl (bfalse (by decide)) rfl rfl ?_
        refine r_off rfl rfl rfl rfl (bfalse (by decide)) rfl rfl ?_
        refine r_off rfl rfl rfl rfl (bfalse (by decide)) rfl rfl ?_
        refine rp rfl rfl (p_pkf rfl rfl (bfalse (by decide)) (.same _)) ?_
        refine rp rfl rfl (p_asg rfl rfl) ?_
        refine rs [(1, .q 1 (0)), (4, .b false)] [(1, .pure (GExpr.cs e0))] rfl rfl rfl ?_
        have hz := some_elim H
        subst hz
        exact RunW_nil rfl
      ·replace H := ite_else h7 H
       refine r_off rfl rfl rfl rfl (decide_eq_false h7) rfl rfl ?_
       refine r_off rfl rfl rfl rfl (decide_eq_false h7) rfl rfl ?_
       refine r_off rfl rfl rfl rfl (decide_eq_false h7) rfl rfl ?_
       refine rp rfl rfl (p_pkf rfl rfl (decide_eq_false h7) (.same _)) ?_
       refine rp rfl rfl (p_move rfl rfl) ?_
       refine r_off rfl rfl rfl rfl (bfalse (by decide)) rfl rfl ?_
       refine r_off rfl rfl rfl rfl (bfalse (by decide)) rfl rfl ?_
       refine r_off rfl rfl rfl rfl (bfalse (by decide)) rfl rfl ?_
       refine r_off rfl rfl rfl rfl (bfalse (by decide)) rfl rfl ?_
       refine rp rfl rfl (p_pkf rfl rfl (bfalse (by decide)) (.same _)) ?_
       refine rp rfl rfl (p_move rfl rfl) ?_
       refine r_off rfl rfl rfl rfl (bfalse (by decide)) rfl rfl ?_
       refine r_off rfl rfl rfl rfl (bfalse (by decide)) rfl rfl ?_
       refine r_off rfl rfl rfl rfl (bfalse (by decide)) rfl rfl ?_
       refine r_off rfl rfl rfl rfl (bfalse (by decide)) rfl rfl ?_
       refine rp rfl rfl (p_pkf rfl rfl (bfalse (by decide)) (.same _)) ?_
       refine rp rfl rfl (p_asg rfl rfl) ?_
       refine rs [(1, .q 1 (0)), (4, .b false)] [(1, .pure (GExpr.cs e0))] rfl rfl rfl ?_
       have hz := some_elim H
       subst hz
       exact RunW_nil rfl
     ·have hz := some_elim H
      subst hz
      exact rfl
    ·replace H := ite_else h5 H
     refine sg [0, 1] rfl ?_
     refine rp rfl rfl (p_ieq rfl rfl rfl) ?_
     refine rp rfl rfl (p_asg rfl rfl) ?_
     refine rz [(1, .q 1 (0)), (4, .b (decide ((e0.Args.length : Int) = (lrd want3'1 e0.Op.toNat)))), (62, .b (decide (e0.Op = (2 : Int))))] [(1, .pure (GExpr.cs e0))] rfl rfl rfl ?_
     refine AW2_if (p := e0.Op = (2 : Int)) rfl (fun h13 => ?_) (fun h13 => ?_)
     ·replace H := ite_then h13 H
      refine bindK H fun g'8 h19 H => ?_
      refine AW2_mid (⟨[(1, .q 1 (0)), (4, .b g'8)], [(1, .pure (GExpr.cs e0))], 97⟩ : TS) ?_ ?_
      ·clear H
       have H := h19
       clear h19
       refine AW2_reg [0, 1, 2, 3, 4, 5, 6, 7, 8, 9, 10, 11, 12, 13, 14, 15, 16, 17, 18] rfl ?_
       refine rp rfl rfl (p_move rfl rfl) ?_
       refine rp rfl rfl (p_move rfl rfl) ?_
       refine (Classical.em ((e0.Args.length : Int) = (lrd want3'1 e0.Op.toNat))).elim (fun h15 => ?_) (fun h15 => ?_)
       ·replace H := ite_then h15 H
        refine r_on rfl rfl rfl rfl (decide_eq_true h15) rfl (PureD.opD (u_fa rfl rfl Tryd.underlying27 rfl in_24 (Nat.succ_ne_zero _) rfl rfl (ne_of_lt (n := 0) (Nat.lt_of_lt_of_eq (by decide) (Eq.symm (GExpr.len e0)))))) ?_
        refine r_on rfl rfl rfl rfl (decide_eq_true h15) rfl (PureD.opD (u_lda rfl rfl Tryd.underlying24 rfl in_24 rfl (Nat.succ_pos _) ((Sub.refl _).trans (GExpr.sub1 e0)) (GValue.len e0.Value))) ?_
        refine r_on rfl rfl rfl rfl (decide_eq_true h15) rfl (PureD.opD (u_bld rfl in_24 one_24 zc_24 pl_24 rfl rfl)) ?_
        refine r_on rfl rfl rfl rfl (decide_eq_true h15) rfl (PureD.opD (p_eqa (a := e0.Value) (b := GValue.zero) rfl eq_24 rfl (by kernel_rfl) rfl rfl)) ?_
        refine rp rfl rfl (p_pkt rfl rfl (decide_eq_true h15) (.same _)) ?_
        refine rp rfl rfl (p_move rfl rfl) ?_
        refine (Classical.em (e0.Value = GValue.zero)).elim (fun h16 => ?_) (fun h16 => ?_)
        ·replace H := ite_then h16 H
         refine r_on rfl rfl rfl rfl (decide_eq_true h16) rfl (PureD.opD (u_fa rfl rfl Tryd.underlying27 rfl in_9 (Nat.succ_ne_zero _) rfl rfl (ne_of_lt (n := 0) (Nat.lt_of_lt_of_eq (by decide) (Eq.symm (GExpr.len e0)))))) ?_
         refine r_on rfl rfl rfl rfl (decide_eq_true h16) rfl (PureD.opD (u_ld rfl rfl Tryd.underlying9 rfl rfl ((Sub.refl _).trans (GExpr.sub2 e0)))) ?_
         refine bindK H fun r'7 h17 H => ?_
         refine r_on rfl rfl rfl rfl (decide_eq_true h16) rfl (PureD.opD (p_callp rfl rfl rfl Tryd.func48 rfl rfl (g_ref_isName_ac h17) ⟨rfl, trivial⟩)) ?_
         refine rp rfl rfl (p_pkt rfl rfl (decide_eq_true h16) (.same _)) ?_
         refine rp rfl rfl (p_move rfl rfl) ?_
         refine (Classical.em (r'7 = true)).elim (fun h18 => ?_) (fun h18 => ?_)
         ·replace H := ite_then h18 H
          refine rn rfl rfl rfl rfl h18 rfl (u_fa rfl rfl Tryd.underlying27 rfl in_9 (Nat.succ_ne_zero _) rfl rfl (ne_of_lt (n := 0) (Nat.lt_of_lt_of_eq (by decide) (Eq.symm (GExpr.len e0))))) ?_
          refine rn rfl rfl rfl rfl h18 rfl (u_ld rfl rfl Tryd.underlying9 rfl rfl ((Sub.refl _).trans (GExpr.sub2 e0))) ?_
          refine rn rfl rfl rfl rfl h18 rfl (p_lent rfl Tryd.underlying9 rfl) ?_
          refine rn rfl rfl rfl rfl h18 rfl (p_bin rfl rfl rfl rfl) ?_
          refine rp rfl rfl (p_pkt rfl rfl h18 (.same _)) ?_
          refine rp rfl rfl (p_asg rfl rfl) ?_
          refine rs [(1, .q 1 (0)), (4, .b (decide ((e0.Name.length : Int) ≤ (8 : Int))))] [(1, .pure (GExpr.cs e0))] rfl rfl rfl ?_
          have hz := some_elim H
          subst hz
          exact RunW_nil rfl
         ·replace H := ite_else h18 H
          refine r_off rfl rfl rfl rfl (bfalse h18) rfl rfl ?_
          refine r_off rfl rfl rfl rfl (bfalse h18) rfl rfl ?_
          refine r_off rfl rfl rfl rfl (bfalse h18) rfl rfl ?_
          refine r_off rfl rfl rfl rfl (bfalse h18) rfl rfl ?_
          refine rp rfl rfl (p_pkf rfl rfl (bfalse h18) (.same _)) ?_
          refine rp rfl rfl (p_asg rfl rfl) ?_
          refine rs [(1, .q 1 (0)), (4, .b false)] [(1, .pure (GExpr.cs e0))] rfl rfl rfl ?_
          have hz := some_elim H
          subst hz
          exact RunW_nil rfl
        ·replace H := ite_else h16 H
         refine r_off rfl rfl rfl rfl (decide_eq_false h16) rfl rfl ?_
         refine r_off rfl rfl rfl rfl (decide_eq_false h16) rfl rfl ?_
         refine r_off rfl rfl rfl rfl (decide_eq_false h16) rfl rfl ?_
         refine rp rfl rfl (p_pkf rfl rfl (decide_eq_false h16) (.same _)) ?_
         refine rp rfl rfl (p_move rfl rfl) ?_
         refine r_off rfl rfl rfl rfl (bfalse (by decide)) rfl rfl ?_
         refine r_off rfl rfl rfl rfl (bfalse (by decide)) rfl rfl ?_
         refine r_off rfl rfl rfl rfl (bfalse (by decide)) rfl rfl ?_
         refine r_off rfl rfl rfl rfl (bfalse (by decide)) rfl rfl ?_
         refine rp rfl rfl (p_pkf rfl rfl (bfalse (by decide)) (.same _)) ?_
         refine rp rfl rfl (p_asg rfl rfl) ?_
         refine rs [(1, .q 1 (0)), (4, .b false)] [(1, .pure (GExpr.cs e0))] rfl rfl rfl ?_
         have hz := some_elim H
         subst hz
         exact RunW_nil rfl
       ·replace H := ite_else h15 H
        refine r_off rfl rfl rfl rfl (decide_eq_false h15) rfl rfl ?_
        refine r_off rfl rfl rfl rfl (decide_eq_false h15) rfl rfl ?_
        refine r_off rfl rfl rfl rfl (decide_eq_false h15) rfl rfl ?_
        refine r_off rfl rfl rfl rfl (decide_eq_false h15) rfl rfl ?_
        refine rp rfl rfl (p_pkf rfl rfl (decide_eq_false h15) (.same _)) ?_
        refine rp rfl rfl (p_move rfl rfl) ?_
        refine r_off rfl rfl rfl rfl (bfalse (by decide)) rfl rfl ?_
        refine r_off rfl rfl rfl rfl (bfalse (by decide)) rfl rfl ?_
        refine r_off rfl rfl rfl rfl (bfalse (by decide)) rfl rfl ?_
        refine rp rfl rfl (p_pkf rfl rfl (bfalse (by decide)) (.same _)) ?_
        refine rp rfl rfl (p_move rfl rfl) ?_
        refine r_off rfl rfl rfl rfl (bfalse (by decide)) rfl rfl ?_
        refine r_off rfl rfl rfl rfl (bfalse (by decide)) rfl rfl ?_
        refine r_off rfl rfl rfl rfl (bfalse (by decide)) rfl rfl ?_
        refine r_off rfl rfl rfl rfl (bfalse (by decide)) rfl rfl ?_
        refine rp rfl rfl (p_pkf rfl rfl (bfalse (by decide)) (.same _)) ?_
        refine rp rfl rfl (p_asg rfl rfl) ?_
        refine rs [(1, .q 1 (0)), (4, .b false)] [(1, .pure (GExpr.cs e0))] rfl rfl rfl ?_
        have hz := some_elim H
        subst hz
        exact RunW_nil rfl
      ·have hz := some_elim H
       subst hz
       exact rfl
     ·replace H := ite_else h13 H
      refine AW2_mid (⟨[(1, .q 1 (0)), (4, .b (decide ((((e0.Args.length : Int) = (lrd want3'1 e0.Op.toNat)) ∧ (e0.Name = [])) ∧ (e0.Value = GValue.zero))))], [(1, .pure (GExpr.cs e0))], 97⟩ : TS) ?_ ?_
      ·refine AW2_reg [0, 1, 2, 3, 4, 5, 6, 7, 8, 9, 10, 11, 12] rfl ?_
       refine rp rfl rfl (p_move rfl rfl) ?_
       refine rp rfl rfl (p_move rfl rfl) ?_
       refine (Classical.em ((e0.Args.length : Int) = (lrd want3'1 e0.Op.toNat))).elim (fun h21 => ?_) (fun h21 => ?_)
       ·refine r_on rfl rfl rfl rfl (decide_eq_true h21) rfl (PureD.opD (u_fa rfl rfl Tryd.underlying27 rfl in_9 (Nat.succ_ne_zero _) rfl rfl (ne_of_lt (n := 0) (Nat.lt_of_lt_of_eq (by decide) (Eq.symm (GExpr.len e0)))))) ?_
        refine r_on rfl rfl rfl rfl (decide_eq_true h21) rfl (PureD.opD (u_ld rfl rfl Tryd.underlying9 rfl rfl ((Sub.refl _).trans (GExpr.sub2 e0)))) ?_
        refine r_on rfl rfl rfl rfl (decide_eq_true h21) rfl (PureD.opD (p_seq rfl rfl rfl)) ?_
        refine rp rfl rfl (p_pkt rfl rfl (decide_eq_true h21) (tb ((and_l (p := (e0.Args.length : Int) = (lrd want3'1 e0.Op.toNat)) (q := e0.Name = []) h21)))) ?_
        refine rp rfl rfl (p_move rfl rfl) ?_
        refine (Classical.em (e0.Name = [])).elim (fun h22 => ?_) (fun h22 => ?_)
        ·refine r_on rfl rfl rfl rfl (decide_eq_true (p := ((e0.Args.length : Int) = (lrd want3'1 e0.Op.toNat)) ∧ (e0.Name = [])) ⟨h21, h22⟩) rfl (PureD.opD (u_fa rfl rfl Tryd.underlying27 rfl in_24 (Nat.succ_ne_zero _) rfl rfl (ne_of_lt (n := 0) (Nat.lt_of_lt_of_eq (by decide) (Eq.symm (GExpr.len e0)))))) ?_
         refine r_on rfl rfl rfl rfl (decide_eq_true (p := ((e0.Args.length : Int) = (lrd want3'1 e0.Op.toNat)) ∧ (e0.Name = [])) ⟨h21, h22⟩) rfl (PureD.opD (u_lda rfl rfl Tryd.underlying24 rfl in_24 rfl (Nat.succ_pos _) ((Sub.refl _).trans (GExpr.sub1 e0)) (GValue.len e0.Value))) ?_
         refine r_on rfl rfl rfl rfl (decide_eq_true (p := ((e0.Args.length : Int) = (lrd want3'1 e0.Op.toNat)) ∧ (e0.Name = [])) ⟨h21, h22⟩) rfl (PureD.opD (u_bld rfl in_24 one_24 zc_24 pl_24 rfl rfl)) ?_
         refine r_on rfl rfl rfl rfl (decide_eq_true (p := ((e0.Args.length : Int) = (lrd want3'1 e0.Op.toNat)) ∧ (e0.Name = [])) ⟨h21, h22⟩) rfl (PureD.opD (p_eqa (a := e0.Value) (b := GValue.zero) rfl eq_24 rfl (by kernel_rfl) rfl rfl)) ?_
         refine rp rfl rfl (p_pkt rfl rfl (decide_eq_true (p := ((e0.Args.length : Int) = (lrd want3'1 e0.Op.toNat)) ∧ (e0.Name = [])) ⟨h21, h22⟩) (tb ((and_l (p := ((e0.Args.length : Int) = (lrd want3'1 e0.Op.toNat)) ∧ (e0.Name = [])) (q := e0.Value = GValue.zero) ⟨h21, h22⟩)))) ?_
         refine rp rfl rfl (p_asg rfl rfl) ?_
         refine rs [(1, .q 1 (0)), (4, .b (decide ((((e0.Args.length : Int) = (lrd want3'1 e0.Op.toNat)) ∧ (e0.Name = [])) ∧ (e0.Value = GValue.zero))))] [(1, .pure (GExpr.cs e0))] rfl rfl rfl ?_
         exact RunW_nil rfl
        ·refine r_off rfl rfl rfl rfl (decide_eq_false (p := ((e0.Args.length : Int) = (lrd want3'1 e0.Op.toNat)) ∧ (e0.Name = [])) (fun h => h22 h.2)) rfl rfl ?_
         refine r_off rfl rfl rfl rfl (decide_eq_false (p := ((e0.Args.length : Int) = (lrd want3'1 e0.Op.toNat)) ∧ (e0.Name = [])) (fun h => h22 h.2)) rfl rfl ?_
         refine r_off rfl rfl rfl rfl (decide_eq_false (p := ((e0.Args.length : Int) = (lrd want3'1 e0.Op.toNat)) ∧ (e0.Name = [])) (fun h => h22 h.2)) rfl rfl ?_
         refine r_off rfl rfl rfl rfl (decide_eq_false (p := ((e0.Args.length : Int) = (lrd want3'1 e0.Op.toNat)) ∧ (e0.Name = [])) (fun h => h22 h.2)) rfl rfl ?_
         refine rp rfl rfl (p_pkf rfl rfl (decide_eq_false (p := ((e0.Args.length : Int) = (lrd want3'1 e0.Op.toNat)) ∧ (e0.Name = [])) (fun h => h22 h.2)) (tb (decide_eq_false (p := (((e0.Args.length : Int) = (lrd want3'1 e0.Op.toNat)) ∧ (e0.Name = [])) ∧ (e0.Value = GValue.zero)) (fun x => (fun h => h22 h.2) x.1)).symm)) ?_
         refine rp rfl rfl (p_asg rfl rfl) ?_
         refine rs [(1, .q 1 (0)), (4, .b (decide ((((e0.Args.length : Int) = (lrd want3'1 e0.Op.toNat)) ∧ (e0.Name = [])) ∧ (e0.Value = GValue.zero))))] [(1, .pure (GExpr.cs e0))] rfl rfl rfl ?_
         exact RunW_nil rfl
       ·refine r_off rfl rfl rfl rfl (decide_eq_false h21) rfl rfl ?_
        refine r_off rfl rfl rfl rfl (decide_eq_false h21) rfl rfl ?_
        refine r_off rfl rfl rfl rfl (decide_eq_false h21) rfl rfl ?_
        refine rp rfl rfl (p_pkf rfl rfl (decide_eq_false h21) (tb (decide_eq_false (p := ((e0.Args.length : Int) = (lrd want3'1 e0.Op.toNat)) ∧ (e0.Name = [])) (fun x => h21 x.1)).symm)) ?_
        refine rp rfl rfl (p_move rfl rfl) ?_
        refine r_off rfl rfl rfl rfl (decide_eq_false (p := ((e0.Args.length : Int) = (lrd want3'1 e0.Op.toNat)) ∧ (e0.Name = [])) (fun h => h21 h.1)) rfl rfl ?_
        refine r_off rfl rfl rfl rfl (decide_eq_false (p := ((e0.Args.length : Int) = (lrd want3'1 e0.Op.toNat)) ∧ (e0.Name = [])) (fun h => h21 h.1)) rfl rfl ?_
        refine r_off rfl rfl rfl rfl (decide_eq_false (p := ((e0.Args.length : Int) = (lrd want3'1 e0.Op.toNat)) ∧ (e0.Name = [])) (fun h => h21 h.1)) rfl rfl ?_
        refine r_off rfl rfl rfl rfl (decide_eq_false (p := ((e0.Args.length : Int) = (lrd want3'1 e0.Op.toNat)) ∧ (e0.Name = [])) (fun h => h21 h.1)) rfl rfl ?_
        refine rp rfl rfl (p_pkf rfl rfl (decide_eq_false (p := ((e0.Args.length : Int) = (lrd want3'1 e0.Op.toNat)) ∧ (e0.Name = [])) (fun h => h21 h.1)) (tb (decide_eq_false (p := (((e0.Args.length : Int) = (lrd want3'1 e0.Op.toNat)) ∧ (e0.Name = [])) ∧ (e0.Value = GValue.zero)) (fun x => (fun h => h21 h.1) x.1)).symm)) ?_
        refine rp rfl rfl (p_asg rfl rfl) ?_
        refine rs [(1, .q 1 (0)), (4, .b (decide ((((e0.Args.length : Int) = (lrd want3'1 e0.Op.toNat)) ∧ (e0.Name = [])) ∧ (e0.Value = GValue.zero))))] [(1, .pure (GExpr.cs e0))] rfl rfl rfl ?_
        exact RunW_nil rfl
      ·have hz := some_elim H
       subst hz
       exact rfl
   ·refine AW2_seq ?_
    refine sg [0, 1] rfl ?_
    refine rp rfl rfl (p_move rfl rfl) ?_
    refine rp rfl rfl (p_not rfl rfl) ?_
    refine rz [(1, .q 1 (0)), (83, .b (!j'2))] [(1, .pure (GExpr.cs e0))] rfl rfl rfl ?_
    refine AW2_cond rfl (fun h23 => ?_) (fun h23 => ?_)
    ·replace H := ite_then h23 H
     refine sg [0] rfl ?_
     refine rp rfl rfl (p_asg rfl rfl) ?_
     refine rz [(2, .i (3 : Int))] [] rfl rfl rfl ?_
     refine AW2_ret ?_
     have hz := some_elim H
     subst hz
     exact ⟨⟨res_tmp (.same _), trivial⟩, trivial⟩
    ·replace H := ite_else (ne_true h23) H
     refine as2 [(1, .q 1 (0))] [(1, .pure (GExpr.cs e0))] rfl rfl rfl ?_
     refine AW2_skip ?_
     refine AW2_seq ?_
     refine sg [0, 1, 2, 3] rfl ?_
     refine rp rfl rfl (u_fa rfl rfl Tryd.underlying27 rfl in_25 (Nat.succ_ne_zero _) rfl rfl (ne_of_lt (n := 0) (Nat.lt_of_lt_of_eq (by decide) (Eq.symm (GExpr.len e0))))) ?_
     refine rp rfl rfl (u_ld rfl rfl Tryd.underlying25 rfl rfl ((Sub.refl _).trans (GExpr.sub3 e0))) ?_
     refine rp rfl rfl (p_lenl rfl Tryd.underlying25 rfl rfl) ?_
     refine rp rfl rfl (p_move rfl rfl) ?_
     refine rz [(85, .p ((fun q : List GExpr => AV.lst (q.flatMap GExpr.cs) q.length) e0.Args)), (86, .i (e0.Args.length : Int)), (87, .i (0 : Int))] [] rfl rfl rfl ?_
     refine AW2_block ?_
     refine as2 [(85, .p ((fun q : List GExpr => AV.lst (q.flatMap GExpr.cs) q.length) e0.Args)), (86, .i (e0.Args.length : Int)), (87, .i (0 : Int))] [] rfl rfl rfl ?_
     refine bindK H fun o'13 h28 H => ?_
     refine AW2_loopO (fun a'10 : Int => (⟨[(85, .p ((fun q : List GExpr => AV.lst (q.flatMap GExpr.cs) q.length) e0.Args)), (86, .i (e0.Args.length : Int)), (87, .i a'10)], [], 97⟩ : TS)) (fun (o : Int ⊕ Unit) e s' => match o with | .inl y'11 => e = Go.Exit.ret ∧ ResAll Tryd.prog s' [ResultVar.tmp 2] [.i y'11] ∧ HFits s' [] | .inr (y'12) => e = Go.Exit.exit 1 ∧ s' = (⟨[], [], 97⟩ : TS)) h28 rfl (fun t87_0 x hx => ?_) (fun e s' hs => ?_)
     ·clear H
      have H := hx
      clear hx
      unfold g_ref_nodeFault_l0 at H
      refine sg [0] rfl ?_
      refine rp rfl rfl (p_bin rfl rfl rfl rfl) ?_
      refine rz [(85, .p ((fun q : List GExpr => AV.lst (q.flatMap GExpr.cs) q.length) e0.Args)), (86, .i (e0.Args.length : Int)), (87, .i t87_0), (88, .b (decide (t87_0 < (e0.Args.length : Int))))] [] rfl rfl rfl ?_
      refine AW2_seq ?_
      refine AW2_if (p := t87_0 < (e0.Args.length : Int)) rfl (fun h24 => ?_) (fun h24 => ?_)
      ·replace H := ite_then h24 H
       refine as2 [(85, .p ((fun q : List GExpr => AV.lst (q.flatMap GExpr.cs) q.length) e0.Args)), (86, .i (e0.Args.length : Int)), (87, .i t87_0)] [] rfl rfl rfl ?_
       refine AW2_skip ?_
       refine AW2_seq ?_
       refine AW2_block ?_
       refine sg [0, 1, 2, 3] rfl ?_
       refine chkK H fun h25 H => ?_
       refine rp rfl rfl (u_ixl rfl rfl Tryd.underlying25 in_27 rfl rfl (ixe h25) (ixn h25) (fne (fun x => (GExpr.len x)) (by decide) (ixn h25))) ?_
       refine rp rfl rfl (u_lda rfl rfl Tryd.underlying27 rfl in_27 rfl (Nat.succ_pos _) (Sub.fm default (fun x => (GExpr.len x)) (ixn h25)) (GExpr.len (lrd e0.Args t87_0.toNat))) ?_
       refine r_op rfl rfl (MakeD.opD (u_alloc 6 rfl in_27 one_27 zc_27) rfl rfl rfl rfl) ?_
       refine r_op rfl rfl (u_st rfl rfl rfl rfl rfl in_27 (GExpr.len (lrd e0.Args t87_0.toNat)) (ne_of_lt (n := 0) (Nat.lt_of_lt_of_eq (by decide) (Eq.symm (GExpr.len GExpr.zero)))) (Upd.refl ((GExpr.len (lrd e0.Args t87_0.toNat)).trans (GExpr.len GExpr.zero).symm))) ?_
       refine rz [(6, .q 6 (0)), (85, .p ((fun q : List GExpr => AV.lst (q.flatMap GExpr.cs) q.length) e0.Args)), (86, .i (e0.Args.length : Int)), (87, .i t87_0)] [(6, .pure (GExpr.cs (lrd e0.Args t87_0.toNat)))] rfl rfl rfl ?_
       refine sg [0, 1, 2] rfl ?_
       refine rp rfl rfl (u_lda rfl rfl Tryd.underlying27 rfl in_27 rfl (Nat.succ_pos _) (Sub.refl _) (GExpr.len (lrd e0.Args t87_0.toNat))) ?_
       refine bindK H fun r'9 h26 H => ?_
       refine rp rfl rfl (p_callp rfl rfl rfl Tryd.func47 rfl rfl (hR h26) ⟨rfl, trivial⟩) ?_
       refine rp rfl rfl (p_asg rfl rfl) ?_
       refine rz [(7, .i r'9), (85, .p ((fun q : List GExpr => AV.lst (q.flatMap GExpr.cs) q.length) e0.Args)), (86, .i (e0.Args.length : Int)), (87, .i t87_0)] [] rfl rfl rfl ?_
       refine sg [0, 1] rfl ?_
       refine rp rfl rfl (p_move rfl rfl) ?_
       refine rp rfl rfl (p_ine rfl rfl rfl) ?_
       refine rz [(7, .i r'9), (85, .p ((fun q : List GExpr => AV.lst (q.flatMap GExpr.cs) q.length) e0.Args)), (86, .i (e0.Args.length : Int)), (87, .i t87_0), (94, .b (decide (r'9 ≠ (0 : Int))))] [] rfl rfl rfl ?_
       refine AW2_if (p := r'9 ≠ (0 : Int)) rfl (fun h27 => ?_) (fun h27 => ?_)
       ·replace H := ite_then h27 H
        refine sg [0, 1] rfl ?_
        refine rp rfl rfl (p_move rfl rfl) ?_
        refine rp rfl rfl (p_asg rfl rfl) ?_
        refine rz [(2, .i r'9)] [] rfl rfl rfl ?_
        refine AW2_ret ?_
        have hz := some_elim H
        subst hz
        exact ⟨rfl, ⟨res_tmp (.same _), trivial⟩, trivial⟩
       ·replace H := ite_else h27 H
        refine as2 [(85, .p ((fun q : List GExpr => AV.lst (q.flatMap GExpr.cs) q.length) e0.Args)), (86, .i (e0.Args.length : Int)), (87, .i t87_0)] [] rfl rfl rfl ?_
        refine AW2_skip ?_
        refine AW2_reg [0, 1] rfl ?_
        refine rp rfl rfl (p_bin rfl rfl rfl rfl) ?_
        refine rp rfl rfl (p_move rfl rfl) ?_
        refine rz [(85, .p ((fun q : List GExpr => AV.lst (q.flatMap GExpr.cs) q.length) e0.Args)), (86, .i (e0.Args.length : Int)), (87, .i (w64 (t87_0 + (1 : Int))))] [] rfl rfl rfl ?_
        have hz := some_elim H
        subst hz
        exact ⟨rfl, rfl⟩
      ·replace H := ite_else h24 H
       refine as2 [] [] rfl rfl rfl ?_
       refine AW2_exit ?_
       refine thenQ2_exit ?_
       have hz := some_elim H
       subst hz
       exact ⟨rfl, rfl⟩
     ·rcases o'13 with y'14 | y'15
      ·obtain ⟨rfl, hs⟩ := hs
       refine ⟨by simp, ?_⟩
       have hz := some_elim H
       subst hz
       exact ⟨hs.1, hs.2⟩
      ·obtain ⟨rfl, rfl⟩ := hs
       refine ⟨by simp, ?_⟩
       refine blockQ2_exit ?_
       refine sg [0] rfl ?_
       refine rp rfl rfl (p_asg rfl rfl) ?_
       refine rz [(2, .i (0 : Int))] [] rfl rfl rfl ?_
       refine AW2_ret ?_
       have hz := some_elim H
       subst hz
       exact ⟨⟨res_tmp (.same _), trivial⟩, trivial⟩
theorem g_ref_nodeFault_acN : ∀ (fu : Nat) {e0 : GExpr} {r : Int}, g_ref_nodeFault fu e0 = some r → ACp Tryd.prog 47 [(.agg (GExpr.cs e0))] (AV.int r)
 | 0, _, _, H => (by cases H)
 | fu + 1, _, _, H => g_ref_nodeFault_ac0 (g_ref_nodeFault_acN fu) H
theorem g_ref_nodeFault_ac {e0 : GExpr} {r : Int} (H : g_ref_nodeFault 100000 e0 = some r) : ACp Tryd.prog 47 [(.agg (GExpr.cs e0))] (AV.int r) := g_ref_nodeFault_acN 100000 H

/-! chirographref.ExprFault -/
noncomputable def g_ref_ExprFault (e0 : GExpr) : Option (Int) :=
  (g_ref_within e0).bind fun r'1 => (if (!r'1) = true then some (1 : Int) else (g_ref_nodeFault 100000 e0).bind fun r'2 => some r'2)
set_option maxHeartbeats 4000000 in
set_option maxRecDepth 100000 in
theorem g_ref_ExprFault_ac {e0 : GExpr} {r : Int} (H : g_ref_ExprFault e0 = some r) : ACp Tryd.prog 21 [(.agg (GExpr.cs e0))] (AV.int r) := by
 refine ACp_of (AC2_of_body (vs := [.i r]) Tryd.func21 rfl rfl (Nat.le_of_ble_eq_true rfl) rfl ?_) (fun _ => .same _)
 unfold g_ref_ExprFault at H
 refine as2 [(0, .g (GExpr.cs e0))] [] rfl rfl rfl ?_
 refine sg [0, 1] rfl ?_
 refine r_op rfl rfl (MakeD.opD (n_box 1 rfl rfl) rfl rfl rfl rfl) ?_
 refine rp rfl rfl (p_asg rfl rfl) ?_
 refine rz [(1, .q 1 (0))] [(1, .pure (GExpr.cs e0))] rfl rfl rfl ?_
 refine AW2_seq ?_
 refine sg [0, 1, 2] rfl ?_
 refine rp rfl rfl (u_lda rfl rfl Tryd.underlying27 rfl in_27 rfl (Nat.succ_pos _) (Sub.refl _) (GExpr.len e0)) ?_
 refine bindK H fun r'1 h1 H => ?_
 refine rp rfl rfl (p_callp rfl rfl rfl Tryd.func33 rfl rfl (g_ref_within_ac h1) ⟨rfl, trivial⟩) ?_
 refine rp rfl rfl (p_not rfl rfl) ?_
 refine rz [(1, .q 1 (0)), (5, .b (!r'1))] [(1, .pure (GExpr.cs e0))] rfl rfl rfl ?_
 refine AW2_cond rfl (fun h2 => ?_) (fun h2 => ?_)
 ·replace H := ite_then h2 H
  refine sg [0] rfl ?_
  refine rp rfl rfl (p_asg rfl rfl) ?_
  refine rz [(2, .i (1 : Int))] [] rfl rfl rfl ?_
  refine AW2_ret ?_
  have hz := some_elim H
  subst hz
  exact ⟨⟨res_tmp (.same _), trivial⟩, trivial⟩
 ·replace H := ite_else (ne_true h2) H
  refine as2 [(1, .q 1 (0))] [(1, .pure (GExpr.cs e0))] rfl rfl rfl ?_
  refine AW2_skip ?_
  refine sg [0, 1, 2] rfl ?_
  refine rp rfl rfl (u_lda rfl rfl Tryd.underlying27 rfl in_27 rfl (Nat.succ_pos _) (Sub.refl _) (GExpr.len e0)) ?_
  refine bindK H fun r'2 h3 H => ?_
  refine rp rfl rfl (p_callp rfl rfl rfl Tryd.func47 rfl rfl (g_ref_nodeFault_ac h3) ⟨rfl, trivial⟩) ?_
  refine rp rfl rfl (p_asg rfl rfl) ?_
  refine rz [(2, .i r'2)] [] rfl rfl rfl ?_
  refine AW2_ret ?_
  have hz := some_elim H
  subst hz
  exact ⟨⟨res_tmp (.same _), trivial⟩, trivial⟩

/-! chirographref.columnAt -/
noncomputable def g_ref_columnAt_l0 (cols0 : List GColumn) (name1 : List UInt8) : Int → Option (Int ⊕ (Int ⊕ Unit))
  | i5_0 => (if i5_0 ≥ (0 : Int) then if 0 ≤ i5_0 ∧ i5_0 < (cols0.length : Int) then (if (lrd cols0 i5_0.toNat).Name = name1 then some (.inr (.inl i5_0)) else some (.inl (w64 (i5_0 - (1 : Int))))) else none else some (.inr (.inr ())))
noncomputable def g_ref_columnAt (cols0 : List GColumn) (name1 : List UInt8) : Option (Int) :=
  (loopO (g_ref_columnAt_l0 cols0 name1) (w64 ((cols0.length : Int) - (1 : Int)))).bind fun o'4 => match o'4 with | .inl y'5 => some y'5 | .inr (y'6) => some (-1 : Int)
set_option maxHeartbeats 4000000 in
set_option maxRecDepth 100000 in
theorem g_ref_columnAt_ac {cols0 : List GColumn} {name1 : List UInt8} {r : Int} (H : g_ref_columnAt cols0 name1 = some r) : ACp Tryd.prog 27 [((fun q : List GColumn => AV.lst (q.flatMap GColumn.cs) q.length) cols0), (AV.txt name1)] (AV.int r) := by
 refine ACp_of (AC2_of_body (vs := [.i r]) Tryd.func27 rfl rfl (Nat.le_of_ble_eq_true rfl) rfl ?_) (fun _ => .same _)
 unfold g_ref_columnAt at H
 refine as2 [(0, .p ((fun q : List GColumn => AV.lst (q.flatMap GColumn.cs) q.length) cols0)), (1, .t name1)] [] rfl rfl rfl ?_
 refine sg [0] rfl ?_
 refine rp rfl rfl (p_asg rfl rfl) ?_
 refine rz [(0, .p ((fun q : List GColumn => AV.lst (q.flatMap GColumn.cs) q.length) cols0)), (1, .t name1)] [] rfl rfl rfl ?_
 refine AW2_seq ?_
 refine sg [0, 1, 2, 3] rfl ?_
 refine rp rfl rfl (p_move rfl rfl) ?_
 refine rp rfl rfl (p_lenl rfl Tryd.underlying28 rfl rfl) ?_
 refine rp rfl rfl (p_bin rfl rfl rfl rfl) ?_
 refine rp rfl rfl (p_asg rfl rfl) ?_
 refine rz [(0, .p ((fun q : List GColumn => AV.lst (q.flatMap GColumn.cs) q.length) cols0)), (1, .t name1), (5, .i (w64 ((cols0.length : Int) - (1 : Int))))] [] rfl rfl rfl ?_
 refine AW2_block ?_
 refine as2 [(0, .p ((fun q : List GColumn => AV.lst (q.flatMap GColumn.cs) q.length) cols0)), (1, .t name1), (5, .i (w64 ((cols0.length : Int) - (1 : Int))))] [] rfl rfl rfl ?_
 refine bindK H fun o'4 h4 H => ?_
 refine AW2_loopO (fun a'1 : Int => (⟨[(0, .p ((fun q : List GColumn => AV.lst (q.flatMap GColumn.cs) q.length) cols0)), (1, .t name1), (5, .i a'1)], [], 21⟩ : TS)) (fun (o : Int ⊕ Unit) e s' => match o with | .inl y'2 => e = Go.Exit.ret ∧ ResAll Tryd.prog s' [ResultVar.tmp 4] [.i y'2] ∧ HFits s' [] | .inr (y'3) => e = Go.Exit.exit 0 ∧ s' = (⟨[], [], 21⟩ : TS)) h4 rfl (fun i5_0 x hx => ?_) (fun e s' hs => ?_)
 ·clear H
  have H := hx
  clear hx
  unfold g_ref_columnAt_l0 at H
  refine AW2_seq ?_
  refine sg [0, 1] rfl ?_
  refine rp rfl rfl (p_move rfl rfl) ?_
  refine rp rfl rfl (p_bin rfl rfl rfl rfl) ?_
  refine rz [(0, .p ((fun q : List GColumn => AV.lst (q.flatMap GColumn.cs) q.length) cols0)), (1, .t name1), (5, .i i5_0), (10, .b (decide (i5_0 ≥ (0 : Int))))] [] rfl rfl rfl ?_
  refine AW2_if (p := i5_0 ≥ (0 : Int)) rfl (fun h1 => ?_) (fun h1 => ?_)
  ·replace H := ite_then h1 H
   refine as2 [(0, .p ((fun q : List GColumn => AV.lst (q.flatMap GColumn.cs) q.length) cols0)), (1, .t name1), (5, .i i5_0)] [] rfl rfl rfl ?_
   refine AW2_skip ?_
   refine AW2_seq ?_
   refine AW2_block ?_
   refine sg [0, 1, 2, 3, 4, 5, 6] rfl ?_
   refine rp rfl rfl (p_move rfl rfl) ?_
   refine rp rfl rfl (p_move rfl rfl) ?_
   refine chkK H fun h2 H => ?_
   refine rp rfl rfl (u_ixl rfl rfl Tryd.underlying28 in_59 rfl rfl (ixe h2) (ixn h2) (fne (fun x => (GColumn.len x)) (by decide) (ixn h2))) ?_
   refine rp rfl rfl (u_far rfl rfl Tryd.underlying59 rfl in_9 (Nat.succ_ne_zero _) rfl) ?_
   refine rp rfl rfl (u_ld rfl rfl Tryd.underlying9 rfl rfl ((Sub.fm default (fun x => (GColumn.len x)) (ixn h2)).trans (GColumn.sub0 (lrd cols0 i5_0.toNat)))) ?_
   refine rp rfl rfl (p_move rfl rfl) ?_
   refine rp rfl rfl (p_seq rfl rfl rfl) ?_
   refine rz [(0, .p ((fun q : List GColumn => AV.lst (q.flatMap GColumn.cs) q.length) cols0)), (1, .t name1), (5, .i i5_0), (19, .b (decide ((lrd cols0 i5_0.toNat).Name = name1)))] [] rfl rfl rfl ?_
   refine AW2_if (p := (lrd cols0 i5_0.toNat).Name = name1) rfl (fun h3 => ?_) (fun h3 => ?_)
   ·replace H := ite_then h3 H
    refine sg [0, 1] rfl ?_
    refine rp rfl rfl (p_move rfl rfl) ?_
    refine rp rfl rfl (p_asg rfl rfl) ?_
    refine rz [(4, .i i5_0)] [] rfl rfl rfl ?_
    refine AW2_ret ?_
    have hz := some_elim H
    subst hz
    exact ⟨rfl, ⟨res_tmp (.same _), trivial⟩, trivial⟩
   ·replace H := ite_else h3 H
    refine as2 [(0, .p ((fun q : List GColumn => AV.lst (q.flatMap GColumn.cs) q.length) cols0)), (1, .t name1), (5, .i i5_0)] [] rfl rfl rfl ?_
    refine AW2_skip ?_
    refine AW2_reg [0, 1, 2] rfl ?_
    refine rp rfl rfl (p_move rfl rfl) ?_
    refine rp rfl rfl (p_bin rfl rfl rfl rfl) ?_
    refine rp rfl rfl (p_asg rfl rfl) ?_
    refine rz [(0, .p ((fun q : List GColumn => AV.lst (q.flatMap GColumn.cs) q.length) cols0)), (1, .t name1), (5, .i (w64 (i5_0 - (1 : Int))))] [] rfl rfl rfl ?_
    have hz := some_elim H
    subst hz
    exact ⟨rfl, rfl⟩
  ·replace H := ite_else h1 H
   refine as2 [] [] rfl rfl rfl ?_
   refine AW2_exit ?_
   refine thenQ2_exit ?_
   have hz := some_elim H
   subst hz
   exact ⟨rfl, rfl⟩
 ·rcases o'4 with y'5 | y'6
  ·obtain ⟨rfl, hs⟩ := hs
   refine ⟨by simp, ?_⟩
   have hz := some_elim H
   subst hz
   exact ⟨hs.1, hs.2⟩
  ·obtain ⟨rfl, rfl⟩ := hs
   refine ⟨by simp, ?_⟩
   refine blockQ2_exit ?_
   refine sg [0] rfl ?_
   refine rp rfl rfl (p_asg rfl rfl) ?_
   refine rz [(4, .i (-1 : Int))] [] rfl rfl rfl ?_
   refine AW2_ret ?_
   have hz := some_elim H
   subst hz
   exact ⟨⟨res_tmp (.same _), trivial⟩, trivial⟩

/-! chirographref.ColumnsFault -/
def g_ref_ColumnsFault_r10 : List (List (Nat × Option Nat)) := [[(0, none)], [(3, none)], [(46, some 0), (47, some 1)], [(4, none)], [(49, some 3)]]
def g_ref_ColumnsFault_r10c : List (List Nat) := [[], [], [0, 1], [], [3], [0, 1, 2, 3, 4], [0, 1, 2, 3, 4, 5], [0, 1, 2, 3, 4, 5, 6]]
noncomputable def g_ref_ColumnsFault_l0 (cols0 : List GColumn) : Int → Option (Int ⊕ (Int ⊕ Unit))
  | t10_0 => (if t10_0 < (cols0.length : Int) then if 0 ≤ t10_0 ∧ t10_0 < (cols0.length : Int) then (g_ref_isName ((lrd cols0 t10_0.toNat).Name)).bind fun r'1 => (if ((!r'1) = true) ∨ ((((lrd cols0 t10_0.toNat).Name).length : Int) > (8 : Int)) then some (.inr (.inl (3 : Int))) else letO (decide (((((lrd cols0 t10_0.toNat).Kind ≠ (1 : Int)) ∧ ((lrd cols0 t10_0.toNat).Kind ≠ (2 : Int))) ∧ ((lrd cols0 t10_0.toNat).Kind ≠ (3 : Int))) ∧ ((lrd cols0 t10_0.toNat).Kind ≠ (4 : Int)))) fun t26'2 => (if t26'2 = true then some (.inr (.inl (2 : Int))) else if 0 ≤ t10_0 ∧ t10_0 ≤ (cols0.length : Int) then (g_ref_columnAt (cut cols0 (0 : Int) t10_0) ((lrd cols0 t10_0.toNat).Name)).bind fun r'3 => (if r'3 ≥ (0 : Int) then some (.inr (.inl (8 : Int))) else some (.inl (w64 (t10_0 + (1 : Int))))) else none)) else none else some (.inr (.inr ())))
noncomputable def g_ref_ColumnsFault (cols0 : List GColumn) : Option (Int) :=
  (if (cols0.length : Int) > (5 : Int) then some (1 : Int) else (loopO (g_ref_ColumnsFault_l0 cols0) (0 : Int)).bind fun o'7 => match o'7 with | .inl y'8 => some y'8 | .inr (y'9) => some (0 : Int))
set_option maxHeartbeats 4000000 in
set_option maxRecDepth 100000 in
theorem g_ref_ColumnsFault_ac {cols0 : List GColumn} {r : Int} (H : g_ref_ColumnsFault cols0 = some r) : ACp Tryd.prog 22 [((fun q : List GColumn => AV.lst (q.flatMap GColumn.cs) q.length) cols0)] (AV.int r) := by
 refine ACp_of (AC2_of_body (vs := [.i r]) Tryd.func22 rfl rfl (Nat.le_of_ble_eq_true rfl) rfl ?_) (fun _ => .same _)
 unfold g_ref_ColumnsFault at H
 refine as2 [(0, .p ((fun q : List GColumn => AV.lst (q.flatMap GColumn.cs) q.length) cols0))] [] rfl rfl rfl ?_
 refine sg [0] rfl ?_
 refine rp rfl rfl (p_asg rfl rfl) ?_
 refine rz [(0, .p ((fun q : List GColumn => AV.lst (q.flatMap GColumn.cs) q.length) cols0))] [] rfl rfl rfl ?_
 refine AW2_seq ?_
 refine sg [0, 1, 2] rfl ?_
 refine rp rfl rfl (p_move rfl rfl) ?_
 refine rp rfl rfl (p_lenl rfl Tryd.underlying28 rfl rfl) ?_
 refine rp rfl rfl (p_bin rfl rfl rfl rfl) ?_
 refine rz [(0, .p ((fun q : List GColumn => AV.lst (q.flatMap GColumn.cs) q.length) cols0)), (7, .b (decide ((cols0.length : Int) > (5 : Int))))] [] rfl rfl rfl ?_
 refine AW2_if (p := (cols0.length : Int) > (5 : Int)) rfl (fun h1 => ?_) (fun h1 => ?_)
 ·replace H := ite_then h1 H
  refine sg [0] rfl ?_
  refine rp rfl rfl (p_asg rfl rfl) ?_
  refine rz [(2, .i (1 : Int))] [] rfl rfl rfl ?_
  refine AW2_ret ?_
  have hz := some_elim H
  subst hz
  exact ⟨⟨res_tmp (.same _), trivial⟩, trivial⟩
 ·replace H := ite_else h1 H
  refine as2 [(0, .p ((fun q : List GColumn => AV.lst (q.flatMap GColumn.cs) q.length) cols0))] [] rfl rfl rfl ?_
  refine AW2_skip ?_
  refine AW2_seq ?_
  refine sg [0, 1, 2] rfl ?_
  refine rp rfl rfl (p_move rfl rfl) ?_
  refine rp rfl rfl (p_lenl rfl Tryd.underlying28 rfl rfl) ?_
  refine rp rfl rfl (p_move rfl rfl) ?_
  refine rz [(0, .p ((fun q : List GColumn => AV.lst (q.flatMap GColumn.cs) q.length) cols0)), (8, .p ((fun q : List GColumn => AV.lst (q.flatMap GColumn.cs) q.length) cols0)), (9, .i (cols0.length : Int)), (10, .i (0 : Int))] [] rfl rfl rfl ?_
  refine AW2_block ?_
  refine as2 [(0, .p ((fun q : List GColumn => AV.lst (q.flatMap GColumn.cs) q.length) cols0)), (8, .p ((fun q : List GColumn => AV.lst (q.flatMap GColumn.cs) q.length) cols0)), (9, .i (cols0.length : Int)), (10, .i (0 : Int))] [] rfl rfl rfl ?_
  refine bindK H fun o'7 h14 H => ?_
  refine AW2_loopO (fun a'4 : Int => (⟨[(0, .p ((fun q : List GColumn => AV.lst (q.flatMap GColumn.cs) q.length) cols0)), (8, .p ((fun q : List GColumn => AV.lst (q.flatMap GColumn.cs) q.length) cols0)), (9, .i (cols0.length : Int)), (10, .i a'4)], [], 54⟩ : TS)) (fun (o : Int ⊕ Unit) e s' => match o with | .inl y'5 => e = Go.Exit.ret ∧ ResAll Tryd.prog s' [ResultVar.tmp 2] [.i y'5] ∧ HFits s' [] | .inr (y'6) => e = Go.Exit.exit 0 ∧ s' = (⟨[], [], 54⟩ : TS)) h14 rfl (fun t10_0 x hx => ?_) (fun e s' hs => ?_)
  ·clear H
   have H := hx
   clear hx
   unfold g_ref_ColumnsFault_l0 at H
   refine sg [0] rfl ?_
   refine rp rfl rfl (p_bin rfl rfl rfl rfl) ?_
   refine rz [(0, .p ((fun q : List GColumn => AV.lst (q.flatMap GColumn.cs) q.length) cols0)), (8, .p ((fun q : List GColumn => AV.lst (q.flatMap GColumn.cs) q.length) cols0)), (9, .i (cols0.length : Int)), (10, .i t10_0), (11, .b (decide (t10_0 < (cols0.length : Int))))] [] rfl rfl rfl ?_
   refine AW2_seq ?_
   refine AW2_if (p := t10_0 < (cols0.length : Int)) rfl (fun h2 => ?_) (fun h2 => ?_)
   ·replace H := ite_then h2 H
    refine as2 [(0, .p ((fun q : List GColumn => AV.lst (q.flatMap GColumn.cs) q.length) cols0)), (8, .p ((fun q : List GColumn => AV.lst (q.flatMap GColumn.cs) q.length) cols0)), (9, .i (cols0.length : Int)), (10, .i t10_0)] [] rfl rfl rfl ?_
    refine AW2_skip ?_
    refine AW2_seq ?_
    refine AW2_block ?_
    refine sg [0, 1, 2, 3, 4, 5] rfl ?_
    refine rp rfl rfl (p_move rfl rfl) ?_
    refine chkK H fun h3 H => ?_
    refine rp rfl rfl (u_ixl rfl rfl Tryd.underlying28 in_59 rfl rfl (ixe h3) (ixn h3) (fne (fun x => (GColumn.len x)) (by decide) (ixn h3))) ?_
    refine rp rfl rfl (u_lda rfl rfl Tryd.underlying59 rfl in_59 rfl (Nat.succ_pos _) (Sub.fm default (fun x => (GColumn.len x)) (ixn h3)) (GColumn.len (lrd cols0 t10_0.toNat))) ?_
    refine r_op rfl rfl (MakeD.opD (u_alloc 4 rfl in_59 one_59 zc_59) rfl rfl rfl rfl) ?_
    refine rp rfl rfl (p_asg rfl rfl) ?_
    refine r_op rfl rfl (u_st rfl rfl rfl rfl rfl in_59 (GColumn.len (lrd cols0 t10_0.toNat)) (ne_of_lt (n := 0) (Nat.lt_of_lt_of_eq (by decide) (Eq.symm (GColumn.len GColumn.zero)))) (Upd.refl ((GColumn.len (lrd cols0 t10_0.toNat)).trans (GColumn.len GColumn.zero).symm))) ?_
    refine rz [(0, .p ((fun q : List GColumn => AV.lst (q.flatMap GColumn.cs) q.length) cols0)), (3, .i t10_0), (4, .q 4 (0)), (8, .p ((fun q : List GColumn => AV.lst (q.flatMap GColumn.cs) q.length) cols0)), (9, .i (cols0.length : Int)), (10, .i t10_0)] [(4, .pure (GColumn.cs (lrd cols0 t10_0.toNat)))] rfl rfl rfl ?_
    refine AW2_block ?_
    refine AW2_seq ?_
    refine bindK H fun r'1 h4 H => ?_
    refine AW2_mid (⟨[(0, .p ((fun q : List GColumn => AV.lst (q.flatMap GColumn.cs) q.length) cols0)), (3, .i t10_0), (4, .q 4 (0)), (8, .p ((fun q : List GColumn => AV.lst (q.flatMap GColumn.cs) q.length) cols0)), (9, .i (cols0.length : Int)), (10, .i t10_0), (15, .b (decide (((!r'1) = true) ∨ ((((lrd cols0 t10_0.toNat).Name).length : Int) > (8 : Int)))))], [(4, .pure (GColumn.cs (lrd cols0 t10_0.toNat)))], 54⟩ : TS) ?_ ?_
    ·refine AW2_reg [0, 1, 2, 3, 4, 5, 6, 7, 8, 9, 10] rfl ?_
     refine rp rfl rfl (u_fa rfl rfl Tryd.underlying59 rfl in_9 (Nat.succ_ne_zero _) rfl rfl (ne_of_lt (n := 0) (Nat.lt_of_lt_of_eq (by decide) (Eq.symm (GColumn.len (lrd cols0 t10_0.toNat)))))) ?_
     refine rp rfl rfl (u_ld rfl rfl Tryd.underlying9 rfl rfl ((Sub.refl _).trans (GColumn.sub0 (lrd cols0 t10_0.toNat)))) ?_
     refine rp rfl rfl (p_callp rfl rfl rfl Tryd.func48 rfl rfl (g_ref_isName_ac h4) ⟨rfl, trivial⟩) ?_
     refine rp rfl rfl (p_not rfl rfl) ?_
     refine rp rfl rfl (p_move rfl rfl) ?_
     refine (Classical.em ((!r'1) = true)).elim (fun h5 => ?_) (fun h5 => ?_)
     ·refine r_off rfl rfl rfl rfl h5 rfl rfl ?_
      refine r_off rfl rfl rfl rfl h5 rfl rfl ?_
      refine r_off rfl rfl rfl rfl h5 rfl rfl ?_
      refine r_off rfl rfl rfl rfl h5 rfl rfl ?_
      refine rp rfl rfl (p_pkt rfl rfl h5 (tb (decide_eq_true (p := ((!r'1) = true) ∨ ((((lrd cols0 t10_0.toNat).Name).length : Int) > (8 : Int))) (Or.inl h5)).symm)) ?_
      refine rp rfl rfl (p_asg rfl rfl) ?_
      refine rs [(0, .p ((fun q : List GColumn => AV.lst (q.flatMap GColumn.cs) q.length) cols0)), (3, .i t10_0), (4, .q 4 (0)), (8, .p ((fun q : List GColumn => AV.lst (q.flatMap GColumn.cs) q.length) cols0)), (9, .i (cols0.length : Int)), (10, .i t10_0), (15, .b (decide (((!r'1) = true) ∨ ((((lrd cols0 t10_0.toNat).Name).length : Int) > (8 : Int)))))] [(4, .pure (GColumn.cs (lrd cols0 t10_0.toNat)))] rfl rfl rfl ?_
      exact RunW_nil rfl
     ·refine r_on rfl rfl rfl rfl (bfalse h5) rfl (PureD.opD (u_fa rfl rfl Tryd.underlying59 rfl in_9 (Nat.succ_ne_zero _) rfl rfl (ne_of_lt (n := 0) (Nat.lt_of_lt_of_eq (by decide) (Eq.symm (GColumn.len (lrd cols0 t10_0.toNat))))))) ?_
      refine r_on rfl rfl rfl rfl (bfalse h5) rfl (PureD.opD (u_ld rfl rfl Tryd.underlying9 rfl rfl ((Sub.refl _).trans (GColumn.sub0 (lrd cols0 t10_0.toNat))))) ?_
      refine r_on rfl rfl rfl rfl (bfalse h5) rfl (PureD.opD (p_lent rfl Tryd.underlying9 rfl)) ?_
      refine r_on rfl rfl rfl rfl (bfalse h5) rfl (PureD.opD (p_bin rfl rfl rfl rfl)) ?_
      refine rp rfl rfl (p_pkf rfl rfl (bfalse h5) (tb ((or_l (p := (!r'1) = true) (q := (((lrd cols0 t10_0.toNat).Name).length : Int) > (8 : Int)) h5)))) ?_
      refine rp rfl rfl (p_asg rfl rfl) ?_
      refine rs [(0, .p ((fun q : List GColumn => AV.lst (q.flatMap GColumn.cs) q.length) cols0)), (3, .i t10_0), (4, .q 4 (0)), (8, .p ((fun q : List GColumn => AV.lst (q.flatMap GColumn.cs) q.length) cols0)), (9, .i (cols0.length : Int)), (10, .i t10_0), (15, .b (decide (((!r'1) = true) ∨ ((((lrd cols0 t10_0.toNat).Name).length : Int) > (8 : Int)))))] [(4, .pure (GColumn.cs (lrd cols0 t10_0.toNat)))] rfl rfl rfl ?_
      exact RunW_nil rfl
    ·refine AW2_if (p := ((!r'1) = true) ∨ ((((lrd cols0 t10_0.toNat).Name).length : Int) > (8 : Int))) rfl (fun h6 => ?_) (fun h6 => ?_)
     ·replace H := ite_then h6 H
      refine sg [0] rfl ?_
      refine rp rfl rfl (p_asg rfl rfl) ?_
      refine rz [(2, .i (3 : Int))] [] rfl rfl rfl ?_
      refine AW2_ret ?_
      have hz := some_elim H
      subst hz
      exact ⟨rfl, ⟨res_tmp (.same _), trivial⟩, trivial⟩
     ·replace H := ite_else h6 H
      refine AW2_seq ?_
      refine AW2_mid (⟨[(0, .p ((fun q : List GColumn => AV.lst (q.flatMap GColumn.cs) q.length) cols0)), (3, .i t10_0), (4, .q 4 (0)), (8, .p ((fun q : List GColumn => AV.lst (q.flatMap GColumn.cs) q.length) cols0)), (9, .i (cols0.length : Int)), (10, .i t10_0), (26, .b (decide (((((lrd cols0 t10_0.toNat).Kind ≠ (1 : Int)) ∧ ((lrd cols0 t10_0.toNat).Kind ≠ (2 : Int))) ∧ ((lrd cols0 t10_0.toNat).Kind ≠ (3 : Int))) ∧ ((lrd cols0 t10_0.toNat).Kind ≠ (4 : Int)))))], [(4, .pure (GColumn.cs (lrd cols0 t10_0.toNat)))], 54⟩ : TS) ?_ ?_
      ·refine AW2_reg [0, 1, 2, 3, 4, 5, 6, 7, 8, 9, 10, 11, 12, 13, 14, 15, 16, 17, 18] rfl ?_
       refine rp rfl rfl (u_fa rfl rfl Tryd.underlying59 rfl in_3 (Nat.succ_ne_zero _) rfl rfl (ne_of_lt (n := 0) (Nat.lt_of_lt_of_eq (by decide) (Eq.symm (GColumn.len (lrd cols0 t10_0.toNat)))))) ?_
       refine rp rfl rfl (u_ld rfl rfl Tryd.underlying3 rfl rfl ((Sub.refl _).trans (GColumn.sub1 (lrd cols0 t10_0.toNat)))) ?_
       refine rp rfl rfl (p_ine rfl rfl rfl) ?_
       refine rp rfl rfl (p_move rfl rfl) ?_
       refine (Classical.em ((lrd cols0 t10_0.toNat).Kind ≠ (1 : Int))).elim (fun h7 => ?_) (fun h7 => ?_)
       ·refine r_on rfl rfl rfl rfl (decide_eq_true h7) rfl (PureD.opD (u_fa rfl rfl Tryd.underlying59 rfl in_3 (Nat.succ_ne_zero _) rfl rfl (ne_of_lt (n := 0) (Nat.lt_of_lt_of_eq (by decide) (Eq.symm (GColumn.len (lrd cols0 t10_0.toNat))))))) ?_
        refine r_on rfl rfl rfl rfl (decide_eq_true h7) rfl (PureD.opD (u_ld rfl rfl Tryd.underlying3 rfl rfl ((Sub.refl _).trans (GColumn.sub1 (lrd cols0 t10_0.toNat))))) ?_
        refine r_on rfl rfl rfl rfl (decide_eq_true h7) rfl (PureD.opD (p_ine rfl rfl rfl)) ?_
        refine rp rfl rfl (p_pkt rfl rfl (decide_eq_true h7) (tb ((and_l (p := (lrd cols0 t10_0.toNat).Kind ≠ (1 : Int)) (q := (lrd cols0 t10_0.toNat).Kind ≠ (2 : Int)) h7)))) ?_
        refine rp rfl rfl (p_move rfl rfl) ?_
        refine (Classical.em ((lrd cols0 t10_0.toNat).Kind ≠ (2 : Int))).elim (fun h8 => ?_) (fun h8 => ?_)
        ·refine r_on rfl rfl rfl rfl (decide_eq_true (p := ((lrd cols0 t10_0.toNat).Kind ≠ (1 : Int)) ∧ ((lrd cols0 t10_0.toNat).Kind ≠ (2 : Int))) ⟨h7, h8⟩) rfl (PureD.opD (u_fa rfl rfl Tryd.underlying59 rfl in_3 (Nat.succ_ne_zero _) rfl rfl (ne_of_lt (n := 0) (Nat.lt_of_lt_of_eq (by decide) (Eq.symm (GColumn.len (lrd cols0 t10_0.toNat))))))) ?_
         refine r_on rfl rfl rfl rfl (decide_eq_true (p := ((lrd cols0 t10_0.toNat).Kind ≠ (1 : Int)) ∧ ((lrd cols0 t10_0.toNat).Kind ≠ (2 : Int))) ⟨h7, h8⟩) rfl (PureD.opD (u_ld rfl rfl Tryd.underlying3 rfl rfl ((Sub.refl _).trans (GColumn.sub1 (lrd cols0 t10_0.toNat))))) ?_
         refine r_on rfl rfl rfl rfl (decide_eq_true (p := ((lrd cols0 t10_0.toNat).Kind ≠ (1 : Int)) ∧ ((lrd cols0 t10_0.toNat).Kind ≠ (2 : Int))) ⟨h7, h8⟩) rfl (PureD.opD (p_ine rfl rfl rfl)) ?_
         refine rp rfl rfl (p_pkt rfl rfl (decide_eq_true (p := ((lrd cols0 t10_0.toNat).Kind ≠ (1 : Int)) ∧ ((lrd cols0 t10_0.toNat).Kind ≠ (2 : Int))) ⟨h7, h8⟩) (tb ((and_l (p := ((lrd cols0 t10_0.toNat).Kind ≠ (1 : Int)) ∧ ((lrd cols0 t10_0.toNat).Kind ≠ (2 : Int))) (q := (lrd cols0 t10_0.toNat).Kind ≠ (3 : Int)) ⟨h7, h8⟩)))) ?_
         refine rp rfl rfl (p_move rfl rfl) ?_
         refine (Classical.em ((lrd cols0 t10_0.toNat).Kind ≠ (3 : Int))).elim (fun h9 => ?_) (fun h9 => ?_)
         ·refine r_on rfl rfl rfl rfl (decide_eq_true (p := (((lrd cols0 t10_0.toNat).Kind ≠ (1 : Int)) ∧ ((lrd cols0 t10_0.toNat).Kind ≠ (2 : Int))) ∧ ((lrd cols0 t10_0.toNat).Kind ≠ (3 : Int))) ⟨⟨h7, h8⟩, h9⟩) rfl (PureD.opD (u_fa rfl rfl Tryd.underlying59 rfl in_3 (Nat.succ_ne_zero _) rfl rfl (ne_of_lt (n := 0) (Nat.lt_of_lt_of_eq (by decide) (Eq.symm (GColumn.len (lrd cols0 t10_0.toNat))))))) ?_
          refine r_on rfl rfl rfl rfl (decide_eq_true (p := (((lrd cols0 t10_0.toNat).Kind ≠ (1 : Int)) ∧ ((lrd cols0 t10_0.toNat).Kind ≠ (2 : Int))) ∧ ((lrd cols0 t10_0.toNat).Kind ≠ (3 : Int))) ⟨⟨h7, h8⟩, h9⟩) rfl (PureD.opD (u_ld rfl rfl Tryd.underlying3 rfl rfl ((Sub.refl _).trans (GColumn.sub1 (lrd cols0 t10_0.toNat))))) ?_
          refine r_on rfl rfl rfl rfl (decide_eq_true (p := (((lrd cols0 t10_0.toNat).Kind ≠ (1 : Int)) ∧ ((lrd cols0 t10_0.toNat).Kind ≠ (2 : Int))) ∧ ((lrd cols0 t10_0.toNat).Kind ≠ (3 : Int))) ⟨⟨h7, h8⟩, h9⟩) rfl (PureD.opD (p_ine rfl rfl rfl)) ?_
          refine rp rfl rfl (p_pkt rfl rfl (decide_eq_true (p := (((lrd cols0 t10_0.toNat).Kind ≠ (1 : Int)) ∧ ((lrd cols0 t10_0.toNat).Kind ≠ (2 : Int))) ∧ ((lrd cols0 t10_0.toNat).Kind ≠ (3 : Int))) ⟨⟨h7, h8⟩, h9⟩) (tb ((and_l (p := (((lrd cols0 t10_0.toNat).Kind ≠ (1 : Int)) ∧ ((lrd cols0 t10_0.toNat).Kind ≠ (2 : Int))) ∧ ((lrd cols0 t10_0.toNat).Kind ≠ (3 : Int))) (q := (lrd cols0 t10_0.toNat).Kind ≠ (4 : Int)) ⟨⟨h7, h8⟩, h9⟩)))) ?_
          refine rp rfl rfl (p_asg rfl rfl) ?_
          refine rs [(0, .p ((fun q : List GColumn => AV.lst (q.flatMap GColumn.cs) q.length) cols0)), (3, .i t10_0), (4, .q 4 (0)), (8, .p ((fun q : List GColumn => AV.lst (q.flatMap GColumn.cs) q.length) cols0)), (9, .i (cols0.length : Int)), (10, .i t10_0), (26, .b (decide (((((lrd cols0 t10_0.toNat).Kind ≠ (1 : Int)) ∧ ((lrd cols0 t10_0.toNat).Kind ≠ (2 : Int))) ∧ ((lrd cols0 t10_0.toNat).Kind ≠ (3 : Int))) ∧ ((lrd cols0 t10_0.toNat).Kind ≠ (4 : Int)))))] [(4, .pure (GColumn.cs (lrd cols0 t10_0.toNat)))] rfl rfl rfl ?_
          exact RunW_nil rfl
         ·refine r_off rfl rfl rfl rfl (decide_eq_false (p := (((lrd cols0 t10_0.toNat).Kind ≠ (1 : Int)) ∧ ((lrd cols0 t10_0.toNat).Kind ≠ (2 : Int))) ∧ ((lrd cols0 t10_0.toNat).Kind ≠ (3 : Int))) (fun h => h9 h.2)) rfl rfl ?_
          refine r_off rfl rfl rfl rfl (decide_eq_false (p := (((lrd cols0 t10_0.toNat).Kind ≠ (1 : Int)) ∧ ((lrd cols0 t10_0.toNat).Kind ≠ (2 : Int))) ∧ ((lrd cols0 t10_0.toNat).Kind ≠ (3 : Int))) (fun h => h9 h.2)) rfl rfl ?_
          refine r_off rfl rfl rfl rfl (decide_eq_false (p := (((lrd cols0 t10_0.toNat).Kind ≠ (1 : Int)) ∧ ((lrd cols0 t10_0.toNat).Kind ≠ (2 : Int))) ∧ ((lrd cols0 t10_0.toNat).Kind ≠ (3 : Int))) (fun h => h9 h.2)) rfl rfl ?_
          refine rp rfl rfl (p_pkf rfl rfl (decide_eq_false (p := (((lrd cols0 t10_0.toNat).Kind ≠ (1 : Int)) ∧ ((lrd cols0 t10_0.toNat).Kind ≠ (2 : Int))) ∧ ((lrd cols0 t10_0.toNat).Kind ≠ (3 : Int))) (fun h => h9 h.2)) (tb (decide_eq_false (p := ((((lrd cols0 t10_0.toNat).Kind ≠ (1 : Int)) ∧ ((lrd cols0 t10_0.toNat).Kind ≠ (2 : Int))) ∧ ((lrd cols0 t10_0.toNat).Kind ≠ (3 : Int))) ∧ ((lrd cols0 t10_0.toNat).Kind ≠ (4 : Int))) (fun x => (fun h => h9 h.2) x.1)).symm)) ?_
          refine rp rfl rfl (p_asg rfl rfl) ?_
          refine rs [(0, .p ((fun q : List GColumn => AV.lst (q.flatMap GColumn.cs) q.length) cols0)), (3, .i t10_0), (4, .q 4 (0)), (8, .p ((fun q : List GColumn => AV.lst (q.flatMap GColumn.cs) q.length) cols0)), (9, .i (cols0.length : Int)), (10, .i t10_0), (26, .b (decide (((((lrd cols0 t10_0.toNat).Kind ≠ (1 : Int)) ∧ ((lrd cols0 t10_0.toNat).Kind ≠ (2 : Int))) ∧ ((lrd cols0 t10_0.toNat).Kind ≠ (3 : Int))) ∧ ((lrd cols0 t10_0.toNat).Kind ≠ (4 : Int)))))] [(4, .pure (GColumn.cs (lrd cols0 t10_0.toNat)))] rfl rfl rfl ?_
          exact RunW_nil rfl
        ·refine r_off rfl rfl rfl rfl (decide_eq_false (p := ((lrd cols0 t10_0.toNat).Kind ≠ (1 : Int)) ∧ ((lrd cols0 t10_0.toNat).Kind ≠ (2 : Int))) (fun h => h8 h.2)) rfl rfl ?_
         refine r_off rfl rfl rfl rfl (decide_eq_false (p := ((lrd cols0 t10_0.toNat).Kind ≠ (1 : Int)) ∧ ((lrd cols0 t10_0.toNat).Kind ≠ (2 : Int))) (fun h => h8 h.2)) rfl rfl ?_
         refine r_off rfl rfl rfl rfl (decide_eq_false (p := ((lrd cols0 t10_0.toNat).Kind ≠ (1 : Int)) ∧ ((lrd cols0 t10_0.toNat).Kind ≠ (2 : Int))) (fun h => h8 h.2)) rfl rfl ?_
         refine rp rfl rfl (p_pkf rfl rfl (decide_eq_false (p := ((lrd cols0 t10_0.toNat).Kind ≠ (1 : Int)) ∧ ((lrd cols0 t10_0.toNat).Kind ≠ (2 : Int))) (fun h => h8 h.2)) (tb (decide_eq_false (p := (((lrd cols0 t10_0.toNat).Kind ≠ (1 : Int)) ∧ ((lrd cols0 t10_0.toNat).Kind ≠ (2 : Int))) ∧ ((lrd cols0 t10_0.toNat).Kind ≠ (3 : Int))) (fun x => (fun h => h8 h.2) x.1)).symm)) ?_
         refine rp rfl rfl (p_move rfl rfl) ?_
         refine r_off rfl rfl rfl rfl (decide_eq_false (p := (((lrd cols0 t10_0.toNat).Kind ≠ (1 : Int)) ∧ ((lrd cols0 t10_0.toNat).Kind ≠ (2 : Int))) ∧ ((lrd cols0 t10_0.toNat).Kind ≠ (3 : Int))) (fun h => (fun h => h8 h.2) h.1)) rfl rfl ?_
         refine r_off rfl rfl rfl rfl (decide_eq_false (p := (((lrd cols0 t10_0.toNat).Kind ≠ (1 : Int)) ∧ ((lrd cols0 t10_0.toNat).Kind ≠ (2 : Int))) ∧ ((lrd cols0 t10_0.toNat).Kind ≠ (3 : Int))) (fun h => (fun h => h8 h.2) h.1)) rfl rfl ?_
         refine r_off rfl rfl rfl rfl (decide_eq_false (p := (((lrd cols0 t10_0.toNat).Kind ≠ (1 : Int)) ∧ ((lrd cols0 t10_0.toNat).Kind ≠ (2 : Int))) ∧ ((lrd cols0 t10_0.toNat).Kind ≠ (3 : Int))) (fun h => (fun h => h8 h.2) h.1)) rfl rfl ?_
         refine rp rfl rfl (p_pkf rfl rfl (decide_eq_false (p := (((lrd cols0 t10_0.toNat).Kind ≠ (1 : Int)) ∧ ((lrd cols0 t10_0.toNat).Kind ≠ (2 : Int))) ∧ ((lrd cols0 t10_0.toNat).Kind ≠ (3 : Int))) (fun h => (fun h => h8 h.2) h.1)) (tb (decide_eq_false (p := ((((lrd cols0 t10_0.toNat).Kind ≠ (1 : Int)) ∧ ((lrd cols0 t10_0.toNat).Kind ≠ (2 : Int))) ∧ ((lrd cols0 t10_0.toNat).Kind ≠ (3 : Int))) ∧ ((lrd cols0 t10_0.toNat).Kind ≠ (4 : Int))) (fun x => (fun h => (fun h => h8 h.2) h.1) x.1)).symm)) ?_
         refine rp rfl rfl (p_asg rfl rfl) ?_
         refine rs [(0, .p ((fun q : List GColumn => AV.lst (q.flatMap GColumn.cs) q.length) cols0)), (3, .i t10_0), (4, .q 4 (0)), (8, .p ((fun q : List GColumn => AV.lst (q.flatMap GColumn.cs) q.length) cols0)), (9, .i (cols0.length : Int)), (10, .i t10_0), (26, .b (decide (((((lrd cols0 t10_0.toNat).Kind ≠ (1 : Int)) ∧ ((lrd cols0 t10_0.toNat).Kind ≠ (2 : Int))) ∧ ((lrd cols0 t10_0.toNat).Kind ≠ (3 : Int))) ∧ ((lrd cols0 t10_0.toNat).Kind ≠ (4 : Int)))))] [(4, .pure (GColumn.cs (lrd cols0 t10_0.toNat)))] rfl rfl rfl ?_
         exact RunW_nil rfl
       ·refine r_off rfl rfl rfl rfl (decide_eq_false h7) rfl rfl ?_
        refine r_off rfl rfl rfl rfl (decide_eq_false h7) rfl rfl ?_
        refine r_off rfl rfl rfl rfl (decide_eq_false h7) rfl rfl ?_
        refine rp rfl rfl (p_pkf rfl rfl (decide_eq_false h7) (tb (decide_eq_false (p := ((lrd cols0 t10_0.toNat).Kind ≠ (1 : Int)) ∧ ((lrd cols0 t10_0.toNat).Kind ≠ (2 : Int))) (fun x => h7 x.1)).symm)) ?_
        refine rp rfl rfl (p_move rfl rfl) ?_
        refine r_off rfl rfl rfl rfl (decide_eq_false (p := ((lrd cols0 t10_0.toNat).Kind ≠ (1 : Int)) ∧ ((lrd cols0 t10_0.toNat).Kind ≠ (2 : Int))) (fun h => h7 h.1)) rfl rfl ?_
        refine r_off rfl rfl rfl rfl (decide_eq_false (p := ((lrd cols0 t10_0.toNat).Kind ≠ (1 : Int)) ∧ ((lrd cols0 t10_0.toNat).Kind ≠ (2 : Int))) (fun h => h7 h.1)) rfl rfl ?_
        refine r_off rfl rfl rfl rfl (decide_eq_false (p := ((lrd cols0 t10_0.toNat).Kind ≠ (1 : Int)) ∧ ((lrd cols0 t10_0.toNat).Kind ≠ (2 : Int))) (fun h => h7 h.1)) rfl rfl ?_
        refine rp rfl rfl (p_pkf rfl rfl (decide_eq_false (p := ((lrd cols0 t10_0.toNat).Kind ≠ (1 : Int)) ∧ ((lrd cols0 t10_0.toNat).Kind ≠ (2 : Int))) (fun h => h7 h.1)) (tb (decide_eq_false (p := (((lrd cols0 t10_0.toNat).Kind ≠ (1 : Int)) ∧ ((lrd cols0 t10_0.toNat).Kind ≠ (2 : Int))) ∧ ((lrd cols0 t10_0.toNat).Kind ≠ (3 : Int))) (fun x => (fun h => h7 h.1) x.1)).symm)) ?_
        refine rp rfl rfl (p_move rfl rfl) ?_
        refine r_off rfl rfl rfl rfl (decide_eq_false (p := (((lrd cols0 t10_0.toNat).Kind ≠ (1 : Int)) ∧ ((lrd cols0 t10_0.toNat).Kind ≠ (2 : Int))) ∧ ((lrd cols0 t10_0.toNat).Kind ≠ (3 : Int))) (fun h => (fun h => h7 h.1) h.1)) rfl rfl ?_
        refine r_off rfl rfl rfl rfl (decide_eq_false (p := (((lrd cols0 t10_0.toNat).Kind ≠ (1 : Int)) ∧ ((lrd cols0 t10_0.toNat).Kind ≠ (2 : Int))) ∧ ((lrd cols0 t10_0.toNat).Kind ≠ (3 : Int))) (fun h => (fun h => h7 h.1) h.1)) rfl rfl ?_
        refine r_off rfl rfl rfl rfl (decide_eq_false (p := (((lrd cols0 t10_0.toNat).Kind ≠ (1 : Int)) ∧ ((lrd cols0 t10_0.toNat).Kind ≠ (2 : Int))) ∧ ((lrd cols0 t10_0.toNat).Kind ≠ (3 : Int))) (fun h => (fun h => h7 h.1) h.1)) rfl rfl ?_
        refine rp rfl rfl (p_pkf rfl rfl (decide_eq_false (p := (((lrd cols0 t10_0.toNat).Kind ≠ (1 : Int)) ∧ ((lrd cols0 t10_0.toNat).Kind ≠ (2 : Int))) ∧ ((lrd cols0 t10_0.toNat).Kind ≠ (3 : Int))) (fun h => (fun h => h7 h.1) h.1)) (tb (decide_eq_false (p := ((((lrd cols0 t10_0.toNat).Kind ≠ (1 : Int)) ∧ ((lrd cols0 t10_0.toNat).Kind ≠ (2 : Int))) ∧ ((lrd cols0 t10_0.toNat).Kind ≠ (3 : Int))) ∧ ((lrd cols0 t10_0.toNat).Kind ≠ (4 : Int))) (fun x => (fun h => (fun h => h7 h.1) h.1) x.1)).symm)) ?_
        refine rp rfl rfl (p_asg rfl rfl) ?_
        refine rs [(0, .p ((fun q : List GColumn => AV.lst (q.flatMap GColumn.cs) q.length) cols0)), (3, .i t10_0), (4, .q 4 (0)), (8, .p ((fun q : List GColumn => AV.lst (q.flatMap GColumn.cs) q.length) cols0)), (9, .i (cols0.length : Int)), (10, .i t10_0), (26, .b (decide (((((lrd cols0 t10_0.toNat).Kind ≠ (1 : Int)) ∧ ((lrd cols0 t10_0.toNat).Kind ≠ (2 : Int))) ∧ ((lrd cols0 t10_0.toNat).Kind ≠ (3 : Int))) ∧ ((lrd cols0 t10_0.toNat).Kind ≠ (4 : Int)))))] [(4, .pure (GColumn.cs (lrd cols0 t10_0.toNat)))] rfl rfl rfl ?_
        exact RunW_nil rfl
      ·refine gen1 (fun t26'2 => (⟨[(0, .p ((fun q : List GColumn => AV.lst (q.flatMap GColumn.cs) q.length) cols0)), (3, .i t10_0), (4, .q 4 (0)), (8, .p ((fun q : List GColumn => AV.lst (q.flatMap GColumn.cs) q.length) cols0)), (9, .i (cols0.length : Int)), (10, .i t10_0), (26, .b t26'2)], [(4, .pure (GColumn.cs (lrd cols0 t10_0.toNat)))], 54⟩ : TS)) H ?_
       intro t26'2 H
       refine AW2_cond rfl (fun h10 => ?_) (fun h10 => ?_)
       ·replace H := ite_then h10 H
        refine sg [0] rfl ?_
        refine rp rfl rfl (p_asg rfl rfl) ?_
        refine rz [(2, .i (2 : Int))] [] rfl rfl rfl ?_
        refine AW2_ret ?_
        have hz := some_elim H
        subst hz
        exact ⟨rfl, ⟨res_tmp (.same _), trivial⟩, trivial⟩
       ·replace H := ite_else (ne_true h10) H
        refine AW2_seq ?_
        refine chkK H fun h11 H => ?_
        refine bindK H fun r'3 h12 H => ?_
        refine AW2_ghoQ ?_
        refine AW2_draw 5 [5, 6, 7] (fun k => ([.p ((fun q : List GColumn => AV.lst (q.flatMap GColumn.cs) q.length) cols0), .i t10_0, .p ((fun q : List GColumn => AV.lst (q.flatMap GColumn.cs) q.length) (cut cols0 (0 : Int) t10_0)), .q 4 (0 + 0), .t ((lrd cols0 t10_0.toNat).Name)] : List TV).getD k TV.any) (fun k => g_ref_ColumnsFault_r10.getD k []) [(0, none), (8, none), (9, none), (10, none), (48, some 2), (50, some 4)] [] (fun k => g_ref_ColumnsFault_r10c.getD k []) mixed (by kernel_rfl) rfl rfl (a_op (g_x rfl (x_p rfl (p_move rfl rfl) rfl)) (a_op (g_x rfl (x_p rfl (p_move rfl rfl) rfl)) (a_op (g_x rfl (x_p rfl (u_cutl (g := (fun l => l.flatMap GColumn.cs)) (a := (0 : Int)) (b := t10_0) rfl rfl Tryd.underlying28 in_59 rfl bT_zero (bT_i (Int.le_trans (show 0 ≤ (0 : Int) ∧ (0 : Int) ≤ t10_0 ∧ t10_0 ≤ (cols0.length : Int) from ⟨Int.le_refl _, h11.1, h11.2⟩).1 (show 0 ≤ (0 : Int) ∧ (0 : Int) ≤ t10_0 ∧ t10_0 ≤ (cols0.length : Int) from ⟨Int.le_refl _, h11.1, h11.2⟩).2.1) rfl) (.inl rfl) (show 0 ≤ (0 : Int) ∧ (0 : Int) ≤ t10_0 ∧ t10_0 ≤ (cols0.length : Int) from ⟨Int.le_refl _, h11.1, h11.2⟩) (g_fm (fun x => (GColumn.len x)))) rfl)) (a_op (g_x rfl (x_p rfl (u_fa rfl rfl Tryd.underlying59 rfl in_9 (Nat.succ_ne_zero _) rfl rfl (ne_of_lt (n := 0) (Nat.lt_of_lt_of_eq (by decide) (Eq.symm (GColumn.len (lrd cols0 t10_0.toNat)))))) rfl)) (a_op (g_x rfl (x_p rfl (u_ld rfl rfl Tryd.underlying9 rfl rfl ((Sub.refl _).trans (GColumn.sub0 (lrd cols0 t10_0.toNat)))) rfl)) (a_nil)))))) ?_
        refine t_op rfl rfl (PureD.opD (p_callp rfl rfl rfl Tryd.func27 rfl rfl (g_ref_columnAt_ac h12) ⟨rfl, rfl, trivial⟩)) ?_
        refine t_op rfl rfl (PureD.opD (p_bin rfl rfl rfl rfl)) ?_
        refine t_op rfl rfl (PureD.opD (p_asg rfl rfl)) ?_
        refine t_gho (Gho_st (L := [(0, .p ((fun q : List GColumn => AV.lst (q.flatMap GColumn.cs) q.length) cols0)), (8, .p ((fun q : List GColumn => AV.lst (q.flatMap GColumn.cs) q.length) cols0)), (9, .i (cols0.length : Int)), (10, .i t10_0), (45, .b (decide (r'3 ≥ (0 : Int))))]) (H := []) (N := 54) rfl ⟨TLes.same _, TLes.same _, TLes.same _, TLes.same _, TLes.same _, trivial⟩ trivial) ?_
        refine AW2_if (p := r'3 ≥ (0 : Int)) rfl (fun h13 => ?_) (fun h13 => ?_)
        ·replace H := ite_then h13 H
         refine sg [0] rfl ?_
         refine rp rfl rfl (p_asg rfl rfl) ?_
         refine rz [(2, .i (8 : Int))] [] rfl rfl rfl ?_
         refine AW2_ret ?_
         have hz := some_elim H
         subst hz
         exact ⟨rfl, ⟨res_tmp (.same _), trivial⟩, trivial⟩
        ·replace H := ite_else h13 H
         refine as2 [(0, .p ((fun q : List GColumn => AV.lst (q.flatMap GColumn.cs) q.length) cols0)), (8, .p ((fun q : List GColumn => AV.lst (q.flatMap GColumn.cs) q.length) cols0)), (9, .i (cols0.length : Int)), (10, .i t10_0)] [] rfl rfl rfl ?_
         refine AW2_skip ?_
         refine AW2_reg [0, 1] rfl ?_
         refine rp rfl rfl (p_bin rfl rfl rfl rfl) ?_
         refine rp rfl rfl (p_move rfl rfl) ?_
         refine rz [(0, .p ((fun q : List GColumn => AV.lst (q.flatMap GColumn.cs) q.length) cols0)), (8, .p ((fun q : List GColumn => AV.lst (q.flatMap GColumn.cs) q.length) cols0)), (9, .i (cols0.length : Int)), (10, .i (w64 (t10_0 + (1 : Int))))] [] rfl rfl rfl ?_
         have hz := some_elim H
         subst hz
         exact ⟨rfl, rfl⟩
   ·replace H := ite_else h2 H
    refine as2 [] [] rfl rfl rfl ?_
    refine AW2_exit ?_
    refine thenQ2_exit ?_
    have hz := some_elim H
    subst hz
    exact ⟨rfl, rfl⟩
  ·rcases o'7 with y'8 | y'9
   ·obtain ⟨rfl, hs⟩ := hs
    refine ⟨by simp, ?_⟩
    have hz := some_elim H
    subst hz
    exact ⟨hs.1, hs.2⟩
   ·obtain ⟨rfl, rfl⟩ := hs
    refine ⟨by simp, ?_⟩
    refine blockQ2_exit ?_
    refine sg [0] rfl ?_
    refine rp rfl rfl (p_asg rfl rfl) ?_
    refine rz [(2, .i (0 : Int))] [] rfl rfl rfl ?_
    refine AW2_ret ?_
    have hz := some_elim H
    subst hz
    exact ⟨⟨res_tmp (.same _), trivial⟩, trivial⟩

/-! chirographref.asksFor -/
noncomputable def g_ref_asksFor (op0 : Int) : Option (Int × Int) :=
  ((if op0 = (3 : Int) then some (decide (op0 = (3 : Int))) else (if op0 = (5 : Int) then some (decide (op0 = (5 : Int))) else (if op0 = (6 : Int) then some (decide (op0 = (6 : Int))) else (if op0 = (7 : Int) then some (decide (op0 = (7 : Int))) else some (decide (op0 = (8 : Int)))))))).bind fun j'1 => (if j'1 = true then some ((2 : Int), (2 : Int)) else ((if op0 = (4 : Int) then some (decide (op0 = (4 : Int))) else (if op0 = (15 : Int) then some (decide (op0 = (15 : Int))) else some (decide (op0 = (16 : Int)))))).bind fun j'2 => (if j'2 = true then some ((1 : Int), (1 : Int)) else (if op0 = (18 : Int) then some ((4 : Int), (2 : Int)) else (if op0 = (19 : Int) then some ((4 : Int), (4 : Int)) else (if op0 = (20 : Int) then some ((0 : Int), (0 : Int)) else some ((0 : Int), (1 : Int)))))))
set_option maxHeartbeats 4000000 in
set_option maxRecDepth 100000 in
theorem g_ref_asksFor_ac {op0 : Int} {r : Int × Int} (H : g_ref_asksFor op0 = some r) : ACp Tryd.prog 49 [(AV.int op0)] (.tup [(AV.int r.1), (AV.int r.2)]) := by
 refine ACp_of (AC2_of_body (vs := [.i r.1, .i r.2]) Tryd.func49 rfl rfl (Nat.le_of_ble_eq_true rfl) rfl ?_) (fun _ => .same _)
 unfold g_ref_asksFor at H
 refine as2 [(0, .i op0)] [] rfl rfl rfl ?_
 refine sg [0, 1] rfl ?_
 refine rp rfl rfl (p_asg rfl rfl) ?_
 refine rp rfl rfl (p_asg rfl rfl) ?_
 refine rz [(0, .i op0)] [] rfl rfl rfl ?_
 refine AW2_seq ?_
 refine sg [0] rfl ?_
 refine rp rfl rfl (p_move rfl rfl) ?_
 refine rz [(4, .i op0)] [] rfl rfl rfl ?_
 refine AW2_block ?_
 refine AW2_seq ?_
 refine bindK H fun j'1 h1 H => ?_
 refine AW2_mid (⟨[(4, .i op0), (5, .b j'1)], [], 21⟩ : TS) ?_ ?_
 ·clear H
  have H := h1
  clear h1
  refine sg [0, 1] rfl ?_
  refine rp rfl rfl (p_ieq rfl rfl rfl) ?_
  refine rp rfl rfl (p_asg rfl rfl) ?_
  refine rz [(4, .i op0), (5, .b (decide (op0 = (3 : Int))))] [] rfl rfl rfl ?_
  refine AW2_if (p := op0 = (3 : Int)) rfl (fun h2 => ?_) (fun h2 => ?_)
  ·replace H := ite_then h2 H
   refine AW2_skip ?_
   have hz := some_elim H
   subst hz
   exact rfl
  ·replace H := ite_else h2 H
   refine sg [0, 1] rfl ?_
   refine rp rfl rfl (p_ieq rfl rfl rfl) ?_
   refine rp rfl rfl (p_asg rfl rfl) ?_
   refine rz [(4, .i op0), (5, .b (decide (op0 = (5 : Int))))] [] rfl rfl rfl ?_
   refine AW2_if (p := op0 = (5 : Int)) rfl (fun h3 => ?_) (fun h3 => ?_)
   ·replace H := ite_then h3 H
    refine AW2_skip ?_
    have hz := some_elim H
    subst hz
    exact rfl
   ·replace H := ite_else h3 H
    refine sg [0, 1] rfl ?_
    refine rp rfl rfl (p_ieq rfl rfl rfl) ?_
    refine rp rfl rfl (p_asg rfl rfl) ?_
    refine rz [(4, .i op0), (5, .b (decide (op0 = (6 : Int))))] [] rfl rfl rfl ?_
    refine AW2_if (p := op0 = (6 : Int)) rfl (fun h4 => ?_) (fun h4 => ?_)
    ·replace H := ite_then h4 H
     refine AW2_skip ?_
     have hz := some_elim H
     subst hz
     exact rfl
    ·replace H := ite_else h4 H
     refine sg [0, 1] rfl ?_
     refine rp rfl rfl (p_ieq rfl rfl rfl) ?_
     refine rp rfl rfl (p_asg rfl rfl) ?_
     refine rz [(4, .i op0), (5, .b (decide (op0 = (7 : Int))))] [] rfl rfl rfl ?_
     refine AW2_if (p := op0 = (7 : Int)) rfl (fun h5 => ?_) (fun h5 => ?_)
     ·replace H := ite_then h5 H
      refine AW2_skip ?_
      have hz := some_elim H
      subst hz
      exact rfl
     ·replace H := ite_else h5 H
      refine AW2_reg [0, 1] rfl ?_
      refine rp rfl rfl (p_ieq rfl rfl rfl) ?_
      refine rp rfl rfl (p_asg rfl rfl) ?_
      refine rz [(4, .i op0), (5, .b (decide (op0 = (8 : Int))))] [] rfl rfl rfl ?_
      have hz := some_elim H
      subst hz
      exact rfl
 ·refine AW2_cond rfl (fun h6 => ?_) (fun h6 => ?_)
  ·replace H := ite_then h6 H
   refine sg [0, 1] rfl ?_
   refine rp rfl rfl (p_asg rfl rfl) ?_
   refine rp rfl rfl (p_asg rfl rfl) ?_
   refine rz [(2, .i (2 : Int)), (3, .i (2 : Int))] [] rfl rfl rfl ?_
   refine AW2_ret ?_
   have hz := some_elim H
   subst hz
   exact ⟨⟨res_tmp (.same _), res_tmp (.same _), trivial⟩, trivial⟩
  ·replace H := ite_else (ne_true h6) H
   refine AW2_seq ?_
   refine bindK H fun j'2 h7 H => ?_
   refine AW2_mid (⟨[(4, .i op0), (11, .b j'2)], [], 21⟩ : TS) ?_ ?_
   ·clear H
    have H := h7
    clear h7
    refine sg [0, 1] rfl ?_
    refine rp rfl rfl (p_ieq rfl rfl rfl) ?_
    refine rp rfl rfl (p_asg rfl rfl) ?_
    refine rz [(4, .i op0), (11, .b (decide (op0 = (4 : Int))))] [] rfl rfl rfl ?_
    refine AW2_if (p := op0 = (4 : Int)) rfl (fun h8 => ?_) (fun h8 => ?_)
    ·replace H := ite_then h8 H
     refine AW2_skip ?_
     have hz := some_elim H
     subst hz
     exact rfl
    ·replace H := ite_else h8 H
     refine sg [0, 1] rfl ?_
     refine rp rfl rfl (p_ieq rfl rfl rfl) ?_
     refine rp rfl rfl (p_asg rfl rfl) ?_
     refine rz [(4, .i op0), (11, .b (decide (op0 = (15 : Int))))] [] rfl rfl rfl ?_
     refine AW2_if (p := op0 = (15 : Int)) rfl (fun h9 => ?_) (fun h9 => ?_)
     ·replace H := ite_then h9 H
      refine AW2_skip ?_
      have hz := some_elim H
      subst hz
      exact rfl
     ·replace H := ite_else h9 H
      refine AW2_reg [0, 1] rfl ?_
      refine rp rfl rfl (p_ieq rfl rfl rfl) ?_
      refine rp rfl rfl (p_asg rfl rfl) ?_
      refine rz [(4, .i op0), (11, .b (decide (op0 = (16 : Int))))] [] rfl rfl rfl ?_
      have hz := some_elim H
      subst hz
      exact rfl
   ·refine AW2_cond rfl (fun h10 => ?_) (fun h10 => ?_)
    ·replace H := ite_then h10 H
     refine sg [0, 1] rfl ?_
     refine rp rfl rfl (p_asg rfl rfl) ?_
     refine rp rfl rfl (p_asg rfl rfl) ?_
     refine rz [(2, .i (1 : Int)), (3, .i (1 : Int))] [] rfl rfl rfl ?_
     refine AW2_ret ?_
     have hz := some_elim H
     subst hz
     exact ⟨⟨res_tmp (.same _), res_tmp (.same _), trivial⟩, trivial⟩
    ·replace H := ite_else (ne_true h10) H
     refine sg [0, 1] rfl ?_
     refine rp rfl rfl (p_ieq rfl rfl rfl) ?_
     refine rp rfl rfl (p_asg rfl rfl) ?_
     refine rz [(4, .i op0), (15, .b (decide (op0 = (18 : Int))))] [] rfl rfl rfl ?_
     refine AW2_if (p := op0 = (18 : Int)) rfl (fun h11 => ?_) (fun h11 => ?_)
     ·replace H := ite_then h11 H
      refine sg [0, 1] rfl ?_
      refine rp rfl rfl (p_asg rfl rfl) ?_
      refine rp rfl rfl (p_asg rfl rfl) ?_
      refine rz [(2, .i (4 : Int)), (3, .i (2 : Int))] [] rfl rfl rfl ?_
      refine AW2_ret ?_
      have hz := some_elim H
      subst hz
      exact ⟨⟨res_tmp (.same _), res_tmp (.same _), trivial⟩, trivial⟩
     ·replace H := ite_else h11 H
      refine sg [0, 1] rfl ?_
      refine rp rfl rfl (p_ieq rfl rfl rfl) ?_
      refine rp rfl rfl (p_asg rfl rfl) ?_
      refine rz [(4, .i op0), (17, .b (decide (op0 = (19 : Int))))] [] rfl rfl rfl ?_
      refine AW2_if (p := op0 = (19 : Int)) rfl (fun h12 => ?_) (fun h12 => ?_)
      ·replace H := ite_then h12 H
       refine sg [0, 1] rfl ?_
       refine rp rfl rfl (p_asg rfl rfl) ?_
       refine rp rfl rfl (p_asg rfl rfl) ?_
       refine rz [(2, .i (4 : Int)), (3, .i (4 : Int))] [] rfl rfl rfl ?_
       refine AW2_ret ?_
       have hz := some_elim H
       subst hz
       exact ⟨⟨res_tmp (.same _), res_tmp (.same _), trivial⟩, trivial⟩
      ·replace H := ite_else h12 H
       refine sg [0, 1] rfl ?_
       refine rp rfl rfl (p_ieq rfl rfl rfl) ?_
       refine rp rfl rfl (p_asg rfl rfl) ?_
       refine rz [(19, .b (decide (op0 = (20 : Int))))] [] rfl rfl rfl ?_
       refine AW2_if (p := op0 = (20 : Int)) rfl (fun h13 => ?_) (fun h13 => ?_)
       ·replace H := ite_then h13 H
        refine sg [0, 1] rfl ?_
        refine rp rfl rfl (p_asg rfl rfl) ?_
        refine rp rfl rfl (p_asg rfl rfl) ?_
        refine rz [(2, .i (0 : Int)), (3, .i (0 : Int))] [] rfl rfl rfl ?_
        refine AW2_ret ?_
        have hz := some_elim H
        subst hz
        exact ⟨⟨res_tmp (.same _), res_tmp (.same _), trivial⟩, trivial⟩
       ·replace H := ite_else h13 H
        refine as2 [] [] rfl rfl rfl ?_
        refine AW2_skip ?_
        refine sg [0, 1] rfl ?_
        refine rp rfl rfl (p_asg rfl rfl) ?_
        refine rp rfl rfl (p_asg rfl rfl) ?_
        refine rz [(2, .i (0 : Int)), (3, .i (1 : Int))] [] rfl rfl rfl ?_
        refine AW2_ret ?_
        have hz := some_elim H
        subst hz
        exact ⟨⟨res_tmp (.same _), res_tmp (.same _), trivial⟩, trivial⟩

/-! chirographref.kindOf -/
def g_ref_kindOf_r2 : List (List (Nat × Option Nat)) := [[(2, none)], [(21, some 0)], [(22, some 1)], [(2, none)], [(24, some 3)], [(25, some 4)], [(26, some 5)], [(23, some 2)]]
def g_ref_kindOf_r2c : List (List Nat) := [[], [0], [0, 1], [], [3], [3, 4], [3, 4, 5], [0, 1, 2], [0, 1, 2, 3, 4, 5, 6, 7], [0, 1, 2, 3, 4, 5, 6, 7, 8]]
def g_ref_kindOf_r7 : List (List (Nat × Option Nat)) := [[(1, none)], [(7, none)], [(37, some 0), (38, some 1)], [(39, some 2)], [(40, some 3)], [(1, none)], [(7, none)], [(42, some 5), (43, some 6)], [(44, some 7)], [(45, some 8)], [(41, some 4)]]
def g_ref_kindOf_r7c : List (List Nat) := [[], [], [0, 1], [0, 1, 2], [0, 1, 2, 3], [], [], [5, 6], [5, 6, 7], [5, 6, 7, 8], [0, 1, 2, 3, 4], [0, 1, 2, 3, 4, 5, 6, 7, 8, 9, 10], [0, 1, 2, 3, 4, 5, 6, 7, 8, 9, 10, 11]]
noncomputable def g_ref_kindOf_l0 (e0 : GExpr) (cols1 : List GColumn) (R' : GExpr → (List GColumn) → Option (Int × Bool × Int)) : Bool × Bool × Int × Bool × Int → Option ((Bool × Bool × Int × Bool × Int) ⊕ ((Int × Bool × Int) ⊕ (Bool × Bool × Int × Bool)))
  | (some8_0, all9_0, asks10_0, clash12_0, t56_0) => (if t56_0 < (e0.Args.length : Int) then (show Option ((Int × Bool × Int) ⊕ (Bool × Bool × Int × Bool)) from if 0 ≤ t56_0 ∧ t56_0 < (e0.Args.length : Int) then (R' (lrd e0.Args t56_0.toNat) cols1).bind fun r'4 => (if r'4.2.2 ≠ (0 : Int) then some (.inl ((0 : Int), false, r'4.2.2)) else (if (e0.Op = (17 : Int)) ∨ (r'4.1 = (0 : Int)) then some (.inr ((decide ((some8_0 = true) ∨ (r'4.2.1 = true))), (decide ((all9_0 = true) ∧ (r'4.2.1 = true))), asks10_0, clash12_0)) else ((if asks10_0 = (0 : Int) then some r'4.1 else some asks10_0)).bind fun j'5 => some (.inr ((decide ((some8_0 = true) ∨ (r'4.2.1 = true))), (decide ((all9_0 = true) ∧ (r'4.2.1 = true))), j'5, (decide ((clash12_0 = true) ∨ (r'4.1 ≠ j'5))))))) else none).bind fun o'7 => match o'7 with | .inl y'6 => some (.inr (.inl y'6)) | .inr j'3 => some (.inl (j'3.1, j'3.2.1, j'3.2.2.1, j'3.2.2.2, w64 (t56_0 + (1 : Int)))) else some (.inr (.inr (some8_0, all9_0, asks10_0, clash12_0))))
noncomputable def g_ref_kindOf_b (R' : GExpr → (List GColumn) → Option (Int × Bool × Int)) (e0 : GExpr) (cols1 : List GColumn) : Option (Int × Bool × Int) :=
  (if e0.Op = (1 : Int) then some (e0.Value.Kind, (decide (e0.Value.Kind = (0 : Int))), (0 : Int)) else (if e0.Op = (2 : Int) then (g_ref_columnAt cols1 e0.Name).bind fun r'1 => (if r'1 < (0 : Int) then some ((0 : Int), false, (5 : Int)) else if 0 ≤ r'1 ∧ r'1 < (cols1.length : Int) then if 0 ≤ r'1 ∧ r'1 < (cols1.length : Int) then some ((lrd cols1 r'1.toNat).Kind, (lrd cols1 r'1.toNat).Null, (0 : Int)) else none else none) else (g_ref_asksFor e0.Op).bind fun r'2 => (loopO (g_ref_kindOf_l0 e0 cols1 R') (false, true, r'2.1, false, (0 : Int))).bind fun o'11 => match o'11 with | .inl y'12 => some y'12 | .inr (y'13) => (if y'13.2.2.2 = true then some ((0 : Int), false, (2 : Int)) else (if e0.Op = (17 : Int) then some ((1 : Int), false, (0 : Int)) else (if e0.Op = (20 : Int) then some (y'13.2.2.1, y'13.2.1, (0 : Int)) else some (r'2.2, y'13.1, (0 : Int)))))))
noncomputable def g_ref_kindOf : Nat → GExpr → (List GColumn) → Option (Int × Bool × Int)
  | 0, _, _ => none
  | fu + 1, e0, cols1 => g_ref_kindOf_b (g_ref_kindOf fu) e0 cols1
set_option maxHeartbeats 4000000 in
set_option maxRecDepth 100000 in
theorem g_ref_kindOf_ac0 {R' : GExpr → (List GColumn) → Option (Int × Bool × Int)} (hR : ∀ {e0 : GExpr} {cols1 : List GColumn} {r : Int × Bool × Int}, R' e0 cols1 = some r → ACp Tryd.prog 23 [(.agg (GExpr.cs e0)), ((fun q : List GColumn => AV.lst (q.flatMap GColumn.cs) q.length) cols1)] (.tup [(AV.int r.1), (AV.bool r.2.1), (AV.int r.2.2)])) {e0 : GExpr} {cols1 : List GColumn} {r : Int × Bool × Int} (H : g_ref_kindOf_b R' e0 cols1 = some r) : ACp Tryd.prog 23 [(.agg (GExpr.cs e0)), ((fun q : List GColumn => AV.lst (q.flatMap GColumn.cs) q.length) cols1)] (.tup [(AV.int r.1), (AV.bool r.2.1), (AV.int r.2.2)]) := by
 refine ACp_of (AC2_of_body (vs := [.i r.1, .b r.2.1, .i r.2.2]) Tryd.func23 rfl rfl (Nat.le_of_ble_eq_true rfl) rfl ?_) (fun _ => .same _)
 unfold g_ref_kindOf_b at H
 refine as2 [(0, .g (GExpr.cs e0)), (1, .p ((fun q : List GColumn => AV.lst (q.flatMap GColumn.cs) q.length) cols1))] [] rfl rfl rfl ?_
 refine sg [0, 1, 2, 3] rfl ?_
 refine r_op rfl rfl (MakeD.opD (n_box 2 rfl rfl) rfl rfl rfl rfl) ?_
 refine rp rfl rfl (p_asg rfl rfl) ?_
 refine rp rfl rfl (p_asg rfl rfl) ?_
 refine rp rfl rfl (p_asg rfl rfl) ?_
 refine rz [(1, .p ((fun q : List GColumn => AV.lst (q.flatMap GColumn.cs) q.length) cols1)), (2, .q 2 (0))] [(2, .pure (GExpr.cs e0))] rfl rfl rfl ?_
 refine AW2_seq ?_
 refine sg [0, 1, 2] rfl ?_
 refine rp rfl rfl (u_fa rfl rfl Tryd.underlying27 rfl in_3 (Nat.succ_ne_zero _) rfl rfl (ne_of_lt (n := 0) (Nat.lt_of_lt_of_eq (by decide) (Eq.symm (GExpr.len e0))))) ?_
 refine rp rfl rfl (u_ld rfl rfl Tryd.underlying3 rfl rfl ((Sub.refl _).trans (GExpr.sub0 e0))) ?_
 refine rp rfl rfl (p_ieq rfl rfl rfl) ?_
 refine rz [(1, .p ((fun q : List GColumn => AV.lst (q.flatMap GColumn.cs) q.length) cols1)), (2, .q 2 (0)), (20, .b (decide (e0.Op = (1 : Int))))] [(2, .pure (GExpr.cs e0))] rfl rfl rfl ?_
 refine AW2_if (p := e0.Op = (1 : Int)) rfl (fun h1 => ?_) (fun h1 => ?_)
 ·replace H := ite_then h1 H
  refine AW2_seq ?_
  refine AW2_ghoQ ?_
  refine AW2_draw 8 [8, 9] (fun k => ([.q 2 (0 + 1), .q 2 (0 + 1 + 0), .i e0.Value.Kind, .q 2 (0 + 1), .q 2 (0 + 1 + 0), .i e0.Value.Kind, .b (decide (e0.Value.Kind = (0 : Int))), .i e0.Value.Kind] : List TV).getD k TV.any) (fun k => g_ref_kindOf_r2.getD k []) [(4, some 7), (27, some 6)] [] (fun k => g_ref_kindOf_r2c.getD k []) mixed (by kernel_rfl) rfl rfl (a_op (g_x rfl (x_p rfl (u_fa rfl rfl Tryd.underlying27 rfl in_24 (Nat.succ_ne_zero _) rfl rfl (ne_of_lt (n := 0) (Nat.lt_of_lt_of_eq (by decide) (Eq.symm (GExpr.len e0))))) rfl)) (a_op (g_x rfl (x_p rfl (u_fa rfl rfl Tryd.underlying24 rfl in_3 (Nat.succ_ne_zero _) rfl rfl (ne_of_lt (n := 0) (Nat.lt_of_lt_of_eq (by decide) (Eq.symm (GExpr.len e0))))) rfl)) (a_op (g_x rfl (x_p rfl (u_ld rfl rfl Tryd.underlying3 rfl rfl (((Sub.refl _).trans (GExpr.sub1 e0)).trans (GValue.sub0 e0.Value))) rfl)) (a_op (g_x rfl (x_p rfl (u_fa rfl rfl Tryd.underlying27 rfl in_24 (Nat.succ_ne_zero _) rfl rfl (ne_of_lt (n := 0) (Nat.lt_of_lt_of_eq (by decide) (Eq.symm (GExpr.len e0))))) rfl)) (a_op (g_x rfl (x_p rfl (u_fa rfl rfl Tryd.underlying24 rfl in_3 (Nat.succ_ne_zero _) rfl rfl (ne_of_lt (n := 0) (Nat.lt_of_lt_of_eq (by decide) (Eq.symm (GExpr.len e0))))) rfl)) (a_op (g_x rfl (x_p rfl (u_ld rfl rfl Tryd.underlying3 rfl rfl (((Sub.refl _).trans (GExpr.sub1 e0)).trans (GValue.sub0 e0.Value))) rfl)) (a_op (g_x rfl (x_p rfl (p_ieq rfl rfl rfl) rfl)) (a_op (g_x rfl (x_p rfl (p_asg rfl rfl) rfl)) (a_nil))))))))) ?_
  refine t_op rfl rfl (PureD.opD (p_asg rfl rfl)) ?_
  refine t_op rfl rfl (PureD.opD (p_asg rfl rfl)) ?_
  refine t_gho (Gho_st (L := [(4, .i e0.Value.Kind), (5, .b (decide (e0.Value.Kind = (0 : Int)))), (6, .i (0 : Int))]) (H := []) (N := 109) rfl ⟨TLes.same _, TLes.same _, TLes.same _, trivial⟩ trivial) ?_
  refine AW2_ret ?_
  have hz := some_elim H
  subst hz
  exact ⟨⟨res_tmp (.same _), res_tmp (.same _), res_tmp (.same _), trivial⟩, trivial⟩
 ·replace H := ite_else h1 H
  refine as2 [(1, .p ((fun q : List GColumn => AV.lst (q.flatMap GColumn.cs) q.length) cols1)), (2, .q 2 (0))] [(2, .pure (GExpr.cs e0))] rfl rfl rfl ?_
  refine AW2_skip ?_
  refine AW2_seq ?_
  refine sg [0, 1, 2] rfl ?_
  refine rp rfl rfl (u_fa rfl rfl Tryd.underlying27 rfl in_3 (Nat.succ_ne_zero _) rfl rfl (ne_of_lt (n := 0) (Nat.lt_of_lt_of_eq (by decide) (Eq.symm (GExpr.len e0))))) ?_
  refine rp rfl rfl (u_ld rfl rfl Tryd.underlying3 rfl rfl ((Sub.refl _).trans (GExpr.sub0 e0))) ?_
  refine rp rfl rfl (p_ieq rfl rfl rfl) ?_
  refine rz [(1, .p ((fun q : List GColumn => AV.lst (q.flatMap GColumn.cs) q.length) cols1)), (2, .q 2 (0)), (30, .b (decide (e0.Op = (2 : Int))))] [(2, .pure (GExpr.cs e0))] rfl rfl rfl ?_
  refine AW2_if (p := e0.Op = (2 : Int)) rfl (fun h2 => ?_) (fun h2 => ?_)
  ·replace H := ite_then h2 H
   refine sg [0, 1, 2, 3, 4] rfl ?_
   refine rp rfl rfl (p_move rfl rfl) ?_
   refine rp rfl rfl (u_fa rfl rfl Tryd.underlying27 rfl in_9 (Nat.succ_ne_zero _) rfl rfl (ne_of_lt (n := 0) (Nat.lt_of_lt_of_eq (by decide) (Eq.symm (GExpr.len e0))))) ?_
   refine rp rfl rfl (u_ld rfl rfl Tryd.underlying9 rfl rfl ((Sub.refl _).trans (GExpr.sub2 e0))) ?_
   refine bindK H fun r'1 h3 H => ?_
   refine rp rfl rfl (p_callp rfl rfl rfl Tryd.func27 rfl rfl (g_ref_columnAt_ac h3) ⟨rfl, rfl, trivial⟩) ?_
   refine rp rfl rfl (p_asg rfl rfl) ?_
   refine rz [(1, .p ((fun q : List GColumn => AV.lst (q.flatMap GColumn.cs) q.length) cols1)), (7, .i r'1)] [] rfl rfl rfl ?_
   refine AW2_seq ?_
   refine sg [0, 1] rfl ?_
   refine rp rfl rfl (p_move rfl rfl) ?_
   refine rp rfl rfl (p_bin rfl rfl rfl rfl) ?_
   refine rz [(1, .p ((fun q : List GColumn => AV.lst (q.flatMap GColumn.cs) q.length) cols1)), (7, .i r'1), (36, .b (decide (r'1 < (0 : Int))))] [] rfl rfl rfl ?_
   refine AW2_if (p := r'1 < (0 : Int)) rfl (fun h4 => ?_) (fun h4 => ?_)
   ·replace H := ite_then h4 H
    refine sg [0, 1, 2] rfl ?_
    refine rp rfl rfl (p_asg rfl rfl) ?_
    refine rp rfl rfl (p_asg rfl rfl) ?_
    refine rp rfl rfl (p_asg rfl rfl) ?_
    refine rz [(4, .i (0 : Int)), (5, .b false), (6, .i (5 : Int))] [] rfl rfl rfl ?_
    refine AW2_ret ?_
    have hz := some_elim H
    subst hz
    exact ⟨⟨res_tmp (.same _), res_tmp (.same _), res_tmp (.same _), trivial⟩, trivial⟩
   ·replace H := ite_else h4 H
    refine as2 [(1, .p ((fun q : List GColumn => AV.lst (q.flatMap GColumn.cs) q.length) cols1)), (7, .i r'1)] [] rfl rfl rfl ?_
    refine AW2_skip ?_
    refine AW2_seq ?_
    refine chkK H fun h5 H => ?_
    refine chkK H fun h6 H => ?_
    refine AW2_ghoQ ?_
    refine AW2_draw 11 [11, 12] (fun k => ([.p ((fun q : List GColumn => AV.lst (q.flatMap GColumn.cs) q.length) cols1), .i r'1, .p (.rptr (cols1.flatMap GColumn.cs) (r'1.toNat * 3)), .p (.rptr (cols1.flatMap GColumn.cs) (r'1.toNat * 3 + 1)), .i ((lrd cols1 r'1.toNat).Kind), .p ((fun q : List GColumn => AV.lst (q.flatMap GColumn.cs) q.length) cols1), .i r'1, .p (.rptr (cols1.flatMap GColumn.cs) (r'1.toNat * 3)), .p (.rptr (cols1.flatMap GColumn.cs) (r'1.toNat * 3 + 2)), .b ((lrd cols1 r'1.toNat).Null), .i ((lrd cols1 r'1.toNat).Kind)] : List TV).getD k TV.any) (fun k => g_ref_kindOf_r7.getD k []) [(4, some 10), (46, some 9)] [] (fun k => g_ref_kindOf_r7c.getD k []) mixed (by kernel_rfl) rfl rfl (a_op (g_x rfl (x_p rfl (p_move rfl rfl) rfl)) (a_op (g_x rfl (x_p rfl (p_move rfl rfl) rfl)) (a_op (g_x rfl (x_p rfl (u_ixl rfl rfl Tryd.underlying28 in_59 rfl rfl (ixe h5) (ixn h5) (fne (fun x => (GColumn.len x)) (by decide) (ixn h5))) rfl)) (a_op (g_x rfl (x_p rfl (u_far rfl rfl Tryd.underlying59 rfl in_3 (Nat.succ_ne_zero _) rfl) rfl)) (a_op (g_x rfl (x_p rfl (u_ld rfl rfl Tryd.underlying3 rfl rfl ((Sub.fm default (fun x => (GColumn.len x)) (ixn h5)).trans (GColumn.sub1 (lrd cols1 r'1.toNat)))) rfl)) (a_op (g_x rfl (x_p rfl (p_move rfl rfl) rfl)) (a_op (g_x rfl (x_p rfl (p_move rfl rfl) rfl)) (a_op (g_x rfl (x_p rfl (u_ixl rfl rfl Tryd.underlying28 in_59 rfl rfl (ixe h6) (ixn h6) (fne (fun x => (GColumn.len x)) (by decide) (ixn h6))) rfl)) (a_op (g_x rfl (x_p rfl (u_far rfl rfl Tryd.underlying59 rfl in_4 (Nat.succ_ne_zero _) rfl) rfl)) (a_op (g_x rfl (x_p rfl (u_ld rfl rfl Tryd.underlying4 rfl rfl ((Sub.fm default (fun x => (GColumn.len x)) (ixn h6)).trans (GColumn.sub2 (lrd cols1 r'1.toNat)))) rfl)) (a_op (g_x rfl (x_p rfl (p_asg rfl rfl) rfl)) (a_nil)))))))))))) ?_
    refine t_op rfl rfl (PureD.opD (p_asg rfl rfl)) ?_
    refine t_op rfl rfl (PureD.opD (p_asg rfl rfl)) ?_
    refine t_gho (Gho_st (L := [(4, .i ((lrd cols1 r'1.toNat).Kind)), (5, .b ((lrd cols1 r'1.toNat).Null)), (6, .i (0 : Int))]) (H := []) (N := 109) rfl ⟨TLes.same _, TLes.same _, TLes.same _, trivial⟩ trivial) ?_
    refine AW2_ret ?_
    have hz := some_elim H
    subst hz
    exact ⟨⟨res_tmp (.same _), res_tmp (.same _), res_tmp (.same _), trivial⟩, trivial⟩
  ·replace H := ite_else h2 H
   refine as2 [(1, .p ((fun q : List GColumn => AV.lst (q.flatMap GColumn.cs) q.length) cols1)), (2, .q 2 (0))] [(2, .pure (GExpr.cs e0))] rfl rfl rfl ?_
   refine AW2_skip ?_
   refine sg [0, 1] rfl ?_
   refine rp rfl rfl (p_asg rfl rfl) ?_
   refine rp rfl rfl (p_asg rfl rfl) ?_
   refine rz [(1, .p ((fun q : List GColumn => AV.lst (q.flatMap GColumn.cs) q.length) cols1)), (2, .q 2 (0)), (8, .b false), (9, .b true)] [(2, .pure (GExpr.cs e0))] rfl rfl rfl ?_
   refine sg [0, 1, 2, 3, 4, 5, 6, 7] rfl ?_
   refine rp rfl rfl (u_fa rfl rfl Tryd.underlying27 rfl in_3 (Nat.succ_ne_zero _) rfl rfl (ne_of_lt (n := 0) (Nat.lt_of_lt_of_eq (by decide) (Eq.symm (GExpr.len e0))))) ?_
   refine rp rfl rfl (u_ld rfl rfl Tryd.underlying3 rfl rfl ((Sub.refl _).trans (GExpr.sub0 e0))) ?_
   refine bindK H fun r'2 h7 H => ?_
   refine rp rfl rfl (p_callp rfl rfl rfl Tryd.func49 rfl rfl (g_ref_asksFor_ac h7) ⟨rfl, trivial⟩) ?_
   refine rp rfl rfl (p_move rfl rfl) ?_
   refine rp rfl rfl (p_ext rfl rfl rfl rfl) ?_
   refine rp rfl rfl (p_ext rfl rfl rfl rfl) ?_
   refine rp rfl rfl (p_asg rfl rfl) ?_
   refine rp rfl rfl (p_asg rfl rfl) ?_
   refine rz [(1, .p ((fun q : List GColumn => AV.lst (q.flatMap GColumn.cs) q.length) cols1)), (2, .q 2 (0)), (8, .b false), (9, .b true), (10, .i r'2.1), (11, .i r'2.2)] [(2, .pure (GExpr.cs e0))] rfl rfl rfl ?_
   refine sg [0] rfl ?_
   refine rp rfl rfl (p_asg rfl rfl) ?_
   refine rz [(1, .p ((fun q : List GColumn => AV.lst (q.flatMap GColumn.cs) q.length) cols1)), (2, .q 2 (0)), (8, .b false), (9, .b true), (10, .i r'2.1), (11, .i r'2.2), (12, .b false)] [(2, .pure (GExpr.cs e0))] rfl rfl rfl ?_
   refine AW2_seq ?_
   refine sg [0, 1, 2, 3] rfl ?_
   refine rp rfl rfl (u_fa rfl rfl Tryd.underlying27 rfl in_25 (Nat.succ_ne_zero _) rfl rfl (ne_of_lt (n := 0) (Nat.lt_of_lt_of_eq (by decide) (Eq.symm (GExpr.len e0))))) ?_
   refine rp rfl rfl (u_ld rfl rfl Tryd.underlying25 rfl rfl ((Sub.refl _).trans (GExpr.sub3 e0))) ?_
   refine rp rfl rfl (p_lenl rfl Tryd.underlying25 rfl rfl) ?_
   refine rp rfl rfl (p_move rfl rfl) ?_
   refine rz [(1, .p ((fun q : List GColumn => AV.lst (q.flatMap GColumn.cs) q.length) cols1)), (2, .q 2 (0)), (8, .b false), (9, .b true), (10, .i r'2.1), (11, .i r'2.2), (12, .b false), (54, .p ((fun q : List GExpr => AV.lst (q.flatMap GExpr.cs) q.length) e0.Args)), (55, .i (e0.Args.length : Int)), (56, .i (0 : Int))] [(2, .pure (GExpr.cs e0))] rfl rfl rfl ?_
   refine AW2_block ?_
   refine as2 [(1, .p ((fun q : List GColumn => AV.lst (q.flatMap GColumn.cs) q.length) cols1)), (2, .q 2 (0)), (8, .b false), (9, .b true), (10, .i r'2.1), (11, .i r'2.2), (12, .b false), (54, .p ((fun q : List GExpr => AV.lst (q.flatMap GExpr.cs) q.length) e0.Args)), (55, .i (e0.Args.length : Int)), (56, .i (0 : Int))] [(2, .pure (GExpr.cs e0))] rfl rfl rfl ?_
   refine bindK H fun o'11 h21 H => ?_
   refine AW2_loopO (fun a'8 : Bool × Bool × Int × Bool × Int => (⟨[(1, .p ((fun q : List GColumn => AV.lst (q.flatMap GColumn.cs) q.length) cols1)), (2, .q 2 (0)), (8, .b a'8.1), (9, .b a'8.2.1), (10, .i a'8.2.2.1), (11, .i r'2.2), (12, .b a'8.2.2.2.1), (54, .p ((fun q : List GExpr => AV.lst (q.flatMap GExpr.cs) q.length) e0.Args)), (55, .i (e0.Args.length : Int)), (56, .i a'8.2.2.2.2)], [(2, .pure (GExpr.cs e0))], 109⟩ : TS)) (fun (o : (Int × Bool × Int) ⊕ (Bool × Bool × Int × Bool)) e s' => match o with | .inl y'9 => e = Go.Exit.ret ∧ ResAll Tryd.prog s' [ResultVar.tmp 4, ResultVar.tmp 5, ResultVar.tmp 6] [.i y'9.1, .b y'9.2.1, .i y'9.2.2] ∧ HFits s' [] | .inr (y'10) => e = Go.Exit.exit 0 ∧ s' = (⟨[(2, .q 2 (0)), (8, .b y'10.1), (9, .b y'10.2.1), (10, .i y'10.2.2.1), (11, .i r'2.2), (12, .b y'10.2.2.2)], [(2, .pure (GExpr.cs e0))], 109⟩ : TS)) h21 rfl (fun a x hx => ?_) (fun e s' hs => ?_)
   ·clear H
    obtain ⟨some8_0, all9_0, asks10_0, clash12_0, t56_0⟩ := a
    have H := hx
    clear hx
    unfold g_ref_kindOf_l0 at H
    refine sg [0] rfl ?_
    refine rp rfl rfl (p_bin rfl rfl rfl rfl) ?_
    refine rz [(1, .p ((fun q : List GColumn => AV.lst (q.flatMap GColumn.cs) q.length) cols1)), (2, .q 2 (0)), (8, .b some8_0), (9, .b all9_0), (10, .i asks10_0), (11, .i r'2.2), (12, .b clash12_0), (54, .p ((fun q : List GExpr => AV.lst (q.flatMap GExpr.cs) q.length) e0.Args)), (55, .i (e0.Args.length : Int)), (56, .i t56_0), (57, .b (decide (t56_0 < (e0.Args.length : Int))))] [(2, .pure (GExpr.cs e0))] rfl rfl rfl ?_
    refine AW2_seq ?_
    refine AW2_if (p := t56_0 < (e0.Args.length : Int)) rfl (fun h8 => ?_) (fun h8 => ?_)
    ·replace H := ite_then h8 H
     refine as2 [(1, .p ((fun q : List GColumn => AV.lst (q.flatMap GColumn.cs) q.length) cols1)), (2, .q 2 (0)), (8, .b some8_0), (9, .b all9_0), (10, .i asks10_0), (11, .i r'2.2), (12, .b clash12_0), (54, .p ((fun q : List GExpr => AV.lst (q.flatMap GExpr.cs) q.length) e0.Args)), (55, .i (e0.Args.length : Int)), (56, .i t56_0)] [(2, .pure (GExpr.cs e0))] rfl rfl rfl ?_
     refine AW2_skip ?_
     refine AW2_seq ?_
     refine bindK H fun o'7 h9 H => ?_
     refine AW2_join (fun j'3 : Bool × Bool × Int × Bool => (⟨[(1, .p ((fun q : List GColumn => AV.lst (q.flatMap GColumn.cs) q.length) cols1)), (2, .q 2 (0)), (8, .b j'3.1), (9, .b j'3.2.1), (10, .i j'3.2.2.1), (11, .i r'2.2), (12, .b j'3.2.2.2), (54, .p ((fun q : List GExpr => AV.lst (q.flatMap GExpr.cs) q.length) e0.Args)), (55, .i (e0.Args.length : Int)), (56, .i t56_0)], [(2, .pure (GExpr.cs e0))], 109⟩ : TS)) (fun r e s' => e = Go.Exit.ret ∧ ResAll Tryd.prog s' [ResultVar.tmp 4, ResultVar.tmp 5, ResultVar.tmp 6] [.i r.1, .b r.2.1, .i r.2.2] ∧ HFits s' []) (x := o'7) ?_ (fun j'3 hy => ?_) (fun y'6 e s' hy hs => ?_)
     ·clear H
      have H := h9
      clear h9
      refine AW2_block ?_
      refine sg [0, 1, 2, 3] rfl ?_
      refine chkK H fun h10 H => ?_
      refine rp rfl rfl (u_ixl rfl rfl Tryd.underlying25 in_27 rfl rfl (ixe h10) (ixn h10) (fne (fun x => (GExpr.len x)) (by decide) (ixn h10))) ?_
      refine rp rfl rfl (u_lda rfl rfl Tryd.underlying27 rfl in_27 rfl (Nat.succ_pos _) (Sub.fm default (fun x => (GExpr.len x)) (ixn h10)) (GExpr.len (lrd e0.Args t56_0.toNat))) ?_
      refine r_op rfl rfl (MakeD.opD (u_alloc 14 rfl in_27 one_27 zc_27) rfl rfl rfl rfl) ?_
      refine r_op rfl rfl (u_st rfl rfl rfl rfl rfl in_27 (GExpr.len (lrd e0.Args t56_0.toNat)) (ne_of_lt (n := 0) (Nat.lt_of_lt_of_eq (by decide) (Eq.symm (GExpr.len GExpr.zero)))) (Upd.refl ((GExpr.len (lrd e0.Args t56_0.toNat)).trans (GExpr.len GExpr.zero).symm))) ?_
      refine rz [(1, .p ((fun q : List GColumn => AV.lst (q.flatMap GColumn.cs) q.length) cols1)), (2, .q 2 (0)), (8, .b some8_0), (9, .b all9_0), (10, .i asks10_0), (11, .i r'2.2), (12, .b clash12_0), (14, .q 14 (0)), (54, .p ((fun q : List GExpr => AV.lst (q.flatMap GExpr.cs) q.length) e0.Args)), (55, .i (e0.Args.length : Int)), (56, .i t56_0)] [(2, .pure (GExpr.cs e0)), (14, .pure (GExpr.cs (lrd e0.Args t56_0.toNat)))] rfl rfl rfl ?_
      refine sg [0, 1, 2, 3, 4, 5, 6, 7, 8, 9] rfl ?_
      refine rp rfl rfl (u_lda rfl rfl Tryd.underlying27 rfl in_27 rfl (Nat.succ_pos _) (Sub.refl _) (GExpr.len (lrd e0.Args t56_0.toNat))) ?_
      refine rp rfl rfl (p_move rfl rfl) ?_
      refine bindK H fun r'4 h11 H => ?_
      refine rp rfl rfl (p_callp rfl rfl rfl Tryd.func23 rfl rfl (hR h11) ⟨rfl, rfl, trivial⟩) ?_
      refine rp rfl rfl (p_move rfl rfl) ?_
      refine rp rfl rfl (p_ext rfl rfl rfl rfl) ?_
      refine rp rfl rfl (p_ext rfl rfl rfl rfl) ?_
      refine rp rfl rfl (p_ext rfl rfl rfl rfl) ?_
      refine rp rfl rfl (p_asg rfl rfl) ?_
      refine rp rfl rfl (p_asg rfl rfl) ?_
      refine rp rfl rfl (p_asg rfl rfl) ?_
      refine rz [(1, .p ((fun q : List GColumn => AV.lst (q.flatMap GColumn.cs) q.length) cols1)), (2, .q 2 (0)), (8, .b some8_0), (9, .b all9_0), (10, .i asks10_0), (11, .i r'2.2), (12, .b clash12_0), (15, .i r'4.1), (16, .b r'4.2.1), (17, .i r'4.2.2), (54, .p ((fun q : List GExpr => AV.lst (q.flatMap GExpr.cs) q.length) e0.Args)), (55, .i (e0.Args.length : Int)), (56, .i t56_0)] [(2, .pure (GExpr.cs e0))] rfl rfl rfl ?_
      refine AW2_seq ?_
      refine sg [0, 1] rfl ?_
      refine rp rfl rfl (p_move rfl rfl) ?_
      refine rp rfl rfl (p_ine rfl rfl rfl) ?_
      refine rz [(1, .p ((fun q : List GColumn => AV.lst (q.flatMap GColumn.cs) q.length) cols1)), (2, .q 2 (0)), (8, .b some8_0), (9, .b all9_0), (10, .i asks10_0), (11, .i r'2.2), (12, .b clash12_0), (15, .i r'4.1), (16, .b r'4.2.1), (17, .i r'4.2.2), (54, .p ((fun q : List GExpr => AV.lst (q.flatMap GExpr.cs) q.length) e0.Args)), (55, .i (e0.Args.length : Int)), (56, .i t56_0), (68, .b (decide (r'4.2.2 ≠ (0 : Int))))] [(2, .pure (GExpr.cs e0))] rfl rfl rfl ?_
      refine AW2_if (p := r'4.2.2 ≠ (0 : Int)) rfl (fun h12 => ?_) (fun h12 => ?_)
      ·replace H := ite_then h12 H
       refine sg [0, 1, 2, 3] rfl ?_
       refine rp rfl rfl (p_move rfl rfl) ?_
       refine rp rfl rfl (p_asg rfl rfl) ?_
       refine rp rfl rfl (p_asg rfl rfl) ?_
       refine rp rfl rfl (p_asg rfl rfl) ?_
       refine rz [(4, .i (0 : Int)), (5, .b false), (6, .i r'4.2.2)] [] rfl rfl rfl ?_
       refine AW2_ret ?_
       have hz := some_elim H
       subst hz
       exact ⟨rfl, ⟨res_tmp (.same _), res_tmp (.same _), res_tmp (.same _), trivial⟩, trivial⟩
      ·replace H := ite_else h12 H
       refine as2 [(1, .p ((fun q : List GColumn => AV.lst (q.flatMap GColumn.cs) q.length) cols1)), (2, .q 2 (0)), (8, .b some8_0), (9, .b all9_0), (10, .i asks10_0), (11, .i r'2.2), (12, .b clash12_0), (15, .i r'4.1), (16, .b r'4.2.1), (54, .p ((fun q : List GExpr => AV.lst (q.flatMap GExpr.cs) q.length) e0.Args)), (55, .i (e0.Args.length : Int)), (56, .i t56_0)] [(2, .pure (GExpr.cs e0))] rfl rfl rfl ?_
       refine AW2_skip ?_
       refine AW2_seq ?_
       refine AW2_mid (⟨[(1, .p ((fun q : List GColumn => AV.lst (q.flatMap GColumn.cs) q.length) cols1)), (2, .q 2 (0)), (8, .b (decide ((some8_0 = true) ∨ (r'4.2.1 = true)))), (9, .b (decide ((all9_0 = true) ∧ (r'4.2.1 = true)))), (10, .i asks10_0), (11, .i r'2.2), (12, .b clash12_0), (15, .i r'4.1), (54, .p ((fun q : List GExpr => AV.lst (q.flatMap GExpr.cs) q.length) e0.Args)), (55, .i (e0.Args.length : Int)), (56, .i t56_0)], [(2, .pure (GExpr.cs e0))], 109⟩ : TS) ?_ ?_
       ·refine AW2_reg [0, 1, 2, 3, 4, 5, 6, 7, 8, 9] rfl ?_
        refine rp rfl rfl (p_move rfl rfl) ?_
        refine rp rfl rfl (p_move rfl rfl) ?_
        refine (Classical.em (some8_0 = true)).elim (fun h13 => ?_) (fun h13 => ?_)
        ·refine r_off rfl rfl rfl rfl h13 rfl rfl ?_
         refine rp rfl rfl (p_pkt rfl rfl h13 (tb (decide_eq_true (p := (some8_0 = true) ∨ (r'4.2.1 = true)) (Or.inl h13)).symm)) ?_
         refine rp rfl rfl (p_move rfl rfl) ?_
         refine rp rfl rfl (p_move rfl rfl) ?_
         refine (Classical.em (all9_0 = true)).elim (fun h14 => ?_) (fun h14 => ?_)
         ·refine rn rfl rfl rfl rfl h14 rfl (p_move rfl rfl) ?_
          refine rp rfl rfl (p_pkt rfl rfl h14 (tb ((bdec _).trans (and_l (p := all9_0 = true) (q := r'4.2.1 = true) h14)))) ?_
          refine rp rfl rfl (p_asg rfl rfl) ?_
          refine rp rfl rfl (p_asg rfl rfl) ?_
          refine rs [(1, .p ((fun q : List GColumn => AV.lst (q.flatMap GColumn.cs) q.length) cols1)), (2, .q 2 (0)), (8, .b (decide ((some8_0 = true) ∨ (r'4.2.1 = true)))), (9, .b (decide ((all9_0 = true) ∧ (r'4.2.1 = true)))), (10, .i asks10_0), (11, .i r'2.2), (12, .b clash12_0), (15, .i r'4.1), (54, .p ((fun q : List GExpr => AV.lst (q.flatMap GExpr.cs) q.length) e0.Args)), (55, .i (e0.Args.length : Int)), (56, .i t56_0)] [(2, .pure (GExpr.cs e0))] rfl rfl rfl ?_
          exact RunW_nil rfl
         ·refine r_off rfl rfl rfl rfl (bfalse h14) rfl rfl ?_
          refine rp rfl rfl (p_pkf rfl rfl (bfalse h14) (tb (decide_eq_false (p := (all9_0 = true) ∧ (r'4.2.1 = true)) (fun x => h14 x.1)).symm)) ?_
          refine rp rfl rfl (p_asg rfl rfl) ?_
          refine rp rfl rfl (p_asg rfl rfl) ?_
          refine rs [(1, .p ((fun q : List GColumn => AV.lst (q.flatMap GColumn.cs) q.length) cols1)), (2, .q 2 (0)), (8, .b (decide ((some8_0 = true) ∨ (r'4.2.1 = true)))), (9, .b (decide ((all9_0 = true) ∧ (r'4.2.1 = true)))), (10, .i asks10_0), (11, .i r'2.2), (12, .b clash12_0), (15, .i r'4.1), (54, .p ((fun q : List GExpr => AV.lst (q.flatMap GExpr.cs) q.length) e0.Args)), (55, .i (e0.Args.length : Int)), (56, .i t56_0)] [(2, .pure (GExpr.cs e0))] rfl rfl rfl ?_
          exact RunW_nil rfl
        ·refine r_on rfl rfl rfl rfl (bfalse h13) rfl (PureD.opD (p_move rfl rfl)) ?_
         refine rp rfl rfl (p_pkf rfl rfl (bfalse h13) (tb ((bdec _).trans (or_l (p := some8_0 = true) (q := r'4.2.1 = true) h13)))) ?_
         refine rp rfl rfl (p_move rfl rfl) ?_
         refine rp rfl rfl (p_move rfl rfl) ?_
         refine (Classical.em (all9_0 = true)).elim (fun h15 => ?_) (fun h15 => ?_)
         ·refine rn rfl rfl rfl rfl h15 rfl (p_move rfl rfl) ?_
          refine rp rfl rfl (p_pkt rfl rfl h15 (tb ((bdec _).trans (and_l (p := all9_0 = true) (q := r'4.2.1 = true) h15)))) ?_
          refine rp rfl rfl (p_asg rfl rfl) ?_
          refine rp rfl rfl (p_asg rfl rfl) ?_
          refine rs [(1, .p ((fun q : List GColumn => AV.lst (q.flatMap GColumn.cs) q.length) cols1)), (2, .q 2 (0)), (8, .b (decide ((some8_0 = true) ∨ (r'4.2.1 = true)))), (9, .b (decide ((all9_0 = true) ∧ (r'4.2.1 = true)))), (10, .i asks10_0), (11, .i r'2.2), (12, .b clash12_0), (15, .i r'4.1), (54, .p ((fun q : List GExpr => AV.lst (q.flatMap GExpr.cs) q.length) e0.Args)), (55, .i (e0.Args.length : Int)), (56, .i t56_0)] [(2, .pure (GExpr.cs e0))] rfl rfl rfl ?_
          exact RunW_nil rfl
         ·refine r_off rfl rfl rfl rfl (bfalse h15) rfl rfl ?_
          refine rp rfl rfl (p_pkf rfl rfl (bfalse h15) (tb (decide_eq_false (p := (all9_0 = true) ∧ (r'4.2.1 = true)) (fun x => h15 x.1)).symm)) ?_
          refine rp rfl rfl (p_asg rfl rfl) ?_
          refine rp rfl rfl (p_asg rfl rfl) ?_
          refine rs [(1, .p ((fun q : List GColumn => AV.lst (q.flatMap GColumn.cs) q.length) cols1)), (2, .q 2 (0)), (8, .b (decide ((some8_0 = true) ∨ (r'4.2.1 = true)))), (9, .b (decide ((all9_0 = true) ∧ (r'4.2.1 = true)))), (10, .i asks10_0), (11, .i r'2.2), (12, .b clash12_0), (15, .i r'4.1), (54, .p ((fun q : List GExpr => AV.lst (q.flatMap GExpr.cs) q.length) e0.Args)), (55, .i (e0.Args.length : Int)), (56, .i t56_0)] [(2, .pure (GExpr.cs e0))] rfl rfl rfl ?_
          exact RunW_nil rfl
       ·refine AW2_seq ?_
        refine AW2_seq ?_
        refine AW2_mid (⟨[(1, .p ((fun q : List GColumn => AV.lst (q.flatMap GColumn.cs) q.length) cols1)), (2, .q 2 (0)), (8, .b (decide ((some8_0 = true) ∨ (r'4.2.1 = true)))), (9, .b (decide ((all9_0 = true) ∧ (r'4.2.1 = true)))), (10, .i asks10_0), (11, .i r'2.2), (12, .b clash12_0), (15, .i r'4.1), (54, .p ((fun q : List GExpr => AV.lst (q.flatMap GExpr.cs) q.length) e0.Args)), (55, .i (e0.Args.length : Int)), (56, .i t56_0), (84, .b (decide ((e0.Op = (17 : Int)) ∨ (r'4.1 = (0 : Int)))))], [(2, .pure (GExpr.cs e0))], 109⟩ : TS) ?_ ?_
        ·refine AW2_reg [0, 1, 2, 3, 4, 5, 6] rfl ?_
         refine rp rfl rfl (u_fa rfl rfl Tryd.underlying27 rfl in_3 (Nat.succ_ne_zero _) rfl rfl (ne_of_lt (n := 0) (Nat.lt_of_lt_of_eq (by decide) (Eq.symm (GExpr.len e0))))) ?_
         refine rp rfl rfl (u_ld rfl rfl Tryd.underlying3 rfl rfl ((Sub.refl _).trans (GExpr.sub0 e0))) ?_
         refine rp rfl rfl (p_ieq rfl rfl rfl) ?_
         refine rp rfl rfl (p_move rfl rfl) ?_
         refine (Classical.em (e0.Op = (17 : Int))).elim (fun h16 => ?_) (fun h16 => ?_)
         ·refine r_off rfl rfl rfl rfl (decide_eq_true h16) rfl rfl ?_
          refine r_off rfl rfl rfl rfl (decide_eq_true h16) rfl rfl ?_
          refine rp rfl rfl (p_pkt rfl rfl (decide_eq_true h16) (tb (decide_eq_true (p := (e0.Op = (17 : Int)) ∨ (r'4.1 = (0 : Int))) (Or.inl h16)).symm)) ?_
          refine rs [(1, .p ((fun q : List GColumn => AV.lst (q.flatMap GColumn.cs) q.length) cols1)), (2, .q 2 (0)), (8, .b (decide ((some8_0 = true) ∨ (r'4.2.1 = true)))), (9, .b (decide ((all9_0 = true) ∧ (r'4.2.1 = true)))), (10, .i asks10_0), (11, .i r'2.2), (12, .b clash12_0), (15, .i r'4.1), (54, .p ((fun q : List GExpr => AV.lst (q.flatMap GExpr.cs) q.length) e0.Args)), (55, .i (e0.Args.length : Int)), (56, .i t56_0), (84, .b (decide ((e0.Op = (17 : Int)) ∨ (r'4.1 = (0 : Int)))))] [(2, .pure (GExpr.cs e0))] rfl rfl rfl ?_
          exact RunW_nil rfl
         ·refine r_on rfl rfl rfl rfl (decide_eq_false h16) rfl (PureD.opD (p_move rfl rfl)) ?_
          refine r_on rfl rfl rfl rfl (decide_eq_false h16) rfl (PureD.opD (p_ieq rfl rfl rfl)) ?_
          refine rp rfl rfl (p_pkf rfl rfl (decide_eq_false h16) (tb ((or_l (p := e0.Op = (17 : Int)) (q := r'4.1 = (0 : Int)) h16)))) ?_
          refine rs [(1, .p ((fun q : List GColumn => AV.lst (q.flatMap GColumn.cs) q.length) cols1)), (2, .q 2 (0)), (8, .b (decide ((some8_0 = true) ∨ (r'4.2.1 = true)))), (9, .b (decide ((all9_0 = true) ∧ (r'4.2.1 = true)))), (10, .i asks10_0), (11, .i r'2.2), (12, .b clash12_0), (15, .i r'4.1), (54, .p ((fun q : List GExpr => AV.lst (q.flatMap GExpr.cs) q.length) e0.Args)), (55, .i (e0.Args.length : Int)), (56, .i t56_0), (84, .b (decide ((e0.Op = (17 : Int)) ∨ (r'4.1 = (0 : Int)))))] [(2, .pure (GExpr.cs e0))] rfl rfl rfl ?_
          exact RunW_nil rfl
        ·refine AW2_if (p := (e0.Op = (17 : Int)) ∨ (r'4.1 = (0 : Int))) rfl (fun h17 => ?_) (fun h17 => ?_)
         ·replace H := ite_then h17 H
          refine as2 [(1, .p ((fun q : List GColumn => AV.lst (q.flatMap GColumn.cs) q.length) cols1)), (2, .q 2 (0)), (8, .b (decide ((some8_0 = true) ∨ (r'4.2.1 = true)))), (9, .b (decide ((all9_0 = true) ∧ (r'4.2.1 = true)))), (10, .i asks10_0), (11, .i r'2.2), (12, .b clash12_0), (54, .p ((fun q : List GExpr => AV.lst (q.flatMap GExpr.cs) q.length) e0.Args)), (55, .i (e0.Args.length : Int)), (56, .i t56_0)] [(2, .pure (GExpr.cs e0))] rfl rfl rfl ?_
          refine AW2_exit ?_
          refine thenQ2_exit ?_
          refine blockQ2_exit ?_
          have hz := some_elim H
          subst hz
          exact ⟨rfl, rfl⟩
         ·replace H := ite_else h17 H
          refine as2 [(1, .p ((fun q : List GColumn => AV.lst (q.flatMap GColumn.cs) q.length) cols1)), (2, .q 2 (0)), (8, .b (decide ((some8_0 = true) ∨ (r'4.2.1 = true)))), (9, .b (decide ((all9_0 = true) ∧ (r'4.2.1 = true)))), (10, .i asks10_0), (11, .i r'2.2), (12, .b clash12_0), (15, .i r'4.1), (54, .p ((fun q : List GExpr => AV.lst (q.flatMap GExpr.cs) q.length) e0.Args)), (55, .i (e0.Args.length : Int)), (56, .i t56_0)] [(2, .pure (GExpr.cs e0))] rfl rfl rfl ?_
          refine AW2_skip ?_
          refine AW2_seq ?_
          refine bindK H fun j'5 h18 H => ?_
          refine AW2_mid (⟨[(1, .p ((fun q : List GColumn => AV.lst (q.flatMap GColumn.cs) q.length) cols1)), (2, .q 2 (0)), (8, .b (decide ((some8_0 = true) ∨ (r'4.2.1 = true)))), (9, .b (decide ((all9_0 = true) ∧ (r'4.2.1 = true)))), (10, .i j'5), (11, .i r'2.2), (12, .b clash12_0), (15, .i r'4.1), (54, .p ((fun q : List GExpr => AV.lst (q.flatMap GExpr.cs) q.length) e0.Args)), (55, .i (e0.Args.length : Int)), (56, .i t56_0)], [(2, .pure (GExpr.cs e0))], 109⟩ : TS) ?_ ?_
          ·clear H
           have H := h18
           clear h18
           refine sg [0, 1] rfl ?_
           refine rp rfl rfl (p_move rfl rfl) ?_
           refine rp rfl rfl (p_ieq rfl rfl rfl) ?_
           refine rz [(1, .p ((fun q : List GColumn => AV.lst (q.flatMap GColumn.cs) q.length) cols1)), (2, .q 2 (0)), (8, .b (decide ((some8_0 = true) ∨ (r'4.2.1 = true)))), (9, .b (decide ((all9_0 = true) ∧ (r'4.2.1 = true)))), (10, .i asks10_0), (11, .i r'2.2), (12, .b clash12_0), (15, .i r'4.1), (54, .p ((fun q : List GExpr => AV.lst (q.flatMap GExpr.cs) q.length) e0.Args)), (55, .i (e0.Args.length : Int)), (56, .i t56_0), (86, .b (decide (asks10_0 = (0 : Int))))] [(2, .pure (GExpr.cs e0))] rfl rfl rfl ?_
           refine AW2_if (p := asks10_0 = (0 : Int)) rfl (fun h19 => ?_) (fun h19 => ?_)
           ·replace H := ite_then h19 H
            refine AW2_reg [0, 1] rfl ?_
            refine rp rfl rfl (p_move rfl rfl) ?_
            refine rp rfl rfl (p_asg rfl rfl) ?_
            refine rz [(1, .p ((fun q : List GColumn => AV.lst (q.flatMap GColumn.cs) q.length) cols1)), (2, .q 2 (0)), (8, .b (decide ((some8_0 = true) ∨ (r'4.2.1 = true)))), (9, .b (decide ((all9_0 = true) ∧ (r'4.2.1 = true)))), (10, .i r'4.1), (11, .i r'2.2), (12, .b clash12_0), (15, .i r'4.1), (54, .p ((fun q : List GExpr => AV.lst (q.flatMap GExpr.cs) q.length) e0.Args)), (55, .i (e0.Args.length : Int)), (56, .i t56_0)] [(2, .pure (GExpr.cs e0))] rfl rfl rfl ?_
            have hz := some_elim H
            subst hz
            exact rfl
           ·replace H := ite_else h19 H
            refine as2 [(1, .p ((fun q : List GColumn => AV.lst (q.flatMap GColumn.cs) q.length) cols1)), (2, .q 2 (0)), (8, .b (decide ((some8_0 = true) ∨ (r'4.2.1 = true)))), (9, .b (decide ((all9_0 = true) ∧ (r'4.2.1 = true)))), (10, .i asks10_0), (11, .i r'2.2), (12, .b clash12_0), (15, .i r'4.1), (54, .p ((fun q : List GExpr => AV.lst (q.flatMap GExpr.cs) q.length) e0.Args)), (55, .i (e0.Args.length : Int)), (56, .i t56_0)] [(2, .pure (GExpr.cs e0))] rfl rfl rfl ?_
            refine AW2_skip ?_
            have hz := some_elim H
            subst hz
            exact rfl
          ·refine AW2_mid (⟨[(1, .p ((fun q : List GColumn => AV.lst (q.flatMap GColumn.cs) q.length) cols1)), (2, .q 2 (0)), (8, .b (decide ((some8_0 = true) ∨ (r'4.2.1 = true)))), (9, .b (decide ((all9_0 = true) ∧ (r'4.2.1 = true)))), (10, .i j'5), (11, .i r'2.2), (12, .b (decide ((clash12_0 = true) ∨ (r'4.1 ≠ j'5)))), (54, .p ((fun q : List GExpr => AV.lst (q.flatMap GExpr.cs) q.length) e0.Args)), (55, .i (e0.Args.length : Int)), (56, .i t56_0)], [(2, .pure (GExpr.cs e0))], 109⟩ : TS) ?_ ?_
           ·refine AW2_reg [0, 1, 2, 3, 4, 5, 6] rfl ?_
            refine rp rfl rfl (p_move rfl rfl) ?_
            refine rp rfl rfl (p_move rfl rfl) ?_
            refine (Classical.em (clash12_0 = true)).elim (fun h20 => ?_) (fun h20 => ?_)
            ·refine r_off rfl rfl rfl rfl h20 rfl rfl ?_
             refine r_off rfl rfl rfl rfl h20 rfl rfl ?_
             refine r_off rfl rfl rfl rfl h20 rfl rfl ?_
             refine rp rfl rfl (p_pkt rfl rfl h20 (tb (decide_eq_true (p := (clash12_0 = true) ∨ (r'4.1 ≠ j'5)) (Or.inl h20)).symm)) ?_
             refine rp rfl rfl (p_asg rfl rfl) ?_
             refine rs [(1, .p ((fun q : List GColumn => AV.lst (q.flatMap GColumn.cs) q.length) cols1)), (2, .q 2 (0)), (8, .b (decide ((some8_0 = true) ∨ (r'4.2.1 = true)))), (9, .b (decide ((all9_0 = true) ∧ (r'4.2.1 = true)))), (10, .i j'5), (11, .i r'2.2), (12, .b (decide ((clash12_0 = true) ∨ (r'4.1 ≠ j'5)))), (54, .p ((fun q : List GExpr => AV.lst (q.flatMap GExpr.cs) q.length) e0.Args)), (55, .i (e0.Args.length : Int)), (56, .i t56_0)] [(2, .pure (GExpr.cs e0))] rfl rfl rfl ?_
             exact RunW_nil rfl
            ·refine r_on rfl rfl rfl rfl (bfalse h20) rfl (PureD.opD (p_move rfl rfl)) ?_
             refine r_on rfl rfl rfl rfl (bfalse h20) rfl (PureD.opD (p_move rfl rfl)) ?_
             refine r_on rfl rfl rfl rfl (bfalse h20) rfl (PureD.opD (p_ine rfl rfl rfl)) ?_
             refine rp rfl rfl (p_pkf rfl rfl (bfalse h20) (tb ((or_l (p := clash12_0 = true) (q := r'4.1 ≠ j'5) h20)))) ?_
             refine rp rfl rfl (p_asg rfl rfl) ?_
             refine rs [(1, .p ((fun q : List GColumn => AV.lst (q.flatMap GColumn.cs) q.length) cols1)), (2, .q 2 (0)), (8, .b (decide ((some8_0 = true) ∨ (r'4.2.1 = true)))), (9, .b (decide ((all9_0 = true) ∧ (r'4.2.1 = true)))), (10, .i j'5), (11, .i r'2.2), (12, .b (decide ((clash12_0 = true) ∨ (r'4.1 ≠ j'5)))), (54, .p ((fun q : List GExpr => AV.lst (q.flatMap GExpr.cs) q.length) e0.Args)), (55, .i (e0.Args.length : Int)), (56, .i t56_0)] [(2, .pure (GExpr.cs e0))] rfl rfl rfl ?_
             exact RunW_nil rfl
           ·have hz := some_elim H
            subst hz
            exact ⟨rfl, rfl⟩
     ·subst hy
      refine AW2_reg [0, 1] rfl ?_
      refine rp rfl rfl (p_bin rfl rfl rfl rfl) ?_
      refine rp rfl rfl (p_move rfl rfl) ?_
      refine rz [(1, .p ((fun q : List GColumn => AV.lst (q.flatMap GColumn.cs) q.length) cols1)), (2, .q 2 (0)), (8, .b j'3.1), (9, .b j'3.2.1), (10, .i j'3.2.2.1), (11, .i r'2.2), (12, .b j'3.2.2.2), (54, .p ((fun q : List GExpr => AV.lst (q.flatMap GExpr.cs) q.length) e0.Args)), (55, .i (e0.Args.length : Int)), (56, .i (w64 (t56_0 + (1 : Int))))] [(2, .pure (GExpr.cs e0))] rfl rfl rfl ?_
      have hz := some_elim H
      subst hz
      exact ⟨rfl, rfl⟩
     ·subst hy
      obtain ⟨rfl, hs⟩ := hs
      have hz := some_elim H
      subst hz
      exact ⟨rfl, hs.1, hs.2⟩
    ·replace H := ite_else h8 H
     refine as2 [(2, .q 2 (0)), (8, .b some8_0), (9, .b all9_0), (10, .i asks10_0), (11, .i r'2.2), (12, .b clash12_0)] [(2, .pure (GExpr.cs e0))] rfl rfl rfl ?_
     refine AW2_exit ?_
     refine thenQ2_exit ?_
     have hz := some_elim H
     subst hz
     exact ⟨rfl, rfl⟩
   ·rcases o'11 with y'12 | y'13
    ·obtain ⟨rfl, hs⟩ := hs
     refine ⟨by simp, ?_⟩
     have hz := some_elim H
     subst hz
     exact ⟨hs.1, hs.2⟩
    ·obtain ⟨rfl, rfl⟩ := hs
     refine ⟨by simp, ?_⟩
     refine blockQ2_exit ?_
     refine AW2_seq ?_
     refine AW2_block ?_
     refine sg [0, 1] rfl ?_
     refine rp rfl rfl (p_move rfl rfl) ?_
     refine rp rfl rfl (p_asg rfl rfl) ?_
     refine rz [(2, .q 2 (0)), (8, .b y'13.1), (9, .b y'13.2.1), (10, .i y'13.2.2.1), (11, .i r'2.2), (95, .b y'13.2.2.2)] [(2, .pure (GExpr.cs e0))] rfl rfl rfl ?_
     refine AW2_cond rfl (fun h22 => ?_) (fun h22 => ?_)
     ·replace H := ite_then h22 H
      refine sg [0, 1, 2] rfl ?_
      refine rp rfl rfl (p_asg rfl rfl) ?_
      refine rp rfl rfl (p_asg rfl rfl) ?_
      refine rp rfl rfl (p_asg rfl rfl) ?_
      refine rz [(4, .i (0 : Int)), (5, .b false), (6, .i (2 : Int))] [] rfl rfl rfl ?_
      refine AW2_ret ?_
      have hz := some_elim H
      subst hz
      exact ⟨⟨res_tmp (.same _), res_tmp (.same _), res_tmp (.same _), trivial⟩, trivial⟩
     ·replace H := ite_else (ne_true h22) H
      refine sg [0, 1, 2, 3] rfl ?_
      refine rp rfl rfl (u_fa rfl rfl Tryd.underlying27 rfl in_3 (Nat.succ_ne_zero _) rfl rfl (ne_of_lt (n := 0) (Nat.lt_of_lt_of_eq (by decide) (Eq.symm (GExpr.len e0))))) ?_
      refine rp rfl rfl (u_ld rfl rfl Tryd.underlying3 rfl rfl ((Sub.refl _).trans (GExpr.sub0 e0))) ?_
      refine rp rfl rfl (p_ieq rfl rfl rfl) ?_
      refine rp rfl rfl (p_asg rfl rfl) ?_
      refine rz [(2, .q 2 (0)), (8, .b y'13.1), (9, .b y'13.2.1), (10, .i y'13.2.2.1), (11, .i r'2.2), (97, .b (decide (e0.Op = (17 : Int))))] [(2, .pure (GExpr.cs e0))] rfl rfl rfl ?_
      refine AW2_if (p := e0.Op = (17 : Int)) rfl (fun h23 => ?_) (fun h23 => ?_)
      ·replace H := ite_then h23 H
       refine sg [0, 1, 2] rfl ?_
       refine rp rfl rfl (p_asg rfl rfl) ?_
       refine rp rfl rfl (p_asg rfl rfl) ?_
       refine rp rfl rfl (p_asg rfl rfl) ?_
       refine rz [(4, .i (1 : Int)), (5, .b false), (6, .i (0 : Int))] [] rfl rfl rfl ?_
       refine AW2_ret ?_
       have hz := some_elim H
       subst hz
       exact ⟨⟨res_tmp (.same _), res_tmp (.same _), res_tmp (.same _), trivial⟩, trivial⟩
      ·replace H := ite_else h23 H
       refine sg [0, 1, 2, 3] rfl ?_
       refine rp rfl rfl (u_fa rfl rfl Tryd.underlying27 rfl in_3 (Nat.succ_ne_zero _) rfl rfl (ne_of_lt (n := 0) (Nat.lt_of_lt_of_eq (by decide) (Eq.symm (GExpr.len e0))))) ?_
       refine rp rfl rfl (u_ld rfl rfl Tryd.underlying3 rfl rfl ((Sub.refl _).trans (GExpr.sub0 e0))) ?_
       refine rp rfl rfl (p_ieq rfl rfl rfl) ?_
       refine rp rfl rfl (p_asg rfl rfl) ?_
       refine rz [(8, .b y'13.1), (9, .b y'13.2.1), (10, .i y'13.2.2.1), (11, .i r'2.2), (101, .b (decide (e0.Op = (20 : Int))))] [] rfl rfl rfl ?_
       refine AW2_if (p := e0.Op = (20 : Int)) rfl (fun h24 => ?_) (fun h24 => ?_)
       ·replace H := ite_then h24 H
        refine sg [0, 1, 2, 3, 4] rfl ?_
        refine rp rfl rfl (p_move rfl rfl) ?_
        refine rp rfl rfl (p_move rfl rfl) ?_
        refine rp rfl rfl (p_asg rfl rfl) ?_
        refine rp rfl rfl (p_asg rfl rfl) ?_
        refine rp rfl rfl (p_asg rfl rfl) ?_
        refine rz [(4, .i y'13.2.2.1), (5, .b y'13.2.1), (6, .i (0 : Int))] [] rfl rfl rfl ?_
        refine AW2_ret ?_
        have hz := some_elim H
        subst hz
        exact ⟨⟨res_tmp (.same _), res_tmp (.same _), res_tmp (.same _), trivial⟩, trivial⟩
       ·replace H := ite_else h24 H
        refine as2 [(8, .b y'13.1), (11, .i r'2.2)] [] rfl rfl rfl ?_
        refine AW2_skip ?_
        refine sg [0, 1, 2, 3, 4] rfl ?_
        refine rp rfl rfl (p_move rfl rfl) ?_
        refine rp rfl rfl (p_move rfl rfl) ?_
        refine rp rfl rfl (p_asg rfl rfl) ?_
        refine rp rfl rfl (p_asg rfl rfl) ?_
        refine rp rfl rfl (p_asg rfl rfl) ?_
        refine rz [(4, .i r'2.2), (5, .b y'13.1), (6, .i (0 : Int))] [] rfl rfl rfl ?_
        refine AW2_ret ?_
        have hz := some_elim H
        subst hz
        exact ⟨⟨res_tmp (.same _), res_tmp (.same _), res_tmp (.same _), trivial⟩, trivial⟩
theorem g_ref_kindOf_acN : ∀ (fu : Nat) {e0 : GExpr} {cols1 : List GColumn} {r : Int × Bool × Int}, g_ref_kindOf fu e0 cols1 = some r → ACp Tryd.prog 23 [(.agg (GExpr.cs e0)), ((fun q : List GColumn => AV.lst (q.flatMap GColumn.cs) q.length) cols1)] (.tup [(AV.int r.1), (AV.bool r.2.1), (AV.int r.2.2)])
 | 0, _, _, _, H => (by cases H)
 | fu + 1, _, _, _, H => g_ref_kindOf_ac0 (g_ref_kindOf_acN fu) H
theorem g_ref_kindOf_ac {e0 : GExpr} {cols1 : List GColumn} {r : Int × Bool × Int} (H : g_ref_kindOf 100000 e0 cols1 = some r) : ACp Tryd.prog 23 [(.agg (GExpr.cs e0)), ((fun q : List GColumn => AV.lst (q.flatMap GColumn.cs) q.length) cols1)] (.tup [(AV.int r.1), (AV.bool r.2.1), (AV.int r.2.2)]) := g_ref_kindOf_acN 100000 H

/-! chirographref.KindOf -/
noncomputable def g_ref_KindOf (e0 : GExpr) (cols1 : List GColumn) : Option (Int × Bool × Int) :=
  (g_ref_ExprFault e0).bind fun r'1 => (if r'1 ≠ (0 : Int) then some ((0 : Int), false, r'1) else (g_ref_ColumnsFault cols1).bind fun r'2 => (if r'2 ≠ (0 : Int) then some ((0 : Int), false, r'2) else (g_ref_kindOf 100000 e0 cols1).bind fun r'3 => some (r'3.1, r'3.2.1, r'3.2.2)))
set_option maxHeartbeats 4000000 in
set_option maxRecDepth 100000 in
theorem g_ref_KindOf_ac {e0 : GExpr} {cols1 : List GColumn} {r : Int × Bool × Int} (H : g_ref_KindOf e0 cols1 = some r) : ACp Tryd.prog 9 [(.agg (GExpr.cs e0)), ((fun q : List GColumn => AV.lst (q.flatMap GColumn.cs) q.length) cols1)] (.tup [(AV.int r.1), (AV.bool r.2.1), (AV.int r.2.2)]) := by
 refine ACp_of (AC2_of_body (vs := [.i r.1, .b r.2.1, .i r.2.2]) Tryd.func9 rfl rfl (Nat.le_of_ble_eq_true rfl) rfl ?_) (fun _ => .same _)
 unfold g_ref_KindOf at H
 refine as2 [(0, .g (GExpr.cs e0)), (1, .p ((fun q : List GColumn => AV.lst (q.flatMap GColumn.cs) q.length) cols1))] [] rfl rfl rfl ?_
 refine sg [0, 1, 2, 3] rfl ?_
 refine r_op rfl rfl (MakeD.opD (n_box 2 rfl rfl) rfl rfl rfl rfl) ?_
 refine rp rfl rfl (p_asg rfl rfl) ?_
 refine rp rfl rfl (p_asg rfl rfl) ?_
 refine rp rfl rfl (p_asg rfl rfl) ?_
 refine rz [(1, .p ((fun q : List GColumn => AV.lst (q.flatMap GColumn.cs) q.length) cols1)), (2, .q 2 (0))] [(2, .pure (GExpr.cs e0))] rfl rfl rfl ?_
 refine AW2_seq ?_
 refine sg [0, 1, 2] rfl ?_
 refine rp rfl rfl (u_lda rfl rfl Tryd.underlying27 rfl in_27 rfl (Nat.succ_pos _) (Sub.refl _) (GExpr.len e0)) ?_
 refine bindK H fun r'1 h1 H => ?_
 refine rp rfl rfl (p_callp rfl rfl rfl Tryd.func21 rfl rfl (g_ref_ExprFault_ac h1) ⟨rfl, trivial⟩) ?_
 refine rp rfl rfl (p_asg rfl rfl) ?_
 refine rz [(1, .p ((fun q : List GColumn => AV.lst (q.flatMap GColumn.cs) q.length) cols1)), (2, .q 2 (0)), (7, .i r'1)] [(2, .pure (GExpr.cs e0))] rfl rfl rfl ?_
 refine sg [0, 1] rfl ?_
 refine rp rfl rfl (p_move rfl rfl) ?_
 refine rp rfl rfl (p_ine rfl rfl rfl) ?_
 refine rz [(1, .p ((fun q : List GColumn => AV.lst (q.flatMap GColumn.cs) q.length) cols1)), (2, .q 2 (0)), (7, .i r'1), (12, .b (decide (r'1 ≠ (0 : Int))))] [(2, .pure (GExpr.cs e0))] rfl rfl rfl ?_
 refine AW2_if (p := r'1 ≠ (0 : Int)) rfl (fun h2 => ?_) (fun h2 => ?_)
 ·replace H := ite_then h2 H
  refine sg [0, 1, 2, 3] rfl ?_
  refine rp rfl rfl (p_move rfl rfl) ?_
  refine rp rfl rfl (p_asg rfl rfl) ?_
  refine rp rfl rfl (p_asg rfl rfl) ?_
  refine rp rfl rfl (p_asg rfl rfl) ?_
  refine rz [(4, .i (0 : Int)), (5, .b false), (6, .i r'1)] [] rfl rfl rfl ?_
  refine AW2_ret ?_
  have hz := some_elim H
  subst hz
  exact ⟨⟨res_tmp (.same _), res_tmp (.same _), res_tmp (.same _), trivial⟩, trivial⟩
 ·replace H := ite_else h2 H
  refine as2 [(1, .p ((fun q : List GColumn => AV.lst (q.flatMap GColumn.cs) q.length) cols1)), (2, .q 2 (0))] [(2, .pure (GExpr.cs e0))] rfl rfl rfl ?_
  refine AW2_skip ?_
  refine AW2_seq ?_
  refine sg [0, 1, 2] rfl ?_
  refine rp rfl rfl (p_move rfl rfl) ?_
  refine bindK H fun r'2 h3 H => ?_
  refine rp rfl rfl (p_callp rfl rfl rfl Tryd.func22 rfl rfl (g_ref_ColumnsFault_ac h3) ⟨rfl, trivial⟩) ?_
  refine rp rfl rfl (p_asg rfl rfl) ?_
  refine rz [(1, .p ((fun q : List GColumn => AV.lst (q.flatMap GColumn.cs) q.length) cols1)), (2, .q 2 (0)), (8, .i r'2)] [(2, .pure (GExpr.cs e0))] rfl rfl rfl ?_
  refine sg [0, 1] rfl ?_
  refine rp rfl rfl (p_move rfl rfl) ?_
  refine rp rfl rfl (p_ine rfl rfl rfl) ?_
  refine rz [(1, .p ((fun q : List GColumn => AV.lst (q.flatMap GColumn.cs) q.length) cols1)), (2, .q 2 (0)), (8, .i r'2), (17, .b (decide (r'2 ≠ (0 : Int))))] [(2, .pure (GExpr.cs e0))] rfl rfl rfl ?_
  refine AW2_if (p := r'2 ≠ (0 : Int)) rfl (fun h4 => ?_) (fun h4 => ?_)
  ·replace H := ite_then h4 H
   refine sg [0, 1, 2, 3] rfl ?_
   refine rp rfl rfl (p_move rfl rfl) ?_
   refine rp rfl rfl (p_asg rfl rfl) ?_
   refine rp rfl rfl (p_asg rfl rfl) ?_
   refine rp rfl rfl (p_asg rfl rfl) ?_
   refine rz [(4, .i (0 : Int)), (5, .b false), (6, .i r'2)] [] rfl rfl rfl ?_
   refine AW2_ret ?_
   have hz := some_elim H
   subst hz
   exact ⟨⟨res_tmp (.same _), res_tmp (.same _), res_tmp (.same _), trivial⟩, trivial⟩
  ·replace H := ite_else h4 H
   refine as2 [(1, .p ((fun q : List GColumn => AV.lst (q.flatMap GColumn.cs) q.length) cols1)), (2, .q 2 (0))] [(2, .pure (GExpr.cs e0))] rfl rfl rfl ?_
   refine AW2_skip ?_
   refine sg [0, 1, 2, 3, 4, 5, 6, 7, 8] rfl ?_
   refine rp rfl rfl (u_lda rfl rfl Tryd.underlying27 rfl in_27 rfl (Nat.succ_pos _) (Sub.refl _) (GExpr.len e0)) ?_
   refine rp rfl rfl (p_move rfl rfl) ?_
   refine bindK H fun r'3 h5 H => ?_
   refine rp rfl rfl (p_callp rfl rfl rfl Tryd.func23 rfl rfl (g_ref_kindOf_ac h5) ⟨rfl, rfl, trivial⟩) ?_
   refine rp rfl rfl (p_ext rfl rfl rfl rfl) ?_
   refine rp rfl rfl (p_ext rfl rfl rfl rfl) ?_
   refine rp rfl rfl (p_ext rfl rfl rfl rfl) ?_
   refine rp rfl rfl (p_asg rfl rfl) ?_
   refine rp rfl rfl (p_asg rfl rfl) ?_
   refine rp rfl rfl (p_asg rfl rfl) ?_
   refine rz [(4, .i r'3.1), (5, .b r'3.2.1), (6, .i r'3.2.2)] [] rfl rfl rfl ?_
   refine AW2_ret ?_
   have hz := some_elim H
   subst hz
   exact ⟨⟨res_tmp (.same _), res_tmp (.same _), res_tmp (.same _), trivial⟩, trivial⟩

/-! chirographlaw.KindsOf -/
noncomputable def g_law_KindsOf (x0 : GExpr) (cols1 : List GColumn) : Option (Bool) :=
  (g_kinds_Of x0 cols1).bind fun r'1 => (g_ref_KindOf x0 cols1).bind fun r'2 => some (decide (((r'1.2.2 = r'2.2.2) ∧ (r'1.1 = r'2.1)) ∧ (r'1.2.1 = r'2.2.1)))
set_option maxHeartbeats 4000000 in
set_option maxRecDepth 100000 in
theorem g_law_KindsOf_ac {x0 : GExpr} {cols1 : List GColumn} {r : Bool} (H : g_law_KindsOf x0 cols1 = some r) : ACp Tryd.prog 3 [(.agg (GExpr.cs x0)), ((fun q : List GColumn => AV.lst (q.flatMap GColumn.cs) q.length) cols1)] (AV.bool r) := by
 refine ACp_of (AC2_of_body (vs := [.b r]) Tryd.func3 rfl rfl (Nat.le_of_ble_eq_true rfl) rfl ?_) (fun _ => .same _)
 unfold g_law_KindsOf at H
 refine as2 [(0, .g (GExpr.cs x0)), (1, .p ((fun q : List GColumn => AV.lst (q.flatMap GColumn.cs) q.length) cols1))] [] rfl rfl rfl ?_
 refine sg [0, 1] rfl ?_
 refine r_op rfl rfl (MakeD.opD (n_box 2 rfl rfl) rfl rfl rfl rfl) ?_
 refine rp rfl rfl (p_asg rfl rfl) ?_
 refine rz [(1, .p ((fun q : List GColumn => AV.lst (q.flatMap GColumn.cs) q.length) cols1)), (2, .q 2 (0))] [(2, .pure (GExpr.cs x0))] rfl rfl rfl ?_
 refine sg [0, 1, 2, 3, 4, 5, 6, 7, 8, 9] rfl ?_
 refine rp rfl rfl (u_lda rfl rfl Tryd.underlying27 rfl in_27 rfl (Nat.succ_pos _) (Sub.refl _) (GExpr.len x0)) ?_
 refine rp rfl rfl (p_move rfl rfl) ?_
 refine bindK H fun r'1 h1 H => ?_
 refine rp rfl rfl (p_callp rfl rfl rfl Tryd.func8 rfl rfl (g_kinds_Of_ac h1) ⟨rfl, rfl, trivial⟩) ?_
 refine rp rfl rfl (p_move rfl rfl) ?_
 refine rp rfl rfl (p_ext rfl rfl rfl rfl) ?_
 refine rp rfl rfl (p_ext rfl rfl rfl rfl) ?_
 refine rp rfl rfl (p_ext rfl rfl rfl rfl) ?_
 refine rp rfl rfl (p_asg rfl rfl) ?_
 refine rp rfl rfl (p_asg rfl rfl) ?_
 refine rp rfl rfl (p_asg rfl rfl) ?_
 refine rz [(1, .p ((fun q : List GColumn => AV.lst (q.flatMap GColumn.cs) q.length) cols1)), (2, .q 2 (0)), (5, .i r'1.1), (6, .b r'1.2.1), (7, .i r'1.2.2)] [(2, .pure (GExpr.cs x0))] rfl rfl rfl ?_
 refine sg [0, 1, 2, 3, 4, 5, 6, 7, 8, 9] rfl ?_
 refine rp rfl rfl (u_lda rfl rfl Tryd.underlying27 rfl in_27 rfl (Nat.succ_pos _) (Sub.refl _) (GExpr.len x0)) ?_
 refine rp rfl rfl (p_move rfl rfl) ?_
 refine bindK H fun r'2 h2 H => ?_
 refine rp rfl rfl (p_callp rfl rfl rfl Tryd.func9 rfl rfl (g_ref_KindOf_ac h2) ⟨rfl, rfl, trivial⟩) ?_
 refine rp rfl rfl (p_move rfl rfl) ?_
 refine rp rfl rfl (p_ext rfl rfl rfl rfl) ?_
 refine rp rfl rfl (p_ext rfl rfl rfl rfl) ?_
 refine rp rfl rfl (p_ext rfl rfl rfl rfl) ?_
 refine rp rfl rfl (p_asg rfl rfl) ?_
 refine rp rfl rfl (p_asg rfl rfl) ?_
 refine rp rfl rfl (p_asg rfl rfl) ?_
 refine rz [(5, .i r'1.1), (6, .b r'1.2.1), (7, .i r'1.2.2), (8, .i r'2.1), (9, .b r'2.2.1), (10, .i r'2.2.2)] [] rfl rfl rfl ?_
 refine AW2_seq ?_
 refine AW2_mid (⟨[(4, .b (decide (((r'1.2.2 = r'2.2.2) ∧ (r'1.1 = r'2.1)) ∧ (r'1.2.1 = r'2.2.1))))], [], 38⟩ : TS) ?_ ?_
 ·refine AW2_reg [0, 1, 2, 3, 4, 5, 6, 7, 8, 9, 10, 11, 12, 13] rfl ?_
  refine rp rfl rfl (p_move rfl rfl) ?_
  refine rp rfl rfl (p_move rfl rfl) ?_
  refine rp rfl rfl (p_ieq rfl rfl rfl) ?_
  refine rp rfl rfl (p_move rfl rfl) ?_
  refine (Classical.em (r'1.2.2 = r'2.2.2)).elim (fun h3 => ?_) (fun h3 => ?_)
  ·refine r_on rfl rfl rfl rfl (decide_eq_true h3) rfl (PureD.opD (p_move rfl rfl)) ?_
   refine r_on rfl rfl rfl rfl (decide_eq_true h3) rfl (PureD.opD (p_move rfl rfl)) ?_
   refine r_on rfl rfl rfl rfl (decide_eq_true h3) rfl (PureD.opD (p_ieq rfl rfl rfl)) ?_
   refine rp rfl rfl (p_pkt rfl rfl (decide_eq_true h3) (tb ((and_l (p := r'1.2.2 = r'2.2.2) (q := r'1.1 = r'2.1) h3)))) ?_
   refine rp rfl rfl (p_move rfl rfl) ?_
   refine (Classical.em (r'1.1 = r'2.1)).elim (fun h4 => ?_) (fun h4 => ?_)
   ·refine r_on rfl rfl rfl rfl (decide_eq_true (p := (r'1.2.2 = r'2.2.2) ∧ (r'1.1 = r'2.1)) ⟨h3, h4⟩) rfl (PureD.opD (p_move rfl rfl)) ?_
    refine r_on rfl rfl rfl rfl (decide_eq_true (p := (r'1.2.2 = r'2.2.2) ∧ (r'1.1 = r'2.1)) ⟨h3, h4⟩) rfl (PureD.opD (p_move rfl rfl)) ?_
    refine r_on rfl rfl rfl rfl (decide_eq_true (p := (r'1.2.2 = r'2.2.2) ∧ (r'1.1 = r'2.1)) ⟨h3, h4⟩) rfl (PureD.opD (p_beqp rfl Tryd.underlying4 rfl rfl)) ?_
    refine rp rfl rfl (p_pkt rfl rfl (decide_eq_true (p := (r'1.2.2 = r'2.2.2) ∧ (r'1.1 = r'2.1)) ⟨h3, h4⟩) (tb ((and_l (p := (r'1.2.2 = r'2.2.2) ∧ (r'1.1 = r'2.1)) (q := r'1.2.1 = r'2.2.1) ⟨h3, h4⟩)))) ?_
    refine rp rfl rfl (p_asg rfl rfl) ?_
    refine rs [(4, .b (decide (((r'1.2.2 = r'2.2.2) ∧ (r'1.1 = r'2.1)) ∧ (r'1.2.1 = r'2.2.1))))] [] rfl rfl rfl ?_
    exact RunW_nil rfl
   ·refine r_off rfl rfl rfl rfl (decide_eq_false (p := (r'1.2.2 = r'2.2.2) ∧ (r'1.1 = r'2.1)) (fun h => h4 h.2)) rfl rfl ?_
    refine r_off rfl rfl rfl rfl (decide_eq_false (p := (r'1.2.2 = r'2.2.2) ∧ (r'1.1 = r'2.1)) (fun h => h4 h.2)) rfl rfl ?_
    refine r_off rfl rfl rfl rfl (decide_eq_false (p := (r'1.2.2 = r'2.2.2) ∧ (r'1.1 = r'2.1)) (fun h => h4 h.2)) rfl rfl ?_
    refine rp rfl rfl (p_pkf rfl rfl (decide_eq_false (p := (r'1.2.2 = r'2.2.2) ∧ (r'1.1 = r'2.1)) (fun h => h4 h.2)) (tb (decide_eq_false (p := ((r'1.2.2 = r'2.2.2) ∧ (r'1.1 = r'2.1)) ∧ (r'1.2.1 = r'2.2.1)) (fun x => (fun h => h4 h.2) x.1)).symm)) ?_
    refine rp rfl rfl (p_asg rfl rfl) ?_
    refine rs [(4, .b (decide (((r'1.2.2 = r'2.2.2) ∧ (r'1.1 = r'2.1)) ∧ (r'1.2.1 = r'2.2.1))))] [] rfl rfl rfl ?_
    exact RunW_nil rfl
  ·refine r_off rfl rfl rfl rfl (decide_eq_false h3) rfl rfl ?_
   refine r_off rfl rfl rfl rfl (decide_eq_false h3) rfl rfl ?_
   refine r_off rfl rfl rfl rfl (decide_eq_false h3) rfl rfl ?_
   refine rp rfl rfl (p_pkf rfl rfl (decide_eq_false h3) (tb (decide_eq_false (p := (r'1.2.2 = r'2.2.2) ∧ (r'1.1 = r'2.1)) (fun x => h3 x.1)).symm)) ?_
   refine rp rfl rfl (p_move rfl rfl) ?_
   refine r_off rfl rfl rfl rfl (decide_eq_false (p := (r'1.2.2 = r'2.2.2) ∧ (r'1.1 = r'2.1)) (fun h => h3 h.1)) rfl rfl ?_
   refine r_off rfl rfl rfl rfl (decide_eq_false (p := (r'1.2.2 = r'2.2.2) ∧ (r'1.1 = r'2.1)) (fun h => h3 h.1)) rfl rfl ?_
   refine r_off rfl rfl rfl rfl (decide_eq_false (p := (r'1.2.2 = r'2.2.2) ∧ (r'1.1 = r'2.1)) (fun h => h3 h.1)) rfl rfl ?_
   refine rp rfl rfl (p_pkf rfl rfl (decide_eq_false (p := (r'1.2.2 = r'2.2.2) ∧ (r'1.1 = r'2.1)) (fun h => h3 h.1)) (tb (decide_eq_false (p := ((r'1.2.2 = r'2.2.2) ∧ (r'1.1 = r'2.1)) ∧ (r'1.2.1 = r'2.2.1)) (fun x => (fun h => h3 h.1) x.1)).symm)) ?_
   refine rp rfl rfl (p_asg rfl rfl) ?_
   refine rs [(4, .b (decide (((r'1.2.2 = r'2.2.2) ∧ (r'1.1 = r'2.1)) ∧ (r'1.2.1 = r'2.2.1))))] [] rfl rfl rfl ?_
   exact RunW_nil rfl
 ·refine AW2_ret ?_
  have hz := some_elim H
  subst hz
  exact ⟨⟨res_tmp (.same _), trivial⟩, trivial⟩

/-! table.none -/
noncomputable def g_table_none (e0 : GExpr) : Option (Bool) :=
  some (decide ((((e0.Op = (0 : Int)) ∧ (e0.Name = [])) ∧ (e0.Value = GValue.zero)) ∧ ((e0.Args.length : Int) = (0 : Int))))
set_option maxHeartbeats 4000000 in
set_option maxRecDepth 100000 in
theorem g_table_none_ac {e0 : GExpr} {r : Bool} (H : g_table_none e0 = some r) : ACp Tryd.prog 24 [(.agg (GExpr.cs e0))] (AV.bool r) := by
 refine ACp_of (AC2_of_body (vs := [.b r]) Tryd.func24 rfl rfl (Nat.le_of_ble_eq_true rfl) rfl ?_) (fun _ => .same _)
 unfold g_table_none at H
 refine as2 [(0, .g (GExpr.cs e0))] [] rfl rfl rfl ?_
 refine sg [0, 1] rfl ?_
 refine r_op rfl rfl (MakeD.opD (n_box 1 rfl rfl) rfl rfl rfl rfl) ?_
 refine rp rfl rfl (p_asg rfl rfl) ?_
 refine rz [(1, .q 1 (0))] [(1, .pure (GExpr.cs e0))] rfl rfl rfl ?_
 refine AW2_seq ?_
 refine AW2_mid (⟨[(2, .b (decide ((((e0.Op = (0 : Int)) ∧ (e0.Name = [])) ∧ (e0.Value = GValue.zero)) ∧ ((e0.Args.length : Int) = (0 : Int)))))], [], 23⟩ : TS) ?_ ?_
 ·refine AW2_reg [0, 1, 2, 3, 4, 5, 6, 7, 8, 9, 10, 11, 12, 13, 14, 15, 16, 17, 18, 19, 20] rfl ?_
  refine rp rfl rfl (u_fa rfl rfl Tryd.underlying27 rfl in_3 (Nat.succ_ne_zero _) rfl rfl (ne_of_lt (n := 0) (Nat.lt_of_lt_of_eq (by decide) (Eq.symm (GExpr.len e0))))) ?_
  refine rp rfl rfl (u_ld rfl rfl Tryd.underlying3 rfl rfl ((Sub.refl _).trans (GExpr.sub0 e0))) ?_
  refine rp rfl rfl (p_ieq rfl rfl rfl) ?_
  refine rp rfl rfl (p_move rfl rfl) ?_
  refine (Classical.em (e0.Op = (0 : Int))).elim (fun h1 => ?_) (fun h1 => ?_)
  ·refine r_on rfl rfl rfl rfl (decide_eq_true h1) rfl (PureD.opD (u_fa rfl rfl Tryd.underlying27 rfl in_9 (Nat.succ_ne_zero _) rfl rfl (ne_of_lt (n := 0) (Nat.lt_of_lt_of_eq (by decide) (Eq.symm (GExpr.len e0)))))) ?_
   refine r_on rfl rfl rfl rfl (decide_eq_true h1) rfl (PureD.opD (u_ld rfl rfl Tryd.underlying9 rfl rfl ((Sub.refl _).trans (GExpr.sub2 e0)))) ?_
   refine r_on rfl rfl rfl rfl (decide_eq_true h1) rfl (PureD.opD (p_seq rfl rfl rfl)) ?_
   refine rp rfl rfl (p_pkt rfl rfl (decide_eq_true h1) (tb ((and_l (p := e0.Op = (0 : Int)) (q := e0.Name = []) h1)))) ?_
   refine rp rfl rfl (p_move rfl rfl) ?_
   refine (Classical.em (e0.Name = [])).elim (fun h2 => ?_) (fun h2 => ?_)
   ·refine r_on rfl rfl rfl rfl (decide_eq_true (p := (e0.Op = (0 : Int)) ∧ (e0.Name = [])) ⟨h1, h2⟩) rfl (PureD.opD (u_fa rfl rfl Tryd.underlying27 rfl in_24 (Nat.succ_ne_zero _) rfl rfl (ne_of_lt (n := 0) (Nat.lt_of_lt_of_eq (by decide) (Eq.symm (GExpr.len e0)))))) ?_
    refine r_on rfl rfl rfl rfl (decide_eq_true (p := (e0.Op = (0 : Int)) ∧ (e0.Name = [])) ⟨h1, h2⟩) rfl (PureD.opD (u_lda rfl rfl Tryd.underlying24 rfl in_24 rfl (Nat.succ_pos _) ((Sub.refl _).trans (GExpr.sub1 e0)) (GValue.len e0.Value))) ?_
    refine r_on rfl rfl rfl rfl (decide_eq_true (p := (e0.Op = (0 : Int)) ∧ (e0.Name = [])) ⟨h1, h2⟩) rfl (PureD.opD (u_bld rfl in_24 one_24 zc_24 pl_24 rfl rfl)) ?_
    refine r_on rfl rfl rfl rfl (decide_eq_true (p := (e0.Op = (0 : Int)) ∧ (e0.Name = [])) ⟨h1, h2⟩) rfl (PureD.opD (p_eqa (a := e0.Value) (b := GValue.zero) rfl eq_24 rfl (by kernel_rfl) rfl rfl)) ?_
    refine rp rfl rfl (p_pkt rfl rfl (decide_eq_true (p := (e0.Op = (0 : Int)) ∧ (e0.Name = [])) ⟨h1, h2⟩) (tb ((and_l (p := (e0.Op = (0 : Int)) ∧ (e0.Name = [])) (q := e0.Value = GValue.zero) ⟨h1, h2⟩)))) ?_
    refine rp rfl rfl (p_move rfl rfl) ?_
    refine (Classical.em (e0.Value = GValue.zero)).elim (fun h3 => ?_) (fun h3 => ?_)
    ·refine r_on rfl rfl rfl rfl (decide_eq_true (p := ((e0.Op = (0 : Int)) ∧ (e0.Name = [])) ∧ (e0.Value = GValue.zero)) ⟨⟨h1, h2⟩, h3⟩) rfl (PureD.opD (u_fa rfl rfl Tryd.underlying27 rfl in_25 (Nat.succ_ne_zero _) rfl rfl (ne_of_lt (n := 0) (Nat.lt_of_lt_of_eq (by decide) (Eq.symm (GExpr.len e0)))))) ?_
     refine r_on rfl rfl rfl rfl (decide_eq_true (p := ((e0.Op = (0 : Int)) ∧ (e0.Name = [])) ∧ (e0.Value = GValue.zero)) ⟨⟨h1, h2⟩, h3⟩) rfl (PureD.opD (u_ld rfl rfl Tryd.underlying25 rfl rfl ((Sub.refl _).trans (GExpr.sub3 e0)))) ?_
     refine r_on rfl rfl rfl rfl (decide_eq_true (p := ((e0.Op = (0 : Int)) ∧ (e0.Name = [])) ∧ (e0.Value = GValue.zero)) ⟨⟨h1, h2⟩, h3⟩) rfl (PureD.opD (p_lenl rfl Tryd.underlying25 rfl rfl)) ?_
     refine r_on rfl rfl rfl rfl (decide_eq_true (p := ((e0.Op = (0 : Int)) ∧ (e0.Name = [])) ∧ (e0.Value = GValue.zero)) ⟨⟨h1, h2⟩, h3⟩) rfl (PureD.opD (p_ieq rfl rfl rfl)) ?_
     refine rp rfl rfl (p_pkt rfl rfl (decide_eq_true (p := ((e0.Op = (0 : Int)) ∧ (e0.Name = [])) ∧ (e0.Value = GValue.zero)) ⟨⟨h1, h2⟩, h3⟩) (tb ((and_l (p := ((e0.Op = (0 : Int)) ∧ (e0.Name = [])) ∧ (e0.Value = GValue.zero)) (q := (e0.Args.length : Int) = (0 : Int)) ⟨⟨h1, h2⟩, h3⟩)))) ?_
     refine rp rfl rfl (p_asg rfl rfl) ?_
     refine rs [(2, .b (decide ((((e0.Op = (0 : Int)) ∧ (e0.Name = [])) ∧ (e0.Value = GValue.zero)) ∧ ((e0.Args.length : Int) = (0 : Int)))))] [] rfl rfl rfl ?_
     exact RunW_nil rfl
    ·refine r_off rfl rfl rfl rfl (decide_eq_false (p := ((e0.Op = (0 : Int)) ∧ (e0.Name = [])) ∧ (e0.Value = GValue.zero)) (fun h => h3 h.2)) rfl rfl ?_
     refine r_off rfl rfl rfl rfl (decide_eq_false (p := ((e0.Op = (0 : Int)) ∧ (e0.Name = [])) ∧ (e0.Value = GValue.zero)) (fun h => h3 h.2)) rfl rfl ?_
     refine r_off rfl rfl rfl rfl (decide_eq_false (p := ((e0.Op = (0 : Int)) ∧ (e0.Name = [])) ∧ (e0.Value = GValue.zero)) (fun h => h3 h.2)) rfl rfl ?_
     refine r_off rfl rfl rfl rfl (decide_eq_false (p := ((e0.Op = (0 : Int)) ∧ (e0.Name = [])) ∧ (e0.Value = GValue.zero)) (fun h => h3 h.2)) rfl rfl ?_
     refine rp rfl rfl (p_pkf rfl rfl (decide_eq_false (p := ((e0.Op = (0 : Int)) ∧ (e0.Name = [])) ∧ (e0.Value = GValue.zero)) (fun h => h3 h.2)) (tb (decide_eq_false (p := (((e0.Op = (0 : Int)) ∧ (e0.Name = [])) ∧ (e0.Value = GValue.zero)) ∧ ((e0.Args.length : Int) = (0 : Int))) (fun x => (fun h => h3 h.2) x.1)).symm)) ?_
     refine rp rfl rfl (p_asg rfl rfl) ?_
     refine rs [(2, .b (decide ((((e0.Op = (0 : Int)) ∧ (e0.Name = [])) ∧ (e0.Value = GValue.zero)) ∧ ((e0.Args.length : Int) = (0 : Int)))))] [] rfl rfl rfl ?_
     exact RunW_nil rfl
   ·refine r_off rfl rfl rfl rfl (decide_eq_false (p := (e0.Op = (0 : Int)) ∧ (e0.Name = [])) (fun h => h2 h.2)) rfl rfl ?_
    refine r_off rfl rfl rfl rfl (decide_eq_false (p := (e0.Op = (0 : Int)) ∧ (e0.Name = [])) (fun h => h2 h.2)) rfl rfl ?_
    refine r_off rfl rfl rfl rfl (decide_eq_false (p := (e0.Op = (0 : Int)) ∧ (e0.Name = [])) (fun h => h2 h.2)) rfl rfl ?_
    refine r_off rfl rfl rfl rfl (decide_eq_false (p := (e0.Op = (0 : Int)) ∧ (e0.Name = [])) (fun h => h2 h.2)) rfl rfl ?_
    refine rp rfl rfl (p_pkf rfl rfl (decide_eq_false (p := (e0.Op = (0 : Int)) ∧ (e0.Name = [])) (fun h => h2 h.2)) (tb (decide_eq_false (p := ((e0.Op = (0 : Int)) ∧ (e0.Name = [])) ∧ (e0.Value = GValue.zero)) (fun x => (fun h => h2 h.2) x.1)).symm)) ?_
    refine rp rfl rfl (p_move rfl rfl) ?_
    refine r_off rfl rfl rfl rfl (decide_eq_false (p := ((e0.Op = (0 : Int)) ∧ (e0.Name = [])) ∧ (e0.Value = GValue.zero)) (fun h => (fun h => h2 h.2) h.1)) rfl rfl ?_
    refine r_off rfl rfl rfl rfl (decide_eq_false (p := ((e0.Op = (0 : Int)) ∧ (e0.Name = [])) ∧ (e0.Value = GValue.zero)) (fun h => (fun h => h2 h.2) h.1)) rfl rfl ?_
    refine r_off rfl rfl rfl rfl (decide_eq_false (p := ((e0.Op = (0 : Int)) ∧ (e0.Name = [])) ∧ (e0.Value = GValue.zero)) (fun h => (fun h => h2 h.2) h.1)) rfl rfl ?_
    refine r_off rfl rfl rfl rfl (decide_eq_false (p := ((e0.Op = (0 : Int)) ∧ (e0.Name = [])) ∧ (e0.Value = GValue.zero)) (fun h => (fun h => h2 h.2) h.1)) rfl rfl ?_
    refine rp rfl rfl (p_pkf rfl rfl (decide_eq_false (p := ((e0.Op = (0 : Int)) ∧ (e0.Name = [])) ∧ (e0.Value = GValue.zero)) (fun h => (fun h => h2 h.2) h.1)) (tb (decide_eq_false (p := (((e0.Op = (0 : Int)) ∧ (e0.Name = [])) ∧ (e0.Value = GValue.zero)) ∧ ((e0.Args.length : Int) = (0 : Int))) (fun x => (fun h => (fun h => h2 h.2) h.1) x.1)).symm)) ?_
    refine rp rfl rfl (p_asg rfl rfl) ?_
    refine rs [(2, .b (decide ((((e0.Op = (0 : Int)) ∧ (e0.Name = [])) ∧ (e0.Value = GValue.zero)) ∧ ((e0.Args.length : Int) = (0 : Int)))))] [] rfl rfl rfl ?_
    exact RunW_nil rfl
  ·refine r_off rfl rfl rfl rfl (decide_eq_false h1) rfl rfl ?_
   refine r_off rfl rfl rfl rfl (decide_eq_false h1) rfl rfl ?_
   refine r_off rfl rfl rfl rfl (decide_eq_false h1) rfl rfl ?_
   refine rp rfl rfl (p_pkf rfl rfl (decide_eq_false h1) (tb (decide_eq_false (p := (e0.Op = (0 : Int)) ∧ (e0.Name = [])) (fun x => h1 x.1)).symm)) ?_
   refine rp rfl rfl (p_move rfl rfl) ?_
   refine r_off rfl rfl rfl rfl (decide_eq_false (p := (e0.Op = (0 : Int)) ∧ (e0.Name = [])) (fun h => h1 h.1)) rfl rfl ?_
   refine r_off rfl rfl rfl rfl (decide_eq_false (p := (e0.Op = (0 : Int)) ∧ (e0.Name = [])) (fun h => h1 h.1)) rfl rfl ?_
   refine r_off rfl rfl rfl rfl (decide_eq_false (p := (e0.Op = (0 : Int)) ∧ (e0.Name = [])) (fun h => h1 h.1)) rfl rfl ?_
   refine r_off rfl rfl rfl rfl (decide_eq_false (p := (e0.Op = (0 : Int)) ∧ (e0.Name = [])) (fun h => h1 h.1)) rfl rfl ?_
   refine rp rfl rfl (p_pkf rfl rfl (decide_eq_false (p := (e0.Op = (0 : Int)) ∧ (e0.Name = [])) (fun h => h1 h.1)) (tb (decide_eq_false (p := ((e0.Op = (0 : Int)) ∧ (e0.Name = [])) ∧ (e0.Value = GValue.zero)) (fun x => (fun h => h1 h.1) x.1)).symm)) ?_
   refine rp rfl rfl (p_move rfl rfl) ?_
   refine r_off rfl rfl rfl rfl (decide_eq_false (p := ((e0.Op = (0 : Int)) ∧ (e0.Name = [])) ∧ (e0.Value = GValue.zero)) (fun h => (fun h => h1 h.1) h.1)) rfl rfl ?_
   refine r_off rfl rfl rfl rfl (decide_eq_false (p := ((e0.Op = (0 : Int)) ∧ (e0.Name = [])) ∧ (e0.Value = GValue.zero)) (fun h => (fun h => h1 h.1) h.1)) rfl rfl ?_
   refine r_off rfl rfl rfl rfl (decide_eq_false (p := ((e0.Op = (0 : Int)) ∧ (e0.Name = [])) ∧ (e0.Value = GValue.zero)) (fun h => (fun h => h1 h.1) h.1)) rfl rfl ?_
   refine r_off rfl rfl rfl rfl (decide_eq_false (p := ((e0.Op = (0 : Int)) ∧ (e0.Name = [])) ∧ (e0.Value = GValue.zero)) (fun h => (fun h => h1 h.1) h.1)) rfl rfl ?_
   refine rp rfl rfl (p_pkf rfl rfl (decide_eq_false (p := ((e0.Op = (0 : Int)) ∧ (e0.Name = [])) ∧ (e0.Value = GValue.zero)) (fun h => (fun h => h1 h.1) h.1)) (tb (decide_eq_false (p := (((e0.Op = (0 : Int)) ∧ (e0.Name = [])) ∧ (e0.Value = GValue.zero)) ∧ ((e0.Args.length : Int) = (0 : Int))) (fun x => (fun h => (fun h => h1 h.1) h.1) x.1)).symm)) ?_
   refine rp rfl rfl (p_asg rfl rfl) ?_
   refine rs [(2, .b (decide ((((e0.Op = (0 : Int)) ∧ (e0.Name = [])) ∧ (e0.Value = GValue.zero)) ∧ ((e0.Args.length : Int) = (0 : Int)))))] [] rfl rfl rfl ?_
   exact RunW_nil rfl
 ·refine AW2_ret ?_
  have hz := some_elim H
  subst hz
  exact ⟨⟨res_tmp (.same _), trivial⟩, trivial⟩
end Go.Proofs.YtcahembojhmpbaaDoor.VM
