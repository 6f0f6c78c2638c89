/- Functions of the program, as they answer, and that their code comes to these answers. -/
import Derived.Test.YtalnmpfjgiecdaaDoorGe1
namespace Go.Proofs.YtalnmpfjgiecdaaDoor.VM
open Go Go.RowKit

set_option maxRecDepth 100000 in
theorem ty_3 {d : Nat} {cs : List AV} (h : Typed Tryd.prog d 3 cs) : ∃ x : Int, cs = [(AV.int x)] ∧ okI x := match d, h with
  | 0, h => False.elim h
  | d + 1, h => ty_int Tryd.underlying3 h
set_option maxRecDepth 100000 in
theorem ty_22 {d : Nat} {cs : List AV} (h : Typed Tryd.prog d 22 cs) : ∃ x : UInt64, cs = [(AV.u64 x)] ∧ okA x := match d, h with
  | 0, h => False.elim h
  | d + 1, h => ty_u64 Tryd.underlying22 h
set_option maxRecDepth 100000 in
theorem ty_9 {d : Nat} {cs : List AV} (h : Typed Tryd.prog d 9 cs) : ∃ x : List UInt8, cs = [(AV.txt x)] ∧ okT x := match d, h with
  | 0, h => False.elim h
  | d + 1, h => ty_text Tryd.underlying9 h
def GValue.ok (x : GValue) : Prop := okI x.Kind ∧ okI x.Int_ ∧ okA x.Bits ∧ okT x.Text
set_option maxRecDepth 100000 in
theorem ty_29 {d : Nat} {cs : List AV} (h : Typed Tryd.prog d 29 cs) : ∃ x : GValue, cs = GValue.cs x ∧ GValue.ok x := match d, h with
  | 0, h => False.elim h
  | d + 1, h => by
    obtain ⟨es, rfl, hl, hf⟩ := ty_struct Tryd.underlying29 h
    match es, hl, hf with
    | [e0, e1, e2, e3], _, hf =>
    obtain ⟨x0, h0, q0⟩ := ty_3 (hf 0 _ e0 rfl rfl)
    obtain ⟨x1, h1, q1⟩ := ty_3 (hf 1 _ e1 rfl rfl)
    obtain ⟨x2, h2, q2⟩ := ty_22 (hf 2 _ e2 rfl rfl)
    obtain ⟨x3, h3, q3⟩ := ty_9 (hf 3 _ e3 rfl rfl)
    refine ⟨⟨x0, x1, x2, x3⟩, ?_, ⟨q0, q1, q2, q3⟩⟩
    rw [h0, h1, h2, h3]
    simp only [List.flatten_cons, List.flatten_nil, List.append_nil, GValue.cs]
inductive GExpr.ok : GExpr → Prop
  | mk {x : GExpr} : okI x.Op → GValue.ok x.Value → okT x.Name → x.Args.length * 88 ≤ reachBytes → x.Args.length ≤ maxLen → (∀ y ∈ x.Args, GExpr.ok y) → GExpr.ok x
set_option maxRecDepth 100000 in
theorem ty_32_ (N : Nat) : ∀ (d : Nat) (cs : List AV), d ≤ N → Typed Tryd.prog d 32 cs → ∃ x : GExpr, cs = GExpr.cs x ∧ GExpr.ok x := by
  induction N with
  | zero =>
    intro d cs hd h
    obtain rfl : d = 0 := by omega
    exact False.elim h
  | succ N ih =>
    intro d cs hd h
    match d, hd, h with
    | 0, _, h => exact False.elim h
    | d + 1, hd, h =>
    obtain ⟨es, rfl, hl, hf⟩ := ty_struct Tryd.underlying32 h
    match es, hl, hf with
    | [e0, e1, e2, e3], _, hf =>
    obtain ⟨x0, h0, q0⟩ := ty_3 (hf 0 _ e0 rfl rfl)
    obtain ⟨x1, h1, q1⟩ := ty_29 (hf 1 _ e1 rfl rfl)
    obtain ⟨x2, h2, q2⟩ := ty_9 (hf 2 _ e2 rfl rfl)
    obtain ⟨x3, h3, q3⟩ : ∃ l : List GExpr, e3 = [.lst (l.flatMap GExpr.cs) l.length] ∧ okL 88 GExpr.ok l := by
      have h9 := hf 3 _ e3 rfl rfl
      match d, hd, h9 with
      | 0, _, h => exact False.elim h
      | k + 1, hd, h => exact ty_slicef (g := fun b : GExpr => GExpr.cs b) Tryd.underlying30 (bytes_of in_32) (fun x hx => ih k x (by omega) hx) h
    refine ⟨⟨x0, x1, x2, x3⟩, ?_, .mk q0 q1 q2 q3.1 q3.2.1 q3.2.2⟩
    rw [h0, h1, h2, h3, GExpr.cs_eq]
    simp only [List.flatten_cons, List.flatten_nil, List.append_nil]
theorem ty_32 {d : Nat} {cs : List AV} (h : Typed Tryd.prog d 32 cs) : ∃ x : GExpr, cs = GExpr.cs x ∧ GExpr.ok x := ty_32_ d d cs (Nat.le_refl _) h

/-! chirographref.among -/
noncomputable def g_ref_among_l0 (c0 : UInt8) (l1 : List UInt8) : Int → Option (Int ⊕ (Bool ⊕ Unit))
  | i5_0 => (if i5_0 < (l1.length : Int) then if 0 ≤ i5_0 ∧ i5_0 < (l1.length : Int) then (if (lrd l1 i5_0.toNat) = c0 then some (.inr (.inl true)) else some (.inl (w64 (i5_0 + (1 : Int))))) else none else some (.inr (.inr ())))
noncomputable def g_ref_among (c0 : UInt8) (l1 : List UInt8) : Option (Bool) :=
  (loopO (g_ref_among_l0 c0 l1) (0 : Int)).bind fun o'4 => match o'4 with | .inl y'5 => some y'5 | .inr (y'6) => some false
set_option maxHeartbeats 4000000 in
set_option maxRecDepth 100000 in
theorem g_ref_among_ac {c0 : UInt8} {l1 : List UInt8} {r : Bool} (H : g_ref_among c0 l1 = some r) : ACp Tryd.prog 56 [(AV.b8 c0), (AV.txt l1)] (AV.bool r) := by
 refine ACp_of (AC2_of_body (vs := [.b r]) Tryd.func56 rfl rfl (Nat.le_of_ble_eq_true rfl) rfl ?_) (fun _ => .same _)
 unfold g_ref_among at H
 refine as2 [(0, .p (AV.b8 c0)), (1, .t l1)] [] rfl rfl rfl ?_
 refine sg [0] rfl ?_
 refine rp rfl rfl (p_asg rfl rfl) ?_
 refine rz [(0, .p (AV.b8 c0)), (1, .t l1)] [] rfl rfl rfl ?_
 refine AW2_seq ?_
 refine sg [0] rfl ?_
 refine rp rfl rfl (p_asg rfl rfl) ?_
 refine rz [(0, .p (AV.b8 c0)), (1, .t l1), (5, .i (0 : Int))] [] rfl rfl rfl ?_
 refine AW2_block ?_
 refine as2 [(0, .p (AV.b8 c0)), (1, .t l1), (5, .i (0 : Int))] [] rfl rfl rfl ?_
 refine bindK H fun o'4 h4 H => ?_
 refine AW2_loopO (fun a'1 : Int => (⟨[(0, .p (AV.b8 c0)), (1, .t l1), (5, .i a'1)], [], 17⟩ : TS)) (fun (o : Bool ⊕ Unit) e s' => match o with | .inl y'2 => e = Go.Exit.ret ∧ ResAll Tryd.prog s' [ResultVar.tmp 4] [.b y'2] ∧ HFits s' [] | .inr (y'3) => e = Go.Exit.exit 0 ∧ s' = (⟨[], [], 17⟩ : TS)) h4 rfl (fun i5_0 x hx => ?_) (fun e s' hs => ?_)
 ·clear H
  have H := hx
  clear hx
  unfold g_ref_among_l0 at H
  refine AW2_seq ?_
  refine sg [0, 1, 2, 3] rfl ?_
  refine rp rfl rfl (p_move rfl rfl) ?_
  refine rp rfl rfl (p_move rfl rfl) ?_
  refine rp rfl rfl (p_lent rfl Tryd.underlying9 rfl) ?_
  refine rp rfl rfl (p_bin rfl rfl rfl rfl) ?_
  refine rz [(0, .p (AV.b8 c0)), (1, .t l1), (5, .i i5_0), (9, .b (decide (i5_0 < (l1.length : Int))))] [] rfl rfl rfl ?_
  refine AW2_if (p := i5_0 < (l1.length : Int)) rfl (fun h1 => ?_) (fun h1 => ?_)
  ·replace H := ite_then h1 H
   refine as2 [(0, .p (AV.b8 c0)), (1, .t l1), (5, .i i5_0)] [] rfl rfl rfl ?_
   refine AW2_skip ?_
   refine AW2_seq ?_
   refine AW2_block ?_
   refine sg [0, 1, 2, 3, 4] rfl ?_
   refine rp rfl rfl (p_move rfl rfl) ?_
   refine rp rfl rfl (p_move rfl rfl) ?_
   refine chkK H fun h2 H => ?_
   refine rp rfl rfl (p_ixt rfl Tryd.underlying9 rfl rfl (ixe h2) (lrd_get (ixn h2))) ?_
   refine rp rfl rfl (p_move rfl rfl) ?_
   refine rp rfl rfl (p_u8eq (a := (lrd l1 i5_0.toNat)) (b := c0) rfl rfl rfl) ?_
   refine rz [(0, .p (AV.b8 c0)), (1, .t l1), (5, .i i5_0), (16, .b (decide ((lrd l1 i5_0.toNat) = c0)))] [] rfl rfl rfl ?_
   refine AW2_if (p := (lrd l1 i5_0.toNat) = c0) rfl (fun h3 => ?_) (fun h3 => ?_)
   ·replace H := ite_then h3 H
    refine sg [0] rfl ?_
    refine rp rfl rfl (p_asg rfl rfl) ?_
    refine rz [(4, .b true)] [] rfl rfl rfl ?_
    refine AW2_ret ?_
    have hz := some_elim H
    subst hz
    exact ⟨rfl, ⟨res_tmp (.same _), trivial⟩, trivial⟩
   ·replace H := ite_else h3 H
    refine as2 [(0, .p (AV.b8 c0)), (1, .t l1), (5, .i i5_0)] [] rfl rfl rfl ?_
    refine AW2_skip ?_
    refine AW2_reg [0, 1, 2] rfl ?_
    refine rp rfl rfl (p_move rfl rfl) ?_
    refine rp rfl rfl (p_bin rfl rfl rfl rfl) ?_
    refine rp rfl rfl (p_asg rfl rfl) ?_
    refine rz [(0, .p (AV.b8 c0)), (1, .t l1), (5, .i (w64 (i5_0 + (1 : Int))))] [] rfl rfl rfl ?_
    have hz := some_elim H
    subst hz
    exact ⟨rfl, rfl⟩
  ·replace H := ite_else h1 H
   refine as2 [] [] rfl rfl rfl ?_
   refine AW2_exit ?_
   refine thenQ2_exit ?_
   have hz := some_elim H
   subst hz
   exact ⟨rfl, rfl⟩
 ·rcases o'4 with y'5 | y'6
  ·obtain ⟨rfl, hs⟩ := hs
   refine ⟨by simp, ?_⟩
   have hz := some_elim H
   subst hz
   exact ⟨hs.1, hs.2⟩
  ·obtain ⟨rfl, rfl⟩ := hs
   refine ⟨by simp, ?_⟩
   refine blockQ2_exit ?_
   refine sg [0] rfl ?_
   refine rp rfl rfl (p_asg rfl rfl) ?_
   refine rz [(4, .b false)] [] rfl rfl rfl ?_
   refine AW2_ret ?_
   have hz := some_elim H
   subst hz
   exact ⟨⟨res_tmp (.same _), trivial⟩, trivial⟩

/-! chirographref.reach -/
noncomputable def g_ref_reach_l0 (s0 : List UInt8) (l1 : List UInt8) : Int → Option (Int ⊕ (Int))
  | n5_0 => ((if n5_0 < (s0.length : Int) then if 0 ≤ n5_0 ∧ n5_0 < (s0.length : Int) then (g_ref_among (lrd s0 n5_0.toNat) l1).bind fun r'1 => some r'1 else none else some false)).bind fun g'2 => (if g'2 = true then some (.inl (w64 (n5_0 + (1 : Int)))) else some (.inr n5_0))
noncomputable def g_ref_reach (s0 : List UInt8) (l1 : List UInt8) : Option (Int) :=
  (loopO (g_ref_reach_l0 s0 l1) (0 : Int)).bind fun y'6 => some y'6
set_option maxHeartbeats 4000000 in
set_option maxRecDepth 100000 in
theorem g_ref_reach_ac {s0 : List UInt8} {l1 : List UInt8} {r : Int} (H : g_ref_reach s0 l1 = some r) : ACp Tryd.prog 34 [(AV.txt s0), (AV.txt l1)] (AV.int r) := by
 refine ACp_of (AC2_of_body (vs := [.i r]) Tryd.func34 rfl rfl (Nat.le_of_ble_eq_true rfl) rfl ?_) (fun _ => .same _)
 unfold g_ref_reach at H
 refine as2 [(0, .t s0), (1, .t l1)] [] rfl rfl rfl ?_
 refine sg [0] rfl ?_
 refine rp rfl rfl (p_asg rfl rfl) ?_
 refine rz [(0, .t s0), (1, .t l1)] [] rfl rfl rfl ?_
 refine sg [0] rfl ?_
 refine rp rfl rfl (p_asg rfl rfl) ?_
 refine rz [(0, .t s0), (1, .t l1), (5, .i (0 : Int))] [] rfl rfl rfl ?_
 refine AW2_seq ?_
 refine AW2_block ?_
 refine as2 [(0, .t s0), (1, .t l1), (5, .i (0 : Int))] [] rfl rfl rfl ?_
 refine bindK H fun y'6 h8 H => ?_
 refine AW2_loopO (fun a'3 : Int => (⟨[(0, .t s0), (1, .t l1), (5, .i a'3)], [], 20⟩ : TS)) (fun (y'4 : Int) e s' => e = Go.Exit.exit 0 ∧ s' = (⟨[(5, .i y'4)], [], 20⟩ : TS)) h8 rfl (fun n5_0 x hx => ?_) (fun e s' hs => ?_)
 ·clear H
  have H := hx
  clear hx
  unfold g_ref_reach_l0 at H
  refine AW2_seq ?_
  refine AW2_seq ?_
  refine bindK H fun g'2 h5 H => ?_
  refine AW2_mid (⟨[(0, .t s0), (1, .t l1), (5, .i n5_0), (16, .b g'2)], [], 20⟩ : TS) ?_ ?_
  ·clear H
   have H := h5
   clear h5
   refine AW2_reg [0, 1, 2, 3, 4, 5, 6, 7, 8, 9, 10] rfl ?_
   refine rp rfl rfl (p_move rfl rfl) ?_
   refine rp rfl rfl (p_move rfl rfl) ?_
   refine rp rfl rfl (p_lent rfl Tryd.underlying9 rfl) ?_
   refine rp rfl rfl (p_bin rfl rfl rfl rfl) ?_
   refine rp rfl rfl (p_move rfl rfl) ?_
   refine (Classical.em (n5_0 < (s0.length : Int))).elim (fun h2 => ?_) (fun h2 => ?_)
   ·replace H := ite_then h2 H
    refine r_on rfl rfl rfl rfl (decide_eq_true h2) rfl (PureD.opD (p_move rfl rfl)) ?_
    refine r_on rfl rfl rfl rfl (decide_eq_true h2) rfl (PureD.opD (p_move rfl rfl)) ?_
    refine chkK H fun h3 H => ?_
    refine r_on rfl rfl rfl rfl (decide_eq_true h2) rfl (PureD.opD (p_ixt rfl Tryd.underlying9 rfl rfl (ixe h3) (lrd_get (ixn h3)))) ?_
    refine r_on rfl rfl rfl rfl (decide_eq_true h2) rfl (PureD.opD (p_move rfl rfl)) ?_
    refine bindK H fun r'1 h4 H => ?_
    refine r_on rfl rfl rfl rfl (decide_eq_true h2) rfl (PureD.opD (p_callp rfl rfl rfl Tryd.func56 rfl rfl (g_ref_among_ac h4) ⟨rfl, rfl, trivial⟩)) ?_
    refine rp rfl rfl (p_pkt rfl rfl (decide_eq_true h2) (.same _)) ?_
    refine rs [(0, .t s0), (1, .t l1), (5, .i n5_0), (16, .b r'1)] [] rfl rfl rfl ?_
    have hz := some_elim H
    subst hz
    exact RunW_nil rfl
   ·replace H := ite_else h2 H
    refine r_off rfl rfl rfl rfl (decide_eq_false h2) rfl rfl ?_
    refine r_off rfl rfl rfl rfl (decide_eq_false h2) rfl rfl ?_
    refine r_off rfl rfl rfl rfl (decide_eq_false h2) rfl rfl ?_
    refine r_off rfl rfl rfl rfl (decide_eq_false h2) rfl rfl ?_
    refine r_off rfl rfl rfl rfl (decide_eq_false h2) rfl rfl ?_
    refine rp rfl rfl (p_pkf rfl rfl (decide_eq_false h2) (.same _)) ?_
    refine rs [(0, .t s0), (1, .t l1), (5, .i n5_0), (16, .b false)] [] rfl rfl rfl ?_
    have hz := some_elim H
    subst hz
    exact RunW_nil rfl
  ·refine AW2_cond rfl (fun h6 => ?_) (fun h6 => ?_)
   ·replace H := ite_then h6 H
    refine as2 [(0, .t s0), (1, .t l1), (5, .i n5_0)] [] rfl rfl rfl ?_
    refine AW2_skip ?_
    refine AW2_block ?_
    refine AW2_reg [0, 1, 2] rfl ?_
    refine rp rfl rfl (p_move rfl rfl) ?_
    refine rp rfl rfl (p_bin rfl rfl rfl rfl) ?_
    refine rp rfl rfl (p_asg rfl rfl) ?_
    refine rz [(0, .t s0), (1, .t l1), (5, .i (w64 (n5_0 + (1 : Int))))] [] rfl rfl rfl ?_
    have hz := some_elim H
    subst hz
    exact ⟨rfl, rfl⟩
   ·replace H := ite_else (ne_true h6) H
    refine as2 [(5, .i n5_0)] [] rfl rfl rfl ?_
    refine AW2_exit ?_
    refine thenQ2_exit ?_
    have hz := some_elim H
    subst hz
    exact ⟨rfl, rfl⟩
 ·obtain ⟨rfl, rfl⟩ := hs
  refine ⟨by simp, ?_⟩
  refine blockQ2_exit ?_
  refine sg [0, 1] rfl ?_
  refine rp rfl rfl (p_move rfl rfl) ?_
  refine rp rfl rfl (p_asg rfl rfl) ?_
  refine rz [(4, .i y'6)] [] rfl rfl rfl ?_
  refine AW2_ret ?_
  have hz := some_elim H
  subst hz
  exact ⟨⟨res_tmp (.same _), trivial⟩, trivial⟩

/-! chirographref.isName -/
def g_ref_isName_t0 : List UInt8 := [97, 98, 99, 100, 101, 102, 103, 104, 105, 106, 107, 108, 109, 110, 111, 112, 113, 114, 115, 116, 117, 118, 119, 120, 121, 122]
def g_ref_isName_t1 : List UInt8 := [97, 98, 99, 100, 101, 102, 103, 104, 105, 106, 107, 108, 109, 110, 111, 112, 113, 114, 115, 116, 117, 118, 119, 120, 121, 122, 48, 49, 50, 51, 52, 53, 54, 55, 56, 57, 95]
noncomputable def g_ref_isName (s0 : List UInt8) : Option (Bool) :=
  ((if s0 ≠ [] then if 0 < s0.length then (g_ref_among (lrd s0 0) g_ref_isName_t0).bind fun r'1 => (if r'1 = true then (g_ref_reach s0 g_ref_isName_t1).bind fun r'2 => some (decide (r'2 = (s0.length : Int))) else some false) else none else some false)).bind fun g'3 => some g'3
set_option maxHeartbeats 4000000 in
set_option maxRecDepth 100000 in
theorem g_ref_isName_ac {s0 : List UInt8} {r : Bool} (H : g_ref_isName s0 = some r) : ACp Tryd.prog 33 [(AV.txt s0)] (AV.bool r) := by
 refine ACp_of (AC2_of_body (vs := [.b r]) Tryd.func33 rfl rfl (Nat.le_of_ble_eq_true rfl) rfl ?_) (fun _ => .same _)
 unfold g_ref_isName at H
 refine as2 [(0, .t s0)] [] rfl rfl rfl ?_
 refine sg [0] rfl ?_
 refine rp rfl rfl (p_asg rfl rfl) ?_
 refine rz [(0, .t s0)] [] rfl rfl rfl ?_
 refine AW2_seq ?_
 refine bindK H fun g'3 h7 H => ?_
 refine AW2_mid (⟨[(2, .b g'3)], [], 17⟩ : TS) ?_ ?_
 ·clear H
  have H := h7
  clear h7
  refine AW2_reg [0, 1, 2, 3, 4, 5, 6, 7, 8, 9, 10, 11, 12, 13, 14] rfl ?_
  refine rp rfl rfl (p_move rfl rfl) ?_
  refine rp rfl rfl (p_sne rfl rfl rfl) ?_
  refine rp rfl rfl (p_move rfl rfl) ?_
  refine (Classical.em (s0 ≠ [])).elim (fun h2 => ?_) (fun h2 => ?_)
  ·replace H := ite_then h2 H
   refine r_on rfl rfl rfl rfl (decide_eq_true h2) rfl (PureD.opD (p_move rfl rfl)) ?_
   refine chkK H fun h3 H => ?_
   refine r_on rfl rfl rfl rfl (decide_eq_true h2) rfl (PureD.opD (p_ixt rfl Tryd.underlying9 rfl rfl rfl (lrd_get h3))) ?_
   refine bindK H fun r'1 h4 H => ?_
   refine r_on rfl rfl rfl rfl (decide_eq_true h2) rfl (PureD.opD (p_callp rfl rfl rfl Tryd.func56 rfl rfl (g_ref_among_ac h4) ⟨rfl, by kernel_rfl, trivial⟩)) ?_
   refine rp rfl rfl (p_pkt rfl rfl (decide_eq_true h2) (.same _)) ?_
   refine rp rfl rfl (p_move rfl rfl) ?_
   refine (Classical.em (r'1 = true)).elim (fun h5 => ?_) (fun h5 => ?_)
   ·replace H := ite_then h5 H
    refine rn rfl rfl rfl rfl h5 rfl (p_move rfl rfl) ?_
    refine bindK H fun r'2 h6 H => ?_
    refine rn rfl rfl rfl rfl h5 rfl (p_callp rfl rfl rfl Tryd.func34 rfl rfl (g_ref_reach_ac h6) ⟨rfl, by kernel_rfl, trivial⟩) ?_
    refine rn rfl rfl rfl rfl h5 rfl (p_move rfl rfl) ?_
    refine rn rfl rfl rfl rfl h5 rfl (p_lent rfl Tryd.underlying9 rfl) ?_
    refine rn rfl rfl rfl rfl h5 rfl (p_ieq rfl rfl rfl) ?_
    refine rp rfl rfl (p_pkt rfl rfl h5 (.same _)) ?_
    refine rp rfl rfl (p_asg rfl rfl) ?_
    refine rs [(2, .b (decide (r'2 = (s0.length : Int))))] [] rfl rfl rfl ?_
    have hz := some_elim H
    subst hz
    exact RunW_nil rfl
   ·replace H := ite_else h5 H
    refine r_off rfl rfl rfl rfl (bfalse h5) rfl rfl ?_
    refine r_off rfl rfl rfl rfl (bfalse h5) rfl rfl ?_
    refine r_off rfl rfl rfl rfl (bfalse h5) rfl rfl ?_
    refine r_off rfl rfl rfl rfl (bfalse h5) rfl rfl ?_
    refine r_off rfl rfl rfl rfl (bfalse h5) rfl rfl ?_
    refine rp rfl rfl (p_pkf rfl rfl (bfalse h5) (.same _)) ?_
    refine rp rfl rfl (p_asg rfl rfl) ?_
    refine rs [(2, .b false)] [] rfl rfl rfl ?_
    have hz := some_elim H
    subst hz
    exact RunW_nil rfl
  ·replace H := ite_else h2 H
   refine r_off rfl rfl rfl rfl (decide_eq_false h2) rfl rfl ?_
   refine r_off rfl rfl rfl rfl (decide_eq_false h2) rfl rfl ?_
   refine r_off rfl rfl rfl rfl (decide_eq_false h2) rfl rfl ?_
   refine rp rfl rfl (p_pkf rfl rfl (decide_eq_false h2) (.same _)) ?_
   refine rp rfl rfl (p_move rfl rfl) ?_
   refine r_off rfl rfl rfl rfl (bfalse (by decide)) rfl rfl ?_
   refine r_off rfl rfl rfl rfl (bfalse (by decide)) rfl rfl ?_
   refine r_off rfl rfl rfl rfl (bfalse (by decide)) rfl rfl ?_
   refine r_off rfl rfl rfl rfl (bfalse (by decide)) rfl rfl ?_
   refine r_off rfl rfl rfl rfl (bfalse (by decide)) rfl rfl ?_
   refine rp rfl rfl (p_pkf rfl rfl (bfalse (by decide)) (.same _)) ?_
   refine rp rfl rfl (p_asg rfl rfl) ?_
   refine rs [(2, .b false)] [] rfl rfl rfl ?_
   have hz := some_elim H
   subst hz
   exact RunW_nil rfl
 ·refine AW2_ret ?_
  have hz := some_elim H
  subst hz
  exact ⟨⟨res_tmp (.same _), trivial⟩, trivial⟩

/-! chirographref.nodeFault -/
def g_ref_nodeFault_r4 : List (List (Nat × Option Nat)) := [[(1, none)], [(19, some 0)], [(20, some 1)], [(3, none)], [(1, none)], [(23, some 4)], [(22, some 3), (24, some 5)], [(25, some 6)]]
def g_ref_nodeFault_r4c : List (List Nat) := [[], [0], [0, 1], [], [], [4], [3, 4, 5], [3, 4, 5, 6], [0, 1, 2, 3, 4, 5, 6, 7], [0, 1, 2, 3, 4, 5, 6, 7, 8]]
noncomputable def g_ref_nodeFault_l0 (e0 : GExpr) (R' : GExpr → Option Int) : Int → Option (Int ⊕ (Int ⊕ Unit))
  | t87_0 => (if t87_0 < (e0.Args.length : Int) then if 0 ≤ t87_0 ∧ t87_0 < (e0.Args.length : Int) then (R' (lrd e0.Args t87_0.toNat)).bind fun r'9 => (if r'9 ≠ (0 : Int) then some (.inr (.inl r'9)) else some (.inl (w64 (t87_0 + (1 : Int))))) else none else some (.inr (.inr ())))
noncomputable def g_ref_nodeFault_b (R' : GExpr → Option Int) (e0 : GExpr) : Option (Int) :=
  letO (([(0 : Int), (0 : Int), (0 : Int), (1 : Int), (1 : Int), (2 : Int), (2 : Int), (2 : Int), (2 : Int), (2 : Int), (2 : Int), (2 : Int), (2 : Int), (2 : Int), (2 : Int), (2 : Int), (2 : Int), (1 : Int), (1 : Int), (2 : Int), (2 : Int)] : List Int)) fun want3'1 => (if (e0.Op < (1 : Int)) ∨ (e0.Op ≥ (want3'1.length : Int)) then some (2 : Int) else if 0 ≤ e0.Op ∧ e0.Op < (want3'1.length : Int) then ((if e0.Op = (1 : Int) then ((if (e0.Args.length : Int) = (lrd want3'1 e0.Op.toNat) then (if e0.Name = [] then (g_ref_ValueFault e0.Value).bind fun r'4 => (if r'4 = (0 : Int) then some (decide (e0.Value.Int_ ≥ (0 : Int))) else some false) else some false) else some false)).bind fun g'5 => some g'5 else (if e0.Op = (2 : Int) then ((if (e0.Args.length : Int) = (lrd want3'1 e0.Op.toNat) then (if e0.Value = GValue.zero then (g_ref_isName e0.Name).bind fun r'7 => (if r'7 = true then some (decide ((e0.Name.length : Int) ≤ (8 : Int))) else some false) else some false) else some false)).bind fun g'8 => some g'8 else some (decide ((((e0.Args.length : Int) = (lrd want3'1 e0.Op.toNat)) ∧ (e0.Name = [])) ∧ (e0.Value = GValue.zero)))))).bind fun j'2 => (if (!j'2) = true then some (3 : Int) else (loopO (g_ref_nodeFault_l0 e0 R') (0 : Int)).bind fun o'13 => match o'13 with | .inl y'14 => some y'14 | .inr (y'15) => some (0 : Int)) else none)
noncomputable def g_ref_nodeFault : Nat → GExpr → Option Int
  | 0, _ => none
  | fu + 1, e0 => g_ref_nodeFault_b (g_ref_nodeFault fu) e0
set_option maxHeartbeats 4000000 in
set_option maxRecDepth 100000 in
theorem g_ref_nodeFault_ac0 {R' : GExpr → Option Int} (hR : ∀ {e0 : GExpr} {r : Int}, R' e0 = some r → ACp Tryd.prog 40 [(.agg (GExpr.cs e0))] (AV.int r)) {e0 : GExpr} {r : Int} (H : g_ref_nodeFault_b R' e0 = some r) : ACp Tryd.prog 40 [(.agg (GExpr.cs e0))] (AV.int r) := by
 refine ACp_of (AC2_of_body (vs := [.i r]) Tryd.func40 rfl rfl (Nat.le_of_ble_eq_true rfl) rfl ?_) (fun _ => .same _)
 unfold g_ref_nodeFault_b at H
 refine as2 [(0, .g (GExpr.cs e0))] [] rfl rfl rfl ?_
 refine sg [0, 1] rfl ?_
 refine r_op rfl rfl (MakeD.opD (n_box 1 rfl rfl) rfl rfl rfl rfl) ?_
 refine rp rfl rfl (p_asg rfl rfl) ?_
 refine rz [(1, .q 1 (0))] [(1, .pure (GExpr.cs e0))] rfl rfl rfl ?_
 refine sg [0, 1] rfl ?_
 refine r_op rfl rfl (MakeD.opD (u_bs 8 rfl Tryd.underlying88 in_3 rfl one_3 (by decide) (by decide) rfl rfl rfl) rfl rfl rfl rfl) ?_
 refine rp rfl rfl (p_asg rfl rfl) ?_
 refine RunW_st [(1, .q 1 (0)), (3, .c (.own 8 ([(0 : Int), (0 : Int), (0 : Int), (1 : Int), (1 : Int), (2 : Int), (2 : Int), (2 : Int), (2 : Int), (2 : Int), (2 : Int), (2 : Int), (2 : Int), (2 : Int), (2 : Int), (2 : Int), (2 : Int), (1 : Int), (1 : Int), (2 : Int), (2 : Int)] : List Int).length 1))] [(1, .pure (GExpr.cs e0)), (8, .pure (([(0 : Int), (0 : Int), (0 : Int), (1 : Int), (1 : Int), (2 : Int), (2 : Int), (2 : Int), (2 : Int), (2 : Int), (2 : Int), (2 : Int), (2 : Int), (2 : Int), (2 : Int), (2 : Int), (2 : Int), (1 : Int), (1 : Int), (2 : Int), (2 : Int)] : List Int).map AV.int))] rfl ⟨TLes.same _, TLes.own rfl, trivial⟩ ⟨rfl, rfl, trivial⟩ ?_
 refine RunW_gho (Gho_ren 8 3 rfl rfl rfl rfl rfl) ?_
 refine rz [(1, .q 1 (0)), (3, .c (.own 3 ([(0 : Int), (0 : Int), (0 : Int), (1 : Int), (1 : Int), (2 : Int), (2 : Int), (2 : Int), (2 : Int), (2 : Int), (2 : Int), (2 : Int), (2 : Int), (2 : Int), (2 : Int), (2 : Int), (2 : Int), (1 : Int), (1 : Int), (2 : Int), (2 : Int)] : List Int).length 1))] [(1, .pure (GExpr.cs e0)), (3, .pure (([(0 : Int), (0 : Int), (0 : Int), (1 : Int), (1 : Int), (2 : Int), (2 : Int), (2 : Int), (2 : Int), (2 : Int), (2 : Int), (2 : Int), (2 : Int), (2 : Int), (2 : Int), (2 : Int), (2 : Int), (1 : Int), (1 : Int), (2 : Int), (2 : Int)] : List Int).map AV.int))] rfl rfl rfl ?_
 refine gen1 (fun want3'1 => (⟨[(1, .q 1 (0)), (3, .c (.own 3 want3'1.length 1))], [(1, .pure (GExpr.cs e0)), (3, .pure (want3'1.map AV.int))], 97⟩ : TS)) H ?_
 intro want3'1 H
 refine AW2_seq ?_
 refine AW2_seq ?_
 refine AW2_mid (⟨[(1, .q 1 (0)), (3, .c (.own 3 want3'1.length 1)), (18, .b (decide ((e0.Op < (1 : Int)) ∨ (e0.Op ≥ (want3'1.length : Int)))))], [(1, .pure (GExpr.cs e0)), (3, .pure (want3'1.map AV.int))], 97⟩ : TS) ?_ ?_
 ·refine AW2_reg [0, 1, 2, 3, 4, 5, 6, 7, 8, 9] rfl ?_
  refine rp rfl rfl (u_fa rfl rfl Tryd.underlying32 rfl in_3 (Nat.succ_ne_zero _) rfl rfl (ne_of_lt (n := 0) (Nat.lt_of_lt_of_eq (by decide) (Eq.symm (GExpr.len e0))))) ?_
  refine rp rfl rfl (u_ld rfl rfl Tryd.underlying3 rfl rfl ((Sub.refl _).trans (GExpr.sub0 e0))) ?_
  refine rp rfl rfl (p_bin rfl rfl rfl rfl) ?_
  refine rp rfl rfl (p_move rfl rfl) ?_
  refine (Classical.em (e0.Op < (1 : Int))).elim (fun h1 => ?_) (fun h1 => ?_)
  ·iterate 5 (refine r_off rfl rfl rfl rfl (decide_eq_true h1) rfl rfl ?_)
   refine rp rfl rfl (p_pkt rfl rfl (decide_eq_true h1) (tb (decide_eq_true (p := (e0.Op < (1 : Int)) ∨ (e0.Op ≥ (want3'1.length : Int))) (Or.inl h1)).symm)) ?_
   refine rs [(1, .q 1 (0)), (3, .c (.own 3 want3'1.length 1)), (18, .b (decide ((e0.Op < (1 : Int)) ∨ (e0.Op ≥ (want3'1.length : Int)))))] [(1, .pure (GExpr.cs e0)), (3, .pure (want3'1.map AV.int))] rfl rfl rfl ?_
   exact RunW_nil rfl
  ·refine r_on rfl rfl rfl rfl (decide_eq_false h1) rfl (PureD.opD (u_fa rfl rfl Tryd.underlying32 rfl in_3 (Nat.succ_ne_zero _) rfl rfl (ne_of_lt (n := 0) (Nat.lt_of_lt_of_eq (by decide) (Eq.symm (GExpr.len e0)))))) ?_
   refine r_on rfl rfl rfl rfl (decide_eq_false h1) rfl (PureD.opD (u_ld rfl rfl Tryd.underlying3 rfl rfl ((Sub.refl _).trans (GExpr.sub0 e0)))) ?_
   refine r_on rfl rfl rfl rfl (decide_eq_false h1) rfl (PureD.opD (p_move rfl rfl)) ?_
   refine r_on rfl rfl rfl rfl (decide_eq_false h1) rfl (PureD.opD (p_leno rfl Tryd.underlying88 rfl rfl rfl (ml AV.int want3'1) (by decide))) ?_
   refine r_on rfl rfl rfl rfl (decide_eq_false h1) rfl (PureD.opD (p_bin rfl rfl rfl rfl)) ?_
   refine rp rfl rfl (p_pkf rfl rfl (decide_eq_false h1) (tb ((or_l (p := e0.Op < (1 : Int)) (q := e0.Op ≥ (want3'1.length : Int)) h1)))) ?_
   refine rs [(1, .q 1 (0)), (3, .c (.own 3 want3'1.length 1)), (18, .b (decide ((e0.Op < (1 : Int)) ∨ (e0.Op ≥ (want3'1.length : Int)))))] [(1, .pure (GExpr.cs e0)), (3, .pure (want3'1.map AV.int))] rfl rfl rfl ?_
   exact RunW_nil rfl
 ·refine AW2_if (p := (e0.Op < (1 : Int)) ∨ (e0.Op ≥ (want3'1.length : Int))) rfl (fun h2 => ?_) (fun h2 => ?_)
  ·replace H := ite_then h2 H
   refine sg [0] rfl ?_
   refine rp rfl rfl (p_asg rfl rfl) ?_
   refine rz [(2, .i (2 : Int))] [] rfl rfl rfl ?_
   refine AW2_ret ?_
   have hz := some_elim H
   subst hz
   exact ⟨⟨res_tmp (.same _), trivial⟩, trivial⟩
  ·replace H := ite_else h2 H
   refine as2 [(1, .q 1 (0)), (3, .c (.own 3 want3'1.length 1))] [(1, .pure (GExpr.cs e0)), (3, .pure (want3'1.map AV.int))] rfl rfl rfl ?_
   refine AW2_skip ?_
   refine AW2_seq ?_
   refine chkK H fun h3 H => ?_
   refine AW2_ghoQ ?_
   refine AW2_draw 8 [8, 9] (fun k => ([.q 1 (0 + 6), .p ((fun q : List GExpr => AV.lst (q.flatMap GExpr.cs) q.length) e0.Args), .i (e0.Args.length : Int), .c (.own 3 want3'1.length 1), .q 1 (0 + 0), .i e0.Op, .q 3 (0 + e0.Op.toNat * 1), .i (lrd want3'1 e0.Op.toNat)] : List TV).getD k TV.any) (fun k => g_ref_nodeFault_r4.getD k []) [(1, none), (21, some 2), (26, some 7)] [] (fun k => g_ref_nodeFault_r4c.getD k []) mixed (by kernel_rfl) rfl rfl (a_op (g_x rfl (x_p rfl (u_fa rfl rfl Tryd.underlying32 rfl in_30 (Nat.succ_ne_zero _) rfl rfl (ne_of_lt (n := 0) (Nat.lt_of_lt_of_eq (by decide) (Eq.symm (GExpr.len e0))))) rfl)) (a_op (g_x rfl (x_p rfl (u_ld rfl rfl Tryd.underlying30 rfl rfl ((Sub.refl _).trans (GExpr.sub3 e0))) rfl)) (a_op (g_x rfl (x_p rfl (p_lenl rfl Tryd.underlying30 rfl rfl) rfl)) (a_op (g_x rfl (x_p rfl (p_move rfl rfl) rfl)) (a_op (g_x rfl (x_p rfl (u_fa rfl rfl Tryd.underlying32 rfl in_3 (Nat.succ_ne_zero _) rfl rfl (ne_of_lt (n := 0) (Nat.lt_of_lt_of_eq (by decide) (Eq.symm (GExpr.len e0))))) rfl)) (a_op (g_x rfl (x_p rfl (u_ld rfl rfl Tryd.underlying3 rfl rfl ((Sub.refl _).trans (GExpr.sub0 e0))) rfl)) (a_op (g_x rfl (x_p rfl (u_ixo rfl rfl Tryd.underlying88 in_3 rfl rfl (lne (ixn h3)) rfl (ixe h3) (ixn h3)) rfl)) (a_op (g_x rfl (x_p rfl (u_ld rfl rfl Tryd.underlying3 rfl rfl ((Sub.refl _).trans (Sub.map default (ixn h3)))) rfl)) (a_nil))))))))) ?_
   refine t_op rfl rfl (PureD.opD (p_ieq rfl rfl rfl)) ?_
   refine t_op rfl rfl (PureD.opD (p_asg rfl rfl)) ?_
   refine t_gho (Gho_st (L := [(1, .q 1 (0)), (4, .b (decide ((e0.Args.length : Int) = (lrd want3'1 e0.Op.toNat))))]) (H := [(1, .pure (GExpr.cs e0))]) (N := 97) rfl ⟨TLes.same _, TLes.same _, trivial⟩ ⟨rfl, trivial⟩) ?_
   refine AW2_seq ?_
   refine bindK H fun j'2 h4 H => ?_
   refine AW2_mid (⟨[(1, .q 1 (0)), (4, .b j'2)], [(1, .pure (GExpr.cs e0))], 97⟩ : TS) ?_ ?_
   ·clear H
    have H := h4
    clear h4
    refine sg [0, 1] rfl ?_
    refine rp rfl rfl (u_fa rfl rfl Tryd.underlying32 rfl in_3 (Nat.succ_ne_zero _) rfl rfl (ne_of_lt (n := 0) (Nat.lt_of_lt_of_eq (by decide) (Eq.symm (GExpr.len e0))))) ?_
    refine rp rfl rfl (u_ld rfl rfl Tryd.underlying3 rfl rfl ((Sub.refl _).trans (GExpr.sub0 e0))) ?_
    refine rz [(1, .q 1 (0)), (4, .b (decide ((e0.Args.length : Int) = (lrd want3'1 e0.Op.toNat)))), (29, .i e0.Op)] [(1, .pure (GExpr.cs e0))] rfl rfl rfl ?_
    refine AW2_block ?_
    refine sg [0, 1] rfl ?_
    refine rp rfl rfl (p_ieq rfl rfl rfl) ?_
    refine rp rfl rfl (p_asg rfl rfl) ?_
    refine rz [(1, .q 1 (0)), (4, .b (decide ((e0.Args.length : Int) = (lrd want3'1 e0.Op.toNat)))), (29, .i e0.Op), (42, .b (decide (e0.Op = (1 : Int))))] [(1, .pure (GExpr.cs e0))] rfl rfl rfl ?_
    refine AW2_if (p := e0.Op = (1 : Int)) rfl (fun h5 => ?_) (fun h5 => ?_)
    ·replace H := ite_then h5 H
     refine bindK H fun g'5 h11 H => ?_
     refine AW2_mid (⟨[(1, .q 1 (0)), (4, .b g'5)], [(1, .pure (GExpr.cs e0))], 97⟩ : TS) ?_ ?_
     ·clear H
      have H := h11
      clear h11
      refine AW2_reg [0, 1, 2, 3, 4, 5, 6, 7, 8, 9, 10, 11, 12, 13, 14, 15, 16, 17, 18] rfl ?_
      refine rp rfl rfl (p_move rfl rfl) ?_
      refine rp rfl rfl (p_move rfl rfl) ?_
      refine (Classical.em ((e0.Args.length : Int) = (lrd want3'1 e0.Op.toNat))).elim (fun h7 => ?_) (fun h7 => ?_)
      ·replace H := ite_then h7 H
       refine r_on rfl rfl rfl rfl (decide_eq_true h7) rfl (PureD.opD (u_fa rfl rfl Tryd.underlying32 rfl in_9 (Nat.succ_ne_zero _) rfl rfl (ne_of_lt (n := 0) (Nat.lt_of_lt_of_eq (by decide) (Eq.symm (GExpr.len e0)))))) ?_
       refine r_on rfl rfl rfl rfl (decide_eq_true h7) rfl (PureD.opD (u_ld rfl rfl Tryd.underlying9 rfl rfl ((Sub.refl _).trans (GExpr.sub2 e0)))) ?_
       refine r_on rfl rfl rfl rfl (decide_eq_true h7) rfl (PureD.opD (p_seq rfl rfl rfl)) ?_
       refine rp rfl rfl (p_pkt rfl rfl (decide_eq_true h7) (.same _)) ?_
       refine rp rfl rfl (p_move rfl rfl) ?_
       refine (Classical.em (e0.Name = [])).elim (fun h8 => ?_) (fun h8 => ?_)
       ·replace H := ite_then h8 H
        refine r_on rfl rfl rfl rfl (decide_eq_true h8) rfl (PureD.opD (u_fa rfl rfl Tryd.underlying32 rfl in_29 (Nat.succ_ne_zero _) rfl rfl (ne_of_lt (n := 0) (Nat.lt_of_lt_of_eq (by decide) (Eq.symm (GExpr.len e0)))))) ?_
        refine r_on rfl rfl rfl rfl (decide_eq_true h8) rfl (PureD.opD (u_lda rfl rfl Tryd.underlying29 rfl in_29 rfl (Nat.succ_pos _) ((Sub.refl _).trans (GExpr.sub1 e0)) (GValue.len e0.Value))) ?_
        refine bindK H fun r'4 h9 H => ?_
        refine r_on rfl rfl rfl rfl (decide_eq_true h8) rfl (PureD.opD (p_callp rfl rfl rfl Tryd.func43 rfl rfl (g_ref_ValueFault_ac h9) ⟨rfl, trivial⟩)) ?_
        refine r_on rfl rfl rfl rfl (decide_eq_true h8) rfl (PureD.opD (p_ieq rfl rfl rfl)) ?_
        refine rp rfl rfl (p_pkt rfl rfl (decide_eq_true h8) (.same _)) ?_
        refine rp rfl rfl (p_move rfl rfl) ?_
        refine (Classical.em (r'4 = (0 : Int))).elim (fun h10 => ?_) (fun h10 => ?_)
        ·replace H := ite_then h10 H
         refine r_on rfl rfl rfl rfl (decide_eq_true h10) rfl (PureD.opD (u_fa rfl rfl Tryd.underlying32 rfl in_29 (Nat.succ_ne_zero _) rfl rfl (ne_of_lt (n := 0) (Nat.lt_of_lt_of_eq (by decide) (Eq.symm (GExpr.len e0)))))) ?_
         refine r_on rfl rfl rfl rfl (decide_eq_true h10) rfl (PureD.opD (u_fa rfl rfl Tryd.underlying29 rfl in_3 (Nat.succ_ne_zero _) rfl rfl (ne_of_lt (n := 0) (Nat.lt_of_lt_of_eq (by decide) (Eq.symm (GExpr.len e0)))))) ?_
         refine r_on rfl rfl rfl rfl (decide_eq_true h10) rfl (PureD.opD (u_ld rfl rfl Tryd.underlying3 rfl rfl (((Sub.refl _).trans (GExpr.sub1 e0)).trans (GValue.sub1 e0.Value)))) ?_
         refine r_on rfl rfl rfl rfl (decide_eq_true h10) rfl (PureD.opD (p_bin rfl rfl rfl rfl)) ?_
         refine rp rfl rfl (p_pkt rfl rfl (decide_eq_true h10) (.same _)) ?_
         refine rp rfl rfl (p_asg rfl rfl) ?_
         refine rs [(1, .q 1 (0)), (4, .b (decide (e0.Value.Int_ ≥ (0 : Int))))] [(1, .pure (GExpr.cs e0))] rfl rfl rfl ?_
         have hz := some_elim H
         subst hz
         exact RunW_nil rfl
        ·replace H := ite_else h10 H
         iterate 4 (refine r_off rfl rfl rfl rfl (decide_eq_false h10) rfl rfl ?_)
         refine rp rfl rfl (p_pkf rfl rfl (decide_eq_false h10) (.same _)) ?_
         refine rp rfl rfl (p_asg rfl rfl) ?_
         refine rs [(1, .q 1 (0)), (4, .b false)] [(1, .pure (GExpr.cs e0))] rfl rfl rfl ?_
         have hz := some_elim H
         subst hz
         exact RunW_nil rfl
       ·replace H := ite_else h8 H
        iterate 4 (refine r_off rfl rfl rfl rfl (decide_eq_false h8) rfl rfl ?_)
        refine rp rfl rfl (p_pkf rfl rfl (decide_eq_false h8) (.same _)) ?_
        refine rp rfl rfl (p_move rfl rfl) ?_
        iterate 4 (refine r_off rfl rfl rfl rfl (bfalse (by decide)) rfl rfl ?_)
        refine rp rfl rfl (p_pkf rfl rfl (bfalse (by decide)) (.same _)) ?_
        refine rp rfl rfl (p_asg rfl rfl) ?_
        refine rs [(1, .q 1 (0)), (4, .b false)] [(1, .pure (GExpr.cs e0))] rfl rfl rfl ?_
        have hz := some_elim H
        subst hz
        exact RunW_nil rfl
      ·replace H := ite_else h7 H
       iterate 3 (refine r_off rfl rfl rfl rfl (decide_eq_false h7) rfl rfl ?_)
       refine rp rfl rfl (p_pkf rfl rfl (decide_eq_false h7) (.same _)) ?_
       refine rp rfl rfl (p_move rfl rfl) ?_
       iterate 4 (refine r_off rfl rfl rfl rfl (bfalse (by decide)) rfl rfl ?_)
       refine rp rfl rfl (p_pkf rfl rfl (bfalse (by decide)) (.same _)) ?_
       refine rp rfl rfl (p_move rfl rfl) ?_
       iterate 4 (refine r_off rfl rfl rfl rfl (bfalse (by decide)) rfl rfl ?_)
       refine rp rfl rfl (p_pkf rfl rfl (bfalse (by decide)) (.same _)) ?_
       refine rp rfl rfl (p_asg rfl rfl) ?_
       refine rs [(1, .q 1 (0)), (4, .b false)] [(1, .pure (GExpr.cs e0))] rfl rfl rfl ?_
       have hz := some_elim H
       subst hz
       exact RunW_nil rfl
     ·have hz := some_elim H
      subst hz
      exact rfl
    ·replace H := ite_else h5 H
     refine sg [0, 1] rfl ?_
     refine rp rfl rfl (p_ieq rfl rfl rfl) ?_
     refine rp rfl rfl (p_asg rfl rfl) ?_
     refine rz [(1, .q 1 (0)), (4, .b (decide ((e0.Args.length : Int) = (lrd want3'1 e0.Op.toNat)))), (62, .b (decide (e0.Op = (2 : Int))))] [(1, .pure (GExpr.cs e0))] rfl rfl rfl ?_
     refine AW2_if (p := e0.Op = (2 : Int)) rfl (fun h13 => ?_) (fun h13 => ?_)
     ·replace H := ite_then h13 H
      refine bindK H fun g'8 h19 H => ?_
      refine AW2_mid (⟨[(1, .q 1 (0)), (4, .b g'8)], [(1, .pure (GExpr.cs e0))], 97⟩ : TS) ?_ ?_
      ·clear H
       have H := h19
       clear h19
       refine AW2_reg [0, 1, 2, 3, 4, 5, 6, 7, 8, 9, 10, 11, 12, 13, 14, 15, 16, 17, 18] rfl ?_
       refine rp rfl rfl (p_move rfl rfl) ?_
       refine rp rfl rfl (p_move rfl rfl) ?_
       refine (Classical.em ((e0.Args.length : Int) = (lrd want3'1 e0.Op.toNat))).elim (fun h15 => ?_) (fun h15 => ?_)
       ·replace H := ite_then h15 H
        refine r_on rfl rfl rfl rfl (decide_eq_true h15) rfl (PureD.opD (u_fa rfl rfl Tryd.underlying32 rfl in_29 (Nat.succ_ne_zero _) rfl rfl (ne_of_lt (n := 0) (Nat.lt_of_lt_of_eq (by decide) (Eq.symm (GExpr.len e0)))))) ?_
        refine r_on rfl rfl rfl rfl (decide_eq_true h15) rfl (PureD.opD (u_lda rfl rfl Tryd.underlying29 rfl in_29 rfl (Nat.succ_pos _) ((Sub.refl _).trans (GExpr.sub1 e0)) (GValue.len e0.Value))) ?_
        refine r_on rfl rfl rfl rfl (decide_eq_true h15) rfl (PureD.opD (u_bld rfl in_29 one_29 zc_29 pl_29 rfl rfl)) ?_
        refine r_on rfl rfl rfl rfl (decide_eq_true h15) rfl (PureD.opD (p_eqa (a := e0.Value) (b := GValue.zero) rfl eq_29 rfl (by kernel_rfl) rfl rfl)) ?_
        refine rp rfl rfl (p_pkt rfl rfl (decide_eq_true h15) (.same _)) ?_
        refine rp rfl rfl (p_move rfl rfl) ?_
        refine (Classical.em (e0.Value = GValue.zero)).elim (fun h16 => ?_) (fun h16 => ?_)
        ·replace H := ite_then h16 H
         refine r_on rfl rfl rfl rfl (decide_eq_true h16) rfl (PureD.opD (u_fa rfl rfl Tryd.underlying32 rfl in_9 (Nat.succ_ne_zero _) rfl rfl (ne_of_lt (n := 0) (Nat.lt_of_lt_of_eq (by decide) (Eq.symm (GExpr.len e0)))))) ?_
         refine r_on rfl rfl rfl rfl (decide_eq_true h16) rfl (PureD.opD (u_ld rfl rfl Tryd.underlying9 rfl rfl ((Sub.refl _).trans (GExpr.sub2 e0)))) ?_
         refine bindK H fun r'7 h17 H => ?_
         refine r_on rfl rfl rfl rfl (decide_eq_true h16) rfl (PureD.opD (p_callp rfl rfl rfl Tryd.func33 rfl rfl (g_ref_isName_ac h17) ⟨rfl, trivial⟩)) ?_
         refine rp rfl rfl (p_pkt rfl rfl (decide_eq_true h16) (.same _)) ?_
         refine rp rfl rfl (p_move rfl rfl) ?_
         refine (Classical.em (r'7 = true)).elim (fun h18 => ?_) (fun h18 => ?_)
         ·replace H := ite_then h18 H
          refine rn rfl rfl rfl rfl h18 rfl (u_fa rfl rfl Tryd.underlying32 rfl in_9 (Nat.succ_ne_zero _) rfl rfl (ne_of_lt (n := 0) (Nat.lt_of_lt_of_eq (by decide) (Eq.symm (GExpr.len e0))))) ?_
          refine rn rfl rfl rfl rfl h18 rfl (u_ld rfl rfl Tryd.underlying9 rfl rfl ((Sub.refl _).trans (GExpr.sub2 e0))) ?_
          refine rn rfl rfl rfl rfl h18 rfl (p_lent rfl Tryd.underlying9 rfl) ?_
          refine rn rfl rfl rfl rfl h18 rfl (p_bin rfl rfl rfl rfl) ?_
          refine rp rfl rfl (p_pkt rfl rfl h18 (.same _)) ?_
          refine rp rfl rfl (p_asg rfl rfl) ?_
          refine rs [(1, .q 1 (0)), (4, .b (decide ((e0.Name.length : Int) ≤ (8 : Int))))] [(1, .pure (GExpr.cs e0))] rfl rfl rfl ?_
          have hz := some_elim H
          subst hz
          exact RunW_nil rfl
         ·replace H := ite_else h18 H
          iterate 4 (refine r_off rfl rfl rfl rfl (bfalse h18) rfl rfl ?_)
          refine rp rfl rfl (p_pkf rfl rfl (bfalse h18) (.same _)) ?_
          refine rp rfl rfl (p_asg rfl rfl) ?_
          refine rs [(1, .q 1 (0)), (4, .b false)] [(1, .pure (GExpr.cs e0))] rfl rfl rfl ?_
          have hz := some_elim H
          subst hz
          exact RunW_nil rfl
        ·replace H := ite_else h16 H
         iterate 3 (refine r_off rfl rfl rfl rfl (decide_eq_false h16) rfl rfl ?_)
         refine rp rfl rfl (p_pkf rfl rfl (decide_eq_false h16) (.same _)) ?_
         refine rp rfl rfl (p_move rfl rfl) ?_
         iterate 4 (refine r_off rfl rfl rfl rfl (bfalse (by decide)) rfl rfl ?_)
         refine rp rfl rfl (p_pkf rfl rfl (bfalse (by decide)) (.same _)) ?_
         refine rp rfl rfl (p_asg rfl rfl) ?_
         refine rs [(1, .q 1 (0)), (4, .b false)] [(1, .pure (GExpr.cs e0))] rfl rfl rfl ?_
         have hz := some_elim H
         subst hz
         exact RunW_nil rfl
       ·replace H := ite_else h15 H
        iterate 4 (refine r_off rfl rfl rfl rfl (decide_eq_false h15) rfl rfl ?_)
        refine rp rfl rfl (p_pkf rfl rfl (decide_eq_false h15) (.same _)) ?_
        refine rp rfl rfl (p_move rfl rfl) ?_
        iterate 3 (refine r_off rfl rfl rfl rfl (bfalse (by decide)) rfl rfl ?_)
        refine rp rfl rfl (p_pkf rfl rfl (bfalse (by decide)) (.same _)) ?_
        refine rp rfl rfl (p_move rfl rfl) ?_
        iterate 4 (refine r_off rfl rfl rfl rfl (bfalse (by decide)) rfl rfl ?_)
        refine rp rfl rfl (p_pkf rfl rfl (bfalse (by decide)) (.same _)) ?_
        refine rp rfl rfl (p_asg rfl rfl) ?_
        refine rs [(1, .q 1 (0)), (4, .b false)] [(1, .pure (GExpr.cs e0))] rfl rfl rfl ?_
        have hz := some_elim H
        subst hz
        exact RunW_nil rfl
      ·have hz := some_elim H
       subst hz
       exact rfl
     ·replace H := ite_else h13 H
      refine AW2_mid (⟨[(1, .q 1 (0)), (4, .b (decide ((((e0.Args.length : Int) = (lrd want3'1 e0.Op.toNat)) ∧ (e0.Name = [])) ∧ (e0.Value = GValue.zero))))], [(1, .pure (GExpr.cs e0))], 97⟩ : TS) ?_ ?_
      ·refine AW2_reg [0, 1, 2, 3, 4, 5, 6, 7, 8, 9, 10, 11, 12] rfl ?_
       refine rp rfl rfl (p_move rfl rfl) ?_
       refine rp rfl rfl (p_move rfl rfl) ?_
       refine (Classical.em ((e0.Args.length : Int) = (lrd want3'1 e0.Op.toNat))).elim (fun h21 => ?_) (fun h21 => ?_)
       ·refine r_on rfl rfl rfl rfl (decide_eq_true h21) rfl (PureD.opD (u_fa rfl rfl Tryd.underlying32 rfl in_9 (Nat.succ_ne_zero _) rfl rfl (ne_of_lt (n := 0) (Nat.lt_of_lt_of_eq (by decide) (Eq.symm (GExpr.len e0)))))) ?_
        refine r_on rfl rfl rfl rfl (decide_eq_true h21) rfl (PureD.opD (u_ld rfl rfl Tryd.underlying9 rfl rfl ((Sub.refl _).trans (GExpr.sub2 e0)))) ?_
        refine r_on rfl rfl rfl rfl (decide_eq_true h21) rfl (PureD.opD (p_seq rfl rfl rfl)) ?_
        refine rp rfl rfl (p_pkt rfl rfl (decide_eq_true h21) (tb ((and_l (p := (e0.Args.length : Int) = (lrd want3'1 e0.Op.toNat)) (q := e0.Name = []) h21)))) ?_
        refine rp rfl rfl (p_move rfl rfl) ?_
        refine (Classical.em (e0.Name = [])).elim (fun h22 => ?_) (fun h22 => ?_)
        ·have qq1 := decide_eq_true (p := ((e0.Args.length : Int) = (lrd want3'1 e0.Op.toNat)) ∧ (e0.Name = [])) ⟨h21, h22⟩
         refine rn rfl rfl rfl rfl qq1 rfl (u_fa rfl rfl Tryd.underlying32 rfl in_29 (Nat.succ_ne_zero _) rfl rfl (ne_of_lt (n := 0) (Nat.lt_of_lt_of_eq (by decide) (Eq.symm (GExpr.len e0))))) ?_
         refine rn rfl rfl rfl rfl qq1 rfl (u_lda rfl rfl Tryd.underlying29 rfl in_29 rfl (Nat.succ_pos _) ((Sub.refl _).trans (GExpr.sub1 e0)) (GValue.len e0.Value)) ?_
         refine rn rfl rfl rfl rfl qq1 rfl (u_bld rfl in_29 one_29 zc_29 pl_29 rfl rfl) ?_
         refine rn rfl rfl rfl rfl qq1 rfl (p_eqa (a := e0.Value) (b := GValue.zero) rfl eq_29 rfl (by kernel_rfl) rfl rfl) ?_
         refine rp rfl rfl (p_pkt rfl rfl qq1 (tb ((and_l (p := ((e0.Args.length : Int) = (lrd want3'1 e0.Op.toNat)) ∧ (e0.Name = [])) (q := e0.Value = GValue.zero) ⟨h21, h22⟩)))) ?_
         refine rp rfl rfl (p_asg rfl rfl) ?_
         refine rs [(1, .q 1 (0)), (4, .b (decide ((((e0.Args.length : Int) = (lrd want3'1 e0.Op.toNat)) ∧ (e0.Name = [])) ∧ (e0.Value = GValue.zero))))] [(1, .pure (GExpr.cs e0))] rfl rfl rfl ?_
         exact RunW_nil rfl
        ·have qq2 := decide_eq_false (p := ((e0.Args.length : Int) = (lrd want3'1 e0.Op.toNat)) ∧ (e0.Name = [])) (fun h => h22 h.2)
         iterate 4 (refine r_off rfl rfl rfl rfl qq2 rfl rfl ?_)
         refine rp rfl rfl (p_pkf rfl rfl qq2 (tb (decide_eq_false (p := (((e0.Args.length : Int) = (lrd want3'1 e0.Op.toNat)) ∧ (e0.Name = [])) ∧ (e0.Value = GValue.zero)) (fun x => (fun h => h22 h.2) x.1)).symm)) ?_
         refine rp rfl rfl (p_asg rfl rfl) ?_
         refine rs [(1, .q 1 (0)), (4, .b (decide ((((e0.Args.length : Int) = (lrd want3'1 e0.Op.toNat)) ∧ (e0.Name = [])) ∧ (e0.Value = GValue.zero))))] [(1, .pure (GExpr.cs e0))] rfl rfl rfl ?_
         exact RunW_nil rfl
       ·iterate 3 (refine r_off rfl rfl rfl rfl (decide_eq_false h21) rfl rfl ?_)
        refine rp rfl rfl (p_pkf rfl rfl (decide_eq_false h21) (tb (decide_eq_false (p := ((e0.Args.length : Int) = (lrd want3'1 e0.Op.toNat)) ∧ (e0.Name = [])) (fun x => h21 x.1)).symm)) ?_
        refine rp rfl rfl (p_move rfl rfl) ?_
        have qq3 := decide_eq_false (p := ((e0.Args.length : Int) = (lrd want3'1 e0.Op.toNat)) ∧ (e0.Name = [])) (fun h => h21 h.1)
        iterate 4 (refine r_off rfl rfl rfl rfl qq3 rfl rfl ?_)
        refine rp rfl rfl (p_pkf rfl rfl qq3 (tb (decide_eq_false (p := (((e0.Args.length : Int) = (lrd want3'1 e0.Op.toNat)) ∧ (e0.Name = [])) ∧ (e0.Value = GValue.zero)) (fun x => (fun h => h21 h.1) x.1)).symm)) ?_
        refine rp rfl rfl (p_asg rfl rfl) ?_
        refine rs [(1, .q 1 (0)), (4, .b (decide ((((e0.Args.length : Int) = (lrd want3'1 e0.Op.toNat)) ∧ (e0.Name = [])) ∧ (e0.Value = GValue.zero))))] [(1, .pure (GExpr.cs e0))] rfl rfl rfl ?_
        exact RunW_nil rfl
      ·have hz := some_elim H
       subst hz
       exact rfl
   ·refine AW2_seq ?_
    refine sg [0, 1] rfl ?_
    refine rp rfl rfl (p_move rfl rfl) ?_
    refine rp rfl rfl (p_not rfl rfl) ?_
    refine rz [(1, .q 1 (0)), (83, .b (!j'2))] [(1, .pure (GExpr.cs e0))] rfl rfl rfl ?_
    refine AW2_cond rfl (fun h23 => ?_) (fun h23 => ?_)
    ·replace H := ite_then h23 H
     refine sg [0] rfl ?_
     refine rp rfl rfl (p_asg rfl rfl) ?_
     refine rz [(2, .i (3 : Int))] [] rfl rfl rfl ?_
     refine AW2_ret ?_
     have hz := some_elim H
     subst hz
     exact ⟨⟨res_tmp (.same _), trivial⟩, trivial⟩
    ·replace H := ite_else (ne_true h23) H
     refine as2 [(1, .q 1 (0))] [(1, .pure (GExpr.cs e0))] rfl rfl rfl ?_
     refine AW2_skip ?_
     refine AW2_seq ?_
     refine sg [0, 1, 2, 3] rfl ?_
     refine rp rfl rfl (u_fa rfl rfl Tryd.underlying32 rfl in_30 (Nat.succ_ne_zero _) rfl rfl (ne_of_lt (n := 0) (Nat.lt_of_lt_of_eq (by decide) (Eq.symm (GExpr.len e0))))) ?_
     refine rp rfl rfl (u_ld rfl rfl Tryd.underlying30 rfl rfl ((Sub.refl _).trans (GExpr.sub3 e0))) ?_
     refine rp rfl rfl (p_lenl rfl Tryd.underlying30 rfl rfl) ?_
     refine rp rfl rfl (p_move rfl rfl) ?_
     refine rz [(85, .p ((fun q : List GExpr => AV.lst (q.flatMap GExpr.cs) q.length) e0.Args)), (86, .i (e0.Args.length : Int)), (87, .i (0 : Int))] [] rfl rfl rfl ?_
     refine AW2_block ?_
     refine as2 [(85, .p ((fun q : List GExpr => AV.lst (q.flatMap GExpr.cs) q.length) e0.Args)), (86, .i (e0.Args.length : Int)), (87, .i (0 : Int))] [] rfl rfl rfl ?_
     refine bindK H fun o'13 h28 H => ?_
     refine AW2_loopO (fun a'10 : Int => (⟨[(85, .p ((fun q : List GExpr => AV.lst (q.flatMap GExpr.cs) q.length) e0.Args)), (86, .i (e0.Args.length : Int)), (87, .i a'10)], [], 97⟩ : TS)) (fun (o : Int ⊕ Unit) e s' => match o with | .inl y'11 => e = Go.Exit.ret ∧ ResAll Tryd.prog s' [ResultVar.tmp 2] [.i y'11] ∧ HFits s' [] | .inr (y'12) => e = Go.Exit.exit 1 ∧ s' = (⟨[], [], 97⟩ : TS)) h28 rfl (fun t87_0 x hx => ?_) (fun e s' hs => ?_)
     ·clear H
      have H := hx
      clear hx
      unfold g_ref_nodeFault_l0 at H
      refine sg [0] rfl ?_
      refine rp rfl rfl (p_bin rfl rfl rfl rfl) ?_
      refine rz [(85, .p ((fun q : List GExpr => AV.lst (q.flatMap GExpr.cs) q.length) e0.Args)), (86, .i (e0.Args.length : Int)), (87, .i t87_0), (88, .b (decide (t87_0 < (e0.Args.length : Int))))] [] rfl rfl rfl ?_
      refine AW2_seq ?_
      refine AW2_if (p := t87_0 < (e0.Args.length : Int)) rfl (fun h24 => ?_) (fun h24 => ?_)
      ·replace H := ite_then h24 H
       refine as2 [(85, .p ((fun q : List GExpr => AV.lst (q.flatMap GExpr.cs) q.length) e0.Args)), (86, .i (e0.Args.length : Int)), (87, .i t87_0)] [] rfl rfl rfl ?_
       refine AW2_skip ?_
       refine AW2_seq ?_
       refine AW2_block ?_
       refine sg [0, 1, 2, 3] rfl ?_
       refine chkK H fun h25 H => ?_
       refine rp rfl rfl (u_ixl rfl rfl Tryd.underlying30 in_32 rfl rfl (ixe h25) (ixn h25) (fne (fun x => (GExpr.len x)) (by decide) (ixn h25))) ?_
       refine rp rfl rfl (u_lda rfl rfl Tryd.underlying32 rfl in_32 rfl (Nat.succ_pos _) (Sub.fm default (fun x => (GExpr.len x)) (ixn h25)) (GExpr.len (lrd e0.Args t87_0.toNat))) ?_
       refine r_op rfl rfl (MakeD.opD (u_alloc 6 rfl in_32 one_32 zc_32) rfl rfl rfl rfl) ?_
       refine r_op rfl rfl (u_st rfl rfl rfl rfl rfl in_32 (GExpr.len (lrd e0.Args t87_0.toNat)) (ne_of_lt (n := 0) (Nat.lt_of_lt_of_eq (by decide) (Eq.symm (GExpr.len GExpr.zero)))) (Upd.refl ((GExpr.len (lrd e0.Args t87_0.toNat)).trans (GExpr.len GExpr.zero).symm))) ?_
       refine rz [(6, .q 6 (0)), (85, .p ((fun q : List GExpr => AV.lst (q.flatMap GExpr.cs) q.length) e0.Args)), (86, .i (e0.Args.length : Int)), (87, .i t87_0)] [(6, .pure (GExpr.cs (lrd e0.Args t87_0.toNat)))] rfl rfl rfl ?_
       refine sg [0, 1, 2] rfl ?_
       refine rp rfl rfl (u_lda rfl rfl Tryd.underlying32 rfl in_32 rfl (Nat.succ_pos _) (Sub.refl _) (GExpr.len (lrd e0.Args t87_0.toNat))) ?_
       refine bindK H fun r'9 h26 H => ?_
       refine rp rfl rfl (p_callp rfl rfl rfl Tryd.func40 rfl rfl (hR h26) ⟨rfl, trivial⟩) ?_
       refine rp rfl rfl (p_asg rfl rfl) ?_
       refine rz [(7, .i r'9), (85, .p ((fun q : List GExpr => AV.lst (q.flatMap GExpr.cs) q.length) e0.Args)), (86, .i (e0.Args.length : Int)), (87, .i t87_0)] [] rfl rfl rfl ?_
       refine sg [0, 1] rfl ?_
       refine rp rfl rfl (p_move rfl rfl) ?_
       refine rp rfl rfl (p_ine rfl rfl rfl) ?_
       refine rz [(7, .i r'9), (85, .p ((fun q : List GExpr => AV.lst (q.flatMap GExpr.cs) q.length) e0.Args)), (86, .i (e0.Args.length : Int)), (87, .i t87_0), (94, .b (decide (r'9 ≠ (0 : Int))))] [] rfl rfl rfl ?_
       refine AW2_if (p := r'9 ≠ (0 : Int)) rfl (fun h27 => ?_) (fun h27 => ?_)
       ·replace H := ite_then h27 H
        refine sg [0, 1] rfl ?_
        refine rp rfl rfl (p_move rfl rfl) ?_
        refine rp rfl rfl (p_asg rfl rfl) ?_
        refine rz [(2, .i r'9)] [] rfl rfl rfl ?_
        refine AW2_ret ?_
        have hz := some_elim H
        subst hz
        exact ⟨rfl, ⟨res_tmp (.same _), trivial⟩, trivial⟩
       ·replace H := ite_else h27 H
        refine as2 [(85, .p ((fun q : List GExpr => AV.lst (q.flatMap GExpr.cs) q.length) e0.Args)), (86, .i (e0.Args.length : Int)), (87, .i t87_0)] [] rfl rfl rfl ?_
        refine AW2_skip ?_
        refine AW2_reg [0, 1] rfl ?_
        refine rp rfl rfl (p_bin rfl rfl rfl rfl) ?_
        refine rp rfl rfl (p_move rfl rfl) ?_
        refine rz [(85, .p ((fun q : List GExpr => AV.lst (q.flatMap GExpr.cs) q.length) e0.Args)), (86, .i (e0.Args.length : Int)), (87, .i (w64 (t87_0 + (1 : Int))))] [] rfl rfl rfl ?_
        have hz := some_elim H
        subst hz
        exact ⟨rfl, rfl⟩
      ·replace H := ite_else h24 H
       refine as2 [] [] rfl rfl rfl ?_
       refine AW2_exit ?_
       refine thenQ2_exit ?_
       have hz := some_elim H
       subst hz
       exact ⟨rfl, rfl⟩
     ·rcases o'13 with y'14 | y'15
      ·obtain ⟨rfl, hs⟩ := hs
       refine ⟨by simp, ?_⟩
       have hz := some_elim H
       subst hz
       exact ⟨hs.1, hs.2⟩
      ·obtain ⟨rfl, rfl⟩ := hs
       refine ⟨by simp, ?_⟩
       refine blockQ2_exit ?_
       refine sg [0] rfl ?_
       refine rp rfl rfl (p_asg rfl rfl) ?_
       refine rz [(2, .i (0 : Int))] [] rfl rfl rfl ?_
       refine AW2_ret ?_
       have hz := some_elim H
       subst hz
       exact ⟨⟨res_tmp (.same _), trivial⟩, trivial⟩
theorem g_ref_nodeFault_acN : ∀ (fu : Nat) {e0 : GExpr} {r : Int}, g_ref_nodeFault fu e0 = some r → ACp Tryd.prog 40 [(.agg (GExpr.cs e0))] (AV.int r)
 | 0, _, _, H => (by cases H)
 | fu + 1, _, _, H => g_ref_nodeFault_ac0 (g_ref_nodeFault_acN fu) H
theorem g_ref_nodeFault_ac {e0 : GExpr} {r : Int} (H : g_ref_nodeFault 100000 e0 = some r) : ACp Tryd.prog 40 [(.agg (GExpr.cs e0))] (AV.int r) := g_ref_nodeFault_acN 100000 H

/-! chirographref.ExprFault -/
noncomputable def g_ref_ExprFault (e0 : GExpr) : Option (Int) :=
  (g_ref_within e0).bind fun r'1 => (if (!r'1) = true then some (1 : Int) else (g_ref_nodeFault 100000 e0).bind fun r'2 => some r'2)
set_option maxHeartbeats 4000000 in
set_option maxRecDepth 100000 in
theorem g_ref_ExprFault_ac {e0 : GExpr} {r : Int} (H : g_ref_ExprFault e0 = some r) : ACp Tryd.prog 13 [(.agg (GExpr.cs e0))] (AV.int r) := by
 refine ACp_of (AC2_of_body (vs := [.i r]) Tryd.func13 rfl rfl (Nat.le_of_ble_eq_true rfl) rfl ?_) (fun _ => .same _)
 unfold g_ref_ExprFault at H
 refine as2 [(0, .g (GExpr.cs e0))] [] rfl rfl rfl ?_
 refine sg [0, 1] rfl ?_
 refine r_op rfl rfl (MakeD.opD (n_box 1 rfl rfl) rfl rfl rfl rfl) ?_
 refine rp rfl rfl (p_asg rfl rfl) ?_
 refine rz [(1, .q 1 (0))] [(1, .pure (GExpr.cs e0))] rfl rfl rfl ?_
 refine AW2_seq ?_
 refine sg [0, 1, 2] rfl ?_
 refine rp rfl rfl (u_lda rfl rfl Tryd.underlying32 rfl in_32 rfl (Nat.succ_pos _) (Sub.refl _) (GExpr.len e0)) ?_
 refine bindK H fun r'1 h1 H => ?_
 refine rp rfl rfl (p_callp rfl rfl rfl Tryd.func39 rfl rfl (g_ref_within_ac h1) ⟨rfl, trivial⟩) ?_
 refine rp rfl rfl (p_not rfl rfl) ?_
 refine rz [(1, .q 1 (0)), (5, .b (!r'1))] [(1, .pure (GExpr.cs e0))] rfl rfl rfl ?_
 refine AW2_cond rfl (fun h2 => ?_) (fun h2 => ?_)
 ·replace H := ite_then h2 H
  refine sg [0] rfl ?_
  refine rp rfl rfl (p_asg rfl rfl) ?_
  refine rz [(2, .i (1 : Int))] [] rfl rfl rfl ?_
  refine AW2_ret ?_
  have hz := some_elim H
  subst hz
  exact ⟨⟨res_tmp (.same _), trivial⟩, trivial⟩
 ·replace H := ite_else (ne_true h2) H
  refine as2 [(1, .q 1 (0))] [(1, .pure (GExpr.cs e0))] rfl rfl rfl ?_
  refine AW2_skip ?_
  refine sg [0, 1, 2] rfl ?_
  refine rp rfl rfl (u_lda rfl rfl Tryd.underlying32 rfl in_32 rfl (Nat.succ_pos _) (Sub.refl _) (GExpr.len e0)) ?_
  refine bindK H fun r'2 h3 H => ?_
  refine rp rfl rfl (p_callp rfl rfl rfl Tryd.func40 rfl rfl (g_ref_nodeFault_ac h3) ⟨rfl, trivial⟩) ?_
  refine rp rfl rfl (p_asg rfl rfl) ?_
  refine rz [(2, .i r'2)] [] rfl rfl rfl ?_
  refine AW2_ret ?_
  have hz := some_elim H
  subst hz
  exact ⟨⟨res_tmp (.same _), trivial⟩, trivial⟩

/-! chirographlaw.ExprChecks -/
noncomputable def g_law_ExprChecks (x0 : GExpr) : Option (Bool) :=
  (g_expr_Check x0).bind fun r'1 => (g_ref_ExprFault x0).bind fun r'2 => some (decide (r'1 = r'2))
set_option maxHeartbeats 4000000 in
set_option maxRecDepth 100000 in
theorem g_law_ExprChecks_ac {x0 : GExpr} {r : Bool} (H : g_law_ExprChecks x0 = some r) : ACp Tryd.prog 4 [(.agg (GExpr.cs x0))] (AV.bool r) := by
 refine ACp_of (AC2_of_body (vs := [.b r]) Tryd.func4 rfl rfl (Nat.le_of_ble_eq_true rfl) rfl ?_) (fun _ => .same _)
 unfold g_law_ExprChecks at H
 refine as2 [(0, .g (GExpr.cs x0))] [] rfl rfl rfl ?_
 refine sg [0, 1] rfl ?_
 refine r_op rfl rfl (MakeD.opD (n_box 1 rfl rfl) rfl rfl rfl rfl) ?_
 refine rp rfl rfl (p_asg rfl rfl) ?_
 refine rz [(1, .q 1 (0))] [(1, .pure (GExpr.cs x0))] rfl rfl rfl ?_
 refine sg [0, 1, 2] rfl ?_
 refine rp rfl rfl (u_lda rfl rfl Tryd.underlying32 rfl in_32 rfl (Nat.succ_pos _) (Sub.refl _) (GExpr.len x0)) ?_
 refine bindK H fun r'1 h1 H => ?_
 refine rp rfl rfl (p_callp rfl rfl rfl Tryd.func12 rfl rfl (g_expr_Check_ac h1) ⟨rfl, trivial⟩) ?_
 refine rp rfl rfl (p_asg rfl rfl) ?_
 refine rz [(1, .q 1 (0)), (3, .i r'1)] [(1, .pure (GExpr.cs x0))] rfl rfl rfl ?_
 refine sg [0, 1, 2] rfl ?_
 refine rp rfl rfl (u_lda rfl rfl Tryd.underlying32 rfl in_32 rfl (Nat.succ_pos _) (Sub.refl _) (GExpr.len x0)) ?_
 refine bindK H fun r'2 h2 H => ?_
 refine rp rfl rfl (p_callp rfl rfl rfl Tryd.func13 rfl rfl (g_ref_ExprFault_ac h2) ⟨rfl, trivial⟩) ?_
 refine rp rfl rfl (p_asg rfl rfl) ?_
 refine rz [(3, .i r'1), (4, .i r'2)] [] rfl rfl rfl ?_
 refine sg [0, 1, 2, 3] rfl ?_
 refine rp rfl rfl (p_move rfl rfl) ?_
 refine rp rfl rfl (p_move rfl rfl) ?_
 refine rp rfl rfl (p_ieq rfl rfl rfl) ?_
 refine rp rfl rfl (p_asg rfl rfl) ?_
 refine rz [(2, .b (decide (r'1 = r'2)))] [] rfl rfl rfl ?_
 refine AW2_ret ?_
 have hz := some_elim H
 subst hz
 exact ⟨⟨res_tmp (.same _), trivial⟩, trivial⟩
end Go.Proofs.YtalnmpfjgiecdaaDoor.VM
