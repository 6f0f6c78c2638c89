/- Functions of the program, as they answer, and that their code comes to these answers. -/
import Derived.Test.YtfekkhinjdmcbaaDoorEn2
namespace Go.Proofs.YtfekkhinjdmcbaaDoor.VM
open Go Go.RowKit

structure GReply where
  Error : Int
  Count : Int
  Rows : List (List GValue)
deriving DecidableEq, Inhabited
def GReply.zero : GReply := ⟨(0 : Int), (0 : Int), []⟩
def GReply.cs (x : GReply) : List AV := ([(AV.int x.Error)]) ++ (([(AV.int x.Count)]) ++ ([((fun q : List (List GValue) => AV.lst (q.map (fun q : List GValue => AV.lst (q.flatMap GValue.cs) q.length)) q.length) x.Rows)]))
theorem GReply.len (x : GReply) : (GReply.cs x).length = 3 := by
  simp only [GReply.cs, List.length_append]
  rw [show ([(AV.int x.Error)]).length = 1 from (show ([(AV.int x.Error)]).length = 1 from rfl), show ([(AV.int x.Count)]).length = 1 from (show ([(AV.int x.Count)]).length = 1 from rfl), show ([((fun q : List (List GValue) => AV.lst (q.map (fun q : List GValue => AV.lst (q.flatMap GValue.cs) q.length)) q.length) x.Rows)]).length = 1 from (show ([((fun q : List (List GValue) => AV.lst (q.map (fun q : List GValue => AV.lst (q.flatMap GValue.cs) q.length)) q.length) x.Rows)]).length = 1 from rfl)]
theorem GReply.sub0 (x : GReply) : Sub (GReply.cs x) 0 ([(AV.int x.Error)]) := Sub.head _ _
abbrev GReply.w0 (x : GReply) (y : Int) : GReply := { x with Error := y }
theorem GReply.upd0 (x : GReply) (y : Int) : Upd (GReply.cs x) 0 ([(AV.int y)]) (GReply.cs { x with Error := y }) := Upd.head (show ([(AV.int y)]).length = ([(AV.int x.Error)]).length from rfl)
theorem GReply.sub1 (x : GReply) : Sub (GReply.cs x) 1 ([(AV.int x.Count)]) := Sub.skip (k := 1) (show ([(AV.int x.Error)]).length = 1 from rfl) (Sub.head _ _)
abbrev GReply.w1 (x : GReply) (y : Int) : GReply := { x with Count := y }
theorem GReply.upd1 (x : GReply) (y : Int) : Upd (GReply.cs x) 1 ([(AV.int y)]) (GReply.cs { x with Count := y }) := Upd.skip (k := 1) (show ([(AV.int x.Error)]).length = 1 from rfl) (Upd.head (show ([(AV.int y)]).length = ([(AV.int x.Count)]).length from rfl))
theorem GReply.sub2 (x : GReply) : Sub (GReply.cs x) 2 ([((fun q : List (List GValue) => AV.lst (q.map (fun q : List GValue => AV.lst (q.flatMap GValue.cs) q.length)) q.length) x.Rows)]) := Sub.skip (k := 1) (show ([(AV.int x.Error)]).length = 1 from rfl) (Sub.skip (k := 1) (show ([(AV.int x.Count)]).length = 1 from rfl) (Sub.refl _))
abbrev GReply.w2 (x : GReply) (y : List (List GValue)) : GReply := { x with Rows := y }
theorem GReply.upd2 (x : GReply) (y : List (List GValue)) : Upd (GReply.cs x) 2 ([((fun q : List (List GValue) => AV.lst (q.map (fun q : List GValue => AV.lst (q.flatMap GValue.cs) q.length)) q.length) y)]) (GReply.cs { x with Rows := y }) := Upd.skip (k := 1) (show ([(AV.int x.Error)]).length = 1 from rfl) (Upd.skip (k := 1) (show ([(AV.int x.Count)]).length = 1 from rfl) (Upd.refl (show ([((fun q : List (List GValue) => AV.lst (q.map (fun q : List GValue => AV.lst (q.flatMap GValue.cs) q.length)) q.length) y)]).length = ([((fun q : List (List GValue) => AV.lst (q.map (fun q : List GValue => AV.lst (q.flatMap GValue.cs) q.length)) q.length) x.Rows)]).length from rfl)))
theorem in_25 : Info Tryd.prog 25 1 8 (.int .i64 0) := by unfold Info; kernel_rfl
theorem one_25 : (.int .i64 0 : Value).cells.all (·.oneCell') = true := by kernel_rfl
theorem zc_25 : ((.int .i64 0 : Value).cells.toList.map zcell) = [(AV.int (0 : Int))] := by rfl
theorem in_42 : Info Tryd.prog 42 1 24 (.slice none 0 0) := by unfold Info; kernel_rfl
theorem one_42 : (.slice none 0 0 : Value).cells.all (·.oneCell') = true := by kernel_rfl
theorem zc_42 : ((.slice none 0 0 : Value).cells.toList.map zcell) = [((fun q : List (List GValue) => AV.lst (q.map (fun q : List GValue => AV.lst (q.flatMap GValue.cs) q.length)) q.length) [])] := by rfl
theorem in_32 : Info Tryd.prog 32 1 24 (.slice none 0 0) := by unfold Info; kernel_rfl
theorem one_32 : (.slice none 0 0 : Value).cells.all (·.oneCell') = true := by kernel_rfl
theorem zc_32 : ((.slice none 0 0 : Value).cells.toList.map zcell) = [((fun q : List GValue => AV.lst (q.flatMap GValue.cs) q.length) [])] := by rfl
theorem in_44 : Info Tryd.prog 44 3 40 (.agg #[.int .i64 0, .int .i64 0, .slice none 0 0]) := by unfold Info; kernel_rfl
theorem one_44 : (.agg #[.int .i64 0, .int .i64 0, .slice none 0 0] : Value).cells.all (·.oneCell') = true := by kernel_rfl
theorem zc_44 : ((.agg #[.int .i64 0, .int .i64 0, .slice none 0 0] : Value).cells.toList.map zcell) = GReply.cs GReply.zero := by rfl
theorem pl_44 : placesOf Tryd.prog 44 = some [(0, 1), (1, 1), (2, 1)] := by kernel_rfl
set_option maxRecDepth 100000 in
theorem ty_5 {d : Nat} {cs : List AV} (h : Typed Tryd.prog d 5 cs) : ∃ x : UInt8, cs = [(AV.b8 x)] ∧ okA x := match d, h with
  | 0, h => False.elim h
  | d + 1, h => ty_u8 Tryd.underlying5 h
set_option maxRecDepth 100000 in
theorem ty_33 {d : Nat} {cs : List AV} (h : Typed Tryd.prog d 33 cs) : ∃ x : List UInt8, cs = [(AV.bytes x)] ∧ (okL 1 okA) x := match d, h with
  | 0, h => False.elim h
  | d + 1, h => ty_slice (f := AV.b8) Tryd.underlying33 (bytes_of in_5) (fun _ hx => ty_5 hx) h
set_option maxRecDepth 100000 in
theorem ty_25 {d : Nat} {cs : List AV} (h : Typed Tryd.prog d 25 cs) : ∃ x : Int, cs = [(AV.int x)] ∧ okI x := match d, h with
  | 0, h => False.elim h
  | d + 1, h => ty_int Tryd.underlying25 h
set_option maxRecDepth 100000 in
theorem ty_42 {d : Nat} {cs : List AV} (h : Typed Tryd.prog d 42 cs) : ∃ x : List (List GValue), cs = [((fun q : List (List GValue) => AV.lst (q.map (fun q : List GValue => AV.lst (q.flatMap GValue.cs) q.length)) q.length) x)] ∧ (okL 24 (okL 40 GValue.ok)) x := match d, h with
  | 0, h => False.elim h
  | d + 1, h => ty_slice (f := (fun q : List GValue => AV.lst (q.flatMap GValue.cs) q.length)) Tryd.underlying42 (bytes_of in_32) (fun _ hx => ty_32 hx) h
def GReply.ok (x : GReply) : Prop := okI x.Error ∧ okI x.Count ∧ (okL 24 (okL 40 GValue.ok)) x.Rows
set_option maxRecDepth 100000 in
theorem ty_44 {d : Nat} {cs : List AV} (h : Typed Tryd.prog d 44 cs) : ∃ x : GReply, cs = GReply.cs x ∧ GReply.ok x := match d, h with
  | 0, h => False.elim h
  | d + 1, h => by
    obtain ⟨es, rfl, hl, hf⟩ := ty_struct Tryd.underlying44 h
    match es, hl, hf with
    | [e0, e1, e2], _, hf =>
    obtain ⟨x0, h0, q0⟩ := ty_25 (hf 0 _ e0 rfl rfl)
    obtain ⟨x1, h1, q1⟩ := ty_3 (hf 1 _ e1 rfl rfl)
    obtain ⟨x2, h2, q2⟩ := ty_42 (hf 2 _ e2 rfl rfl)
    refine ⟨⟨x0, x1, x2⟩, ?_, ⟨q0, q1, q2⟩⟩
    rw [h0, h1, h2]
    simp only [List.flatten_cons, List.flatten_nil, List.append_nil, GReply.cs]

/-! chirographlaw.sameRow -/
def g_law_sameRow_r6 : List (List (Nat × Option Nat)) := [[(0, none)], [(5, none)], [(16, some 0), (17, some 1)], [(18, some 2)], [(1, none)], [(5, none)], [(20, some 4), (21, some 5)], [(22, some 6)]]
def g_law_sameRow_r6c : List (List Nat) := [[], [], [0, 1], [0, 1, 2], [], [], [4, 5], [4, 5, 6], [0, 1, 2, 3, 4, 5, 6, 7]]
noncomputable def g_law_sameRow_l0 (a0 : List GValue) (b1 : List GValue) : Int → Option (Int ⊕ (Bool ⊕ Unit))
  | t13_0 => (if t13_0 < (a0.length : Int) then if 0 ≤ t13_0 ∧ t13_0 < (a0.length : Int) then if 0 ≤ t13_0 ∧ t13_0 < (b1.length : Int) then (if (lrd a0 t13_0.toNat) ≠ (lrd b1 t13_0.toNat) then some (.inr (.inl false)) else some (.inl (w64 (t13_0 + (1 : Int))))) else none else none else some (.inr (.inr ())))
noncomputable def g_law_sameRow (a0 : List GValue) (b1 : List GValue) : Option (Bool) :=
  (if (a0.length : Int) ≠ (b1.length : Int) then some false else (loopO (g_law_sameRow_l0 a0 b1) (0 : Int)).bind fun o'4 => match o'4 with | .inl y'5 => some y'5 | .inr (y'6) => some true)
set_option maxHeartbeats 4000000 in
set_option maxRecDepth 100000 in
theorem g_law_sameRow_ac {a0 : List GValue} {b1 : List GValue} {r : Bool} (H : g_law_sameRow a0 b1 = some r) : ACp Tryd.prog 26 [((fun q : List GValue => AV.lst (q.flatMap GValue.cs) q.length) a0), ((fun q : List GValue => AV.lst (q.flatMap GValue.cs) q.length) b1)] (AV.bool r) := by
 refine ACp_of (AC2_of_body (vs := [.b r]) Tryd.func26 Y Y (Nat.le_of_ble_eq_true Y) Y ?_) (fun _ => .same _)
 unfold g_law_sameRow at H
 refine as2 [(0, .p ((fun q : List GValue => AV.lst (q.flatMap GValue.cs) q.length) a0)), (1, .p ((fun q : List GValue => AV.lst (q.flatMap GValue.cs) q.length) b1))] [] Y Y Y ?_
 refine sg [0] Y ?_
 refine rp Y Y (p_asg Y Y) ?_
 refine rz [(0, .p ((fun q : List GValue => AV.lst (q.flatMap GValue.cs) q.length) a0)), (1, .p ((fun q : List GValue => AV.lst (q.flatMap GValue.cs) q.length) b1))] [] Y Y Y ?_
 refine AW2_seq ?_
 refine sg [0, 1, 2, 3, 4] Y ?_
 refine rp Y Y (p_move Y Y) ?_
 refine rp Y Y (p_lenl Y Tryd.underlying32 Y Y) ?_
 refine rp Y Y (p_move Y Y) ?_
 refine rp Y Y (p_lenl Y Tryd.underlying32 Y Y) ?_
 refine rp Y Y (p_ine Y Y Y) ?_
 refine rz [(0, .p ((fun q : List GValue => AV.lst (q.flatMap GValue.cs) q.length) a0)), (1, .p ((fun q : List GValue => AV.lst (q.flatMap GValue.cs) q.length) b1)), (10, .b (decide ((a0.length : Int) ≠ (b1.length : Int))))] [] Y Y Y ?_
 refine AW2_if (p := (a0.length : Int) ≠ (b1.length : Int)) Y (fun h1 => ?_) (fun h1 => ?_)
 ·replace H := ite_then h1 H
  refine sg [0] Y ?_
  refine rp Y Y (p_asg Y Y) ?_
  refine rz [(4, .b false)] [] Y Y Y ?_
  refine AW2_ret ?_
  have hz := some_elim H
  subst hz
  exact ⟨⟨res_tmp (.same _), trivial⟩, trivial⟩
 ·replace H := ite_else h1 H
  refine as2 [(0, .p ((fun q : List GValue => AV.lst (q.flatMap GValue.cs) q.length) a0)), (1, .p ((fun q : List GValue => AV.lst (q.flatMap GValue.cs) q.length) b1))] [] Y Y Y ?_
  refine AW2_skip ?_
  refine AW2_seq ?_
  refine sg [0, 1, 2] Y ?_
  refine rp Y Y (p_move Y Y) ?_
  refine rp Y Y (p_lenl Y Tryd.underlying32 Y Y) ?_
  refine rp Y Y (p_move Y Y) ?_
  refine rz [(0, .p ((fun q : List GValue => AV.lst (q.flatMap GValue.cs) q.length) a0)), (1, .p ((fun q : List GValue => AV.lst (q.flatMap GValue.cs) q.length) b1)), (12, .i (a0.length : Int)), (13, .i (0 : Int))] [] Y Y Y ?_
  refine AW2_block ?_
  refine as2 [(0, .p ((fun q : List GValue => AV.lst (q.flatMap GValue.cs) q.length) a0)), (1, .p ((fun q : List GValue => AV.lst (q.flatMap GValue.cs) q.length) b1)), (12, .i (a0.length : Int)), (13, .i (0 : Int))] [] Y Y Y ?_
  refine bindK H fun o'4 h6 H => ?_
  refine AW2_loopO (fun a'1 : Int => (⟨[(0, .p ((fun q : List GValue => AV.lst (q.flatMap GValue.cs) q.length) a0)), (1, .p ((fun q : List GValue => AV.lst (q.flatMap GValue.cs) q.length) b1)), (12, .i (a0.length : Int)), (13, .i a'1)], [], 26⟩ : TS)) (fun (o : Bool ⊕ Unit) e s' => match o with | .inl y'2 => e = Go.Exit.ret ∧ ResAll Tryd.prog s' [ResultVar.tmp 4] [.b y'2] ∧ HFits s' [] | .inr (y'3) => e = Go.Exit.exit 0 ∧ s' = (⟨[], [], 26⟩ : TS)) h6 Y (fun t13_0 x hx => ?_) (fun e s' hs => ?_)
  ·clear H
   have H := hx
   clear hx
   unfold g_law_sameRow_l0 at H
   refine sg [0] Y ?_
   refine rp Y Y (p_bin Y Y Y Y) ?_
   refine rz [(0, .p ((fun q : List GValue => AV.lst (q.flatMap GValue.cs) q.length) a0)), (1, .p ((fun q : List GValue => AV.lst (q.flatMap GValue.cs) q.length) b1)), (12, .i (a0.length : Int)), (13, .i t13_0), (14, .b (decide (t13_0 < (a0.length : Int))))] [] Y Y Y ?_
   refine AW2_seq ?_
   refine AW2_if (p := t13_0 < (a0.length : Int)) Y (fun h2 => ?_) (fun h2 => ?_)
   ·replace H := ite_then h2 H
    refine as2 [(0, .p ((fun q : List GValue => AV.lst (q.flatMap GValue.cs) q.length) a0)), (1, .p ((fun q : List GValue => AV.lst (q.flatMap GValue.cs) q.length) b1)), (12, .i (a0.length : Int)), (13, .i t13_0)] [] Y Y Y ?_
    refine AW2_skip ?_
    refine AW2_seq ?_
    refine AW2_block ?_
    refine sg [0, 1] Y ?_
    refine rp Y Y (p_move Y Y) ?_
    refine rp Y Y (p_asg Y Y) ?_
    refine rz [(0, .p ((fun q : List GValue => AV.lst (q.flatMap GValue.cs) q.length) a0)), (1, .p ((fun q : List GValue => AV.lst (q.flatMap GValue.cs) q.length) b1)), (5, .i t13_0), (12, .i (a0.length : Int)), (13, .i t13_0)] [] Y Y Y ?_
    refine AW2_seq ?_
    refine chkK H fun h3 H => ?_
    refine chkK H fun h4 H => ?_
    refine AW2_ghoQ ?_
    refine AW2_draw 8 [8] (fun k => ([.p ((fun q : List GValue => AV.lst (q.flatMap GValue.cs) q.length) a0), .i t13_0, .p (.rptr (a0.flatMap GValue.cs) (t13_0.toNat * 4)), .g (GValue.cs (lrd a0 t13_0.toNat)), .p ((fun q : List GValue => AV.lst (q.flatMap GValue.cs) q.length) b1), .i t13_0, .p (.rptr (b1.flatMap GValue.cs) (t13_0.toNat * 4)), .g (GValue.cs (lrd b1 t13_0.toNat))] : List TV).getD k TV.any) (fun k => g_law_sameRow_r6.getD k []) [(0, none), (1, none), (12, none), (13, none), (19, some 3), (23, some 7)] [] (fun k => g_law_sameRow_r6c.getD k []) mixed (by kernel_rfl) Y Y (a_op (g_x Y (x_p Y (p_move Y Y) Y)) (a_op (g_x Y (x_p Y (p_move Y Y) Y)) (a_op (g_x Y (x_p Y (u_ixl Y Y Tryd.underlying32 in_24 Y Y (ixe h3) (ixn h3) (fne (fun x => (GValue.len x)) (by decide) (ixn h3))) Y)) (a_op (g_x Y (x_p Y (u_lda Y Y Tryd.underlying24 Y in_24 Y (Nat.succ_pos _) (Sub.fm default (fun x => (GValue.len x)) (ixn h3)) (GValue.len (lrd a0 t13_0.toNat))) Y)) (a_op (g_x Y (x_p Y (p_move Y Y) Y)) (a_op (g_x Y (x_p Y (p_move Y Y) Y)) (a_op (g_x Y (x_p Y (u_ixl Y Y Tryd.underlying32 in_24 Y Y (ixe h4) (ixn h4) (fne (fun x => (GValue.len x)) (by decide) (ixn h4))) Y)) (a_op (g_x Y (x_p Y (u_lda Y Y Tryd.underlying24 Y in_24 Y (Nat.succ_pos _) (Sub.fm default (fun x => (GValue.len x)) (ixn h4)) (GValue.len (lrd b1 t13_0.toNat))) Y)) (a_nil))))))))) ?_
    refine t_op Y Y (PureD.opD (p_nea (a := (lrd a0 t13_0.toNat)) (b := (lrd b1 t13_0.toNat)) Y eq_24 Y (by kernel_rfl) Y Y)) ?_
    refine t_gho (Gho_st (L := [(0, .p ((fun q : List GValue => AV.lst (q.flatMap GValue.cs) q.length) a0)), (1, .p ((fun q : List GValue => AV.lst (q.flatMap GValue.cs) q.length) b1)), (12, .i (a0.length : Int)), (13, .i t13_0), (24, .b (decide ((lrd a0 t13_0.toNat) ≠ (lrd b1 t13_0.toNat))))]) (H := []) (N := 26) Y ⟨TLes.same _, TLes.same _, TLes.same _, TLes.same _, TLes.same _, trivial⟩ trivial) ?_
    refine AW2_if (p := (lrd a0 t13_0.toNat) ≠ (lrd b1 t13_0.toNat)) Y (fun h5 => ?_) (fun h5 => ?_)
    ·replace H := ite_then h5 H
     refine sg [0] Y ?_
     refine rp Y Y (p_asg Y Y) ?_
     refine rz [(4, .b false)] [] Y Y Y ?_
     refine AW2_ret ?_
     have hz := some_elim H
     subst hz
     exact ⟨Y, ⟨res_tmp (.same _), trivial⟩, trivial⟩
    ·replace H := ite_else h5 H
     refine as2 [(0, .p ((fun q : List GValue => AV.lst (q.flatMap GValue.cs) q.length) a0)), (1, .p ((fun q : List GValue => AV.lst (q.flatMap GValue.cs) q.length) b1)), (12, .i (a0.length : Int)), (13, .i t13_0)] [] Y Y Y ?_
     refine AW2_skip ?_
     refine AW2_reg [0, 1] Y ?_
     refine rp Y Y (p_bin Y Y Y Y) ?_
     refine rp Y Y (p_move Y Y) ?_
     refine rz [(0, .p ((fun q : List GValue => AV.lst (q.flatMap GValue.cs) q.length) a0)), (1, .p ((fun q : List GValue => AV.lst (q.flatMap GValue.cs) q.length) b1)), (12, .i (a0.length : Int)), (13, .i (w64 (t13_0 + (1 : Int))))] [] Y Y Y ?_
     have hz := some_elim H
     subst hz
     exact ⟨Y, Y⟩
   ·replace H := ite_else h2 H
    refine as2 [] [] Y Y Y ?_
    refine AW2_exit ?_
    refine thenQ2_exit ?_
    have hz := some_elim H
    subst hz
    exact ⟨Y, Y⟩
  ·rcases o'4 with y'5 | y'6
   ·obtain ⟨rfl, hs⟩ := hs
    refine ⟨by simp, ?_⟩
    have hz := some_elim H
    subst hz
    exact ⟨hs.1, hs.2⟩
   ·obtain ⟨rfl, rfl⟩ := hs
    refine ⟨by simp, ?_⟩
    refine blockQ2_exit ?_
    refine sg [0] Y ?_
    refine rp Y Y (p_asg Y Y) ?_
    refine rz [(4, .b true)] [] Y Y Y ?_
    refine AW2_ret ?_
    have hz := some_elim H
    subst hz
    exact ⟨⟨res_tmp (.same _), trivial⟩, trivial⟩

/-! chirographlaw.CodeDecodes -/
noncomputable def g_law_CodeDecodes (l0 : List UInt8) (n1 : Int) (down2 : Int) : Option (Bool) :=
  (g_code_Decode l0 n1 down2).bind fun r'1 => (g_ref_RowOf l0 n1 down2).bind fun r'2 => ((if r'1.2 = r'2.2 then (g_law_sameRow r'1.1 r'2.1).bind fun r'4 => some r'4 else some false)).bind fun g'5 => some g'5
set_option maxHeartbeats 4000000 in
set_option maxRecDepth 100000 in
theorem g_law_CodeDecodes_ac {l0 : List UInt8} {n1 : Int} {down2 : Int} {r : Bool} (H : g_law_CodeDecodes l0 n1 down2 = some r) : ACp Tryd.prog 8 [(AV.bytes l0), (AV.int n1), (AV.int down2)] (AV.bool r) := by
 refine ACp_of (AC2_of_body (vs := [.b r]) Tryd.func8 Y Y (Nat.le_of_ble_eq_true Y) Y ?_) (fun _ => .same _)
 unfold g_law_CodeDecodes at H
 refine as2 [(0, .y l0), (1, .i n1), (2, .i down2)] [] Y Y Y ?_
 refine sg [0] Y ?_
 refine rp Y Y (p_asg Y Y) ?_
 refine rz [(0, .y l0), (1, .i n1), (2, .i down2)] [] Y Y Y ?_
 refine sg [0, 1, 2, 3, 4, 5, 6, 7, 8] Y ?_
 refine rp Y Y (p_move Y Y) ?_
 refine rp Y Y (p_move Y Y) ?_
 refine rp Y Y (p_move Y Y) ?_
 refine bindK H fun r'1 h1 H => ?_
 refine rp Y Y (p_callp Y Y Y Tryd.func24 Y Y (g_code_Decode_ac h1) ⟨Y, Y, Y, trivial⟩) ?_
 refine rp Y Y (p_move Y Y) ?_
 refine rp Y Y (p_ext Y Y Y Y) ?_
 refine rp Y Y (p_ext Y Y Y Y) ?_
 refine rp Y Y (p_asg Y Y) ?_
 refine rp Y Y (p_asg Y Y) ?_
 refine rz [(0, .y l0), (1, .i n1), (2, .i down2), (7, .p ((fun q : List GValue => AV.lst (q.flatMap GValue.cs) q.length) r'1.1)), (8, .i r'1.2)] [] Y Y Y ?_
 refine sg [0, 1, 2, 3, 4, 5, 6, 7, 8] Y ?_
 refine rp Y Y (p_move Y Y) ?_
 refine rp Y Y (p_move Y Y) ?_
 refine rp Y Y (p_move Y Y) ?_
 refine bindK H fun r'2 h2 H => ?_
 refine rp Y Y (p_callp Y Y Y Tryd.func25 Y Y (g_ref_RowOf_ac h2) ⟨Y, Y, Y, trivial⟩) ?_
 refine rp Y Y (p_move Y Y) ?_
 refine rp Y Y (p_ext Y Y Y Y) ?_
 refine rp Y Y (p_ext Y Y Y Y) ?_
 refine rp Y Y (p_asg Y Y) ?_
 refine rp Y Y (p_asg Y Y) ?_
 refine rz [(7, .p ((fun q : List GValue => AV.lst (q.flatMap GValue.cs) q.length) r'1.1)), (8, .i r'1.2), (9, .p ((fun q : List GValue => AV.lst (q.flatMap GValue.cs) q.length) r'2.1)), (10, .i r'2.2)] [] Y Y Y ?_
 refine AW2_seq ?_
 refine bindK H fun g'5 h6 H => ?_
 refine AW2_mid (⟨[(6, .b g'5)], [], 33⟩ : TS) ?_ ?_
 ·clear H
  have H := h6
  clear h6
  refine AW2_reg [0, 1, 2, 3, 4, 5, 6, 7, 8] Y ?_
  refine rp Y Y (p_move Y Y) ?_
  refine rp Y Y (p_move Y Y) ?_
  refine rp Y Y (p_ieq Y Y Y) ?_
  refine rp Y Y (p_move Y Y) ?_
  refine (Classical.em (r'1.2 = r'2.2)).elim (fun h4 => ?_) (fun h4 => ?_)
  ·replace H := ite_then h4 H
   refine r_on Y Y Y Y (dT h4) Y (PureD.opD (p_move Y Y)) ?_
   refine r_on Y Y Y Y (dT h4) Y (PureD.opD (p_move Y Y)) ?_
   refine bindK H fun r'4 h5 H => ?_
   refine r_on Y Y Y Y (dT h4) Y (PureD.opD (p_callp Y Y Y Tryd.func26 Y Y (g_law_sameRow_ac h5) ⟨Y, Y, trivial⟩)) ?_
   refine rp Y Y (p_pkt Y Y (dT h4) (.same _)) ?_
   refine rp Y Y (p_asg Y Y) ?_
   refine rs [(6, .b r'4)] [] Y Y Y ?_
   have hz := some_elim H
   subst hz
   exact RunW_nil rfl
  ·replace H := ite_else h4 H
   refine r_off Y Y Y Y (dF h4) Y Y ?_
   refine r_off Y Y Y Y (dF h4) Y Y ?_
   refine r_off Y Y Y Y (dF h4) Y Y ?_
   refine rp Y Y (p_pkf Y Y (dF h4) (.same _)) ?_
   refine rp Y Y (p_asg Y Y) ?_
   refine rs [(6, .b false)] [] Y Y Y ?_
   have hz := some_elim H
   subst hz
   exact RunW_nil rfl
 ·refine AW2_ret ?_
  have hz := some_elim H
  subst hz
  exact ⟨⟨res_tmp (.same _), trivial⟩, trivial⟩

/-! wire.Tell -/
noncomputable def g_wire_Tell_l0 (r0 : GReply) : Int × (List UInt8) → Option ((Int × (List UInt8)) ⊕ (((List UInt8) × Int) ⊕ ((List UInt8))))
  | (t45_0, out4_0) => (if t45_0 < (r0.Rows.length : Int) then if 0 ≤ t45_0 ∧ t45_0 < (r0.Rows.length : Int) then (g_code_Encode (lrd r0.Rows t45_0.toNat) (0 : Int)).bind fun r'2 => (if r'2.2 ≠ (0 : Int) then some (.inr (.inl (([] : List UInt8), r'2.2))) else if room (out4_0.length + ([UInt8.ofInt ((lrd r0.Rows t45_0.toNat).length : Int), UInt8.ofInt (ishr (r'2.1.length : Int) 8), UInt8.ofInt (r'2.1.length : Int)] : List UInt8).length) 1 then if room ((out4_0 ++ ([UInt8.ofInt ((lrd r0.Rows t45_0.toNat).length : Int), UInt8.ofInt (ishr (r'2.1.length : Int) 8), UInt8.ofInt (r'2.1.length : Int)] : List UInt8)).length + r'2.1.length) 1 then letO ((out4_0 ++ ([UInt8.ofInt ((lrd r0.Rows t45_0.toNat).length : Int), UInt8.ofInt (ishr (r'2.1.length : Int) 8), UInt8.ofInt (r'2.1.length : Int)] : List UInt8)) ++ r'2.1) fun out4'3 => some (.inl (w64 (t45_0 + (1 : Int)), out4'3)) else none else none) else none else some (.inr (.inr out4_0)))
noncomputable def g_wire_Tell (r0 : GReply) : Option ((List UInt8) × Int) :=
  (if (((r0.Error < (0 : Int)) ∨ (r0.Error > (12 : Int))) ∨ (r0.Count < (0 : Int))) ∨ (r0.Count > (64 : Int)) then some (([] : List UInt8), (6 : Int)) else (if (r0.Rows.length : Int) > (64 : Int) then some (([] : List UInt8), (1 : Int)) else letO (([UInt8.ofInt r0.Error, UInt8.ofInt r0.Count, UInt8.ofInt (r0.Rows.length : Int)] : List UInt8)) fun out4'1 => (loopO (g_wire_Tell_l0 r0) ((0 : Int), out4'1)).bind fun o'7 => match o'7 with | .inl y'8 => some y'8 | .inr (y'9) => some (y'9, (0 : Int))))
set_option maxHeartbeats 4000000 in
set_option maxRecDepth 100000 in
theorem g_wire_Tell_ac2 {r0 : GReply} {r : (List UInt8) × Int} (H : g_wire_Tell r0 = some r) : AC2 Tryd.prog 27 (pureT [(.agg (GReply.cs r0))]) [] (retV [.c (.own 2 r.1.length 1), .i r.2]) [(2, .pure (bcells r.1))] := by
 refine AC2_of_body (vs := [.c (.own 2 r.1.length 1), .i r.2]) Tryd.func27 Y Y (Nat.le_of_ble_eq_true Y) Y ?_
 unfold g_wire_Tell at H
 refine as2 [(0, .g (GReply.cs r0))] [] Y Y Y ?_
 refine sg [0, 1, 2] Y ?_
 refine r_op Y Y (MakeD.opD (n_box 1 Y Y) Y Y Y Y) ?_
 refine rp Y Y (p_asgn Y) ?_
 refine rp Y Y (p_asg Y Y) ?_
 refine rz [(1, .q 1 (0))] [(1, .pure (GReply.cs r0))] Y Y Y ?_
 refine AW2_seq ?_
 refine AW2_seq ?_
 refine AW2_mid (⟨[(1, .q 1 (0)), (26, .b (decide ((((r0.Error < (0 : Int)) ∨ (r0.Error > (12 : Int))) ∨ (r0.Count < (0 : Int))) ∨ (r0.Count > (64 : Int)))))], [(1, .pure (GReply.cs r0))], 74⟩ : TS) ?_ ?_
 ·refine AW2_reg [0, 1, 2, 3, 4, 5, 6, 7, 8, 9, 10, 11, 12, 13, 14, 15, 16, 17] Y ?_
  refine rp Y Y (u_fa Y Y Tryd.underlying44 Y in_25 nz Y Y (nl (GReply.len r0))) ?_
  refine rp Y Y (u_ld Y Y Tryd.underlying25 Y Y ((Sub.refl _).trans (GReply.sub0 r0))) ?_
  refine rp Y Y (p_bin Y Y Y Y) ?_
  refine rp Y Y (p_move Y Y) ?_
  refine (Classical.em (r0.Error < (0 : Int))).elim (fun h1 => ?_) (fun h1 => ?_)
  ·refine r_off Y Y Y Y (dT h1) Y Y ?_
   refine r_off Y Y Y Y (dT h1) Y Y ?_
   refine r_off Y Y Y Y (dT h1) Y Y ?_
   refine rp Y Y (p_pkt Y Y (dT h1) (tb (dT (p := (r0.Error < (0 : Int)) ∨ (r0.Error > (12 : Int))) (Or.inl h1)).symm)) ?_
   refine rp Y Y (p_move Y Y) ?_
   refine r_off Y Y Y Y (dT (p := (r0.Error < (0 : Int)) ∨ (r0.Error > (12 : Int))) (Or.inl h1)) Y Y ?_
   refine r_off Y Y Y Y (dT (p := (r0.Error < (0 : Int)) ∨ (r0.Error > (12 : Int))) (Or.inl h1)) Y Y ?_
   refine r_off Y Y Y Y (dT (p := (r0.Error < (0 : Int)) ∨ (r0.Error > (12 : Int))) (Or.inl h1)) Y Y ?_
   refine rp Y Y (p_pkt Y Y (dT (p := (r0.Error < (0 : Int)) ∨ (r0.Error > (12 : Int))) (Or.inl h1)) (tb (dT (p := ((r0.Error < (0 : Int)) ∨ (r0.Error > (12 : Int))) ∨ (r0.Count < (0 : Int))) (Or.inl (Or.inl h1))).symm)) ?_
   refine rp Y Y (p_move Y Y) ?_
   refine r_off Y Y Y Y (dT (p := ((r0.Error < (0 : Int)) ∨ (r0.Error > (12 : Int))) ∨ (r0.Count < (0 : Int))) (Or.inl (Or.inl h1))) Y Y ?_
   refine r_off Y Y Y Y (dT (p := ((r0.Error < (0 : Int)) ∨ (r0.Error > (12 : Int))) ∨ (r0.Count < (0 : Int))) (Or.inl (Or.inl h1))) Y Y ?_
   refine r_off Y Y Y Y (dT (p := ((r0.Error < (0 : Int)) ∨ (r0.Error > (12 : Int))) ∨ (r0.Count < (0 : Int))) (Or.inl (Or.inl h1))) Y Y ?_
   refine rp Y Y (p_pkt Y Y (dT (p := ((r0.Error < (0 : Int)) ∨ (r0.Error > (12 : Int))) ∨ (r0.Count < (0 : Int))) (Or.inl (Or.inl h1))) (tb (dT (p := (((r0.Error < (0 : Int)) ∨ (r0.Error > (12 : Int))) ∨ (r0.Count < (0 : Int))) ∨ (r0.Count > (64 : Int))) (Or.inl (Or.inl (Or.inl h1)))).symm)) ?_
   refine rs [(1, .q 1 (0)), (26, .b (decide ((((r0.Error < (0 : Int)) ∨ (r0.Error > (12 : Int))) ∨ (r0.Count < (0 : Int))) ∨ (r0.Count > (64 : Int)))))] [(1, .pure (GReply.cs r0))] Y Y Y ?_
   exact RunW_nil rfl
  ·refine r_on Y Y Y Y (dF h1) Y (PureD.opD (u_fa Y Y Tryd.underlying44 Y in_25 nz Y Y (nl (GReply.len r0)))) ?_
   refine r_on Y Y Y Y (dF h1) Y (PureD.opD (u_ld Y Y Tryd.underlying25 Y Y ((Sub.refl _).trans (GReply.sub0 r0)))) ?_
   refine r_on Y Y Y Y (dF h1) Y (PureD.opD (p_bin Y Y Y Y)) ?_
   refine rp Y Y (p_pkf Y Y (dF h1) (tb ((or_l (p := r0.Error < (0 : Int)) (q := r0.Error > (12 : Int)) h1)))) ?_
   refine rp Y Y (p_move Y Y) ?_
   refine (Classical.em (r0.Error > (12 : Int))).elim (fun h2 => ?_) (fun h2 => ?_)
   ·refine r_off Y Y Y Y (dT (p := (r0.Error < (0 : Int)) ∨ (r0.Error > (12 : Int))) (Or.inr h2)) Y Y ?_
    refine r_off Y Y Y Y (dT (p := (r0.Error < (0 : Int)) ∨ (r0.Error > (12 : Int))) (Or.inr h2)) Y Y ?_
    refine r_off Y Y Y Y (dT (p := (r0.Error < (0 : Int)) ∨ (r0.Error > (12 : Int))) (Or.inr h2)) Y Y ?_
    refine rp Y Y (p_pkt Y Y (dT (p := (r0.Error < (0 : Int)) ∨ (r0.Error > (12 : Int))) (Or.inr h2)) (tb (dT (p := ((r0.Error < (0 : Int)) ∨ (r0.Error > (12 : Int))) ∨ (r0.Count < (0 : Int))) (Or.inl (Or.inr h2))).symm)) ?_
    refine rp Y Y (p_move Y Y) ?_
    refine r_off Y Y Y Y (dT (p := ((r0.Error < (0 : Int)) ∨ (r0.Error > (12 : Int))) ∨ (r0.Count < (0 : Int))) (Or.inl (Or.inr h2))) Y Y ?_
    refine r_off Y Y Y Y (dT (p := ((r0.Error < (0 : Int)) ∨ (r0.Error > (12 : Int))) ∨ (r0.Count < (0 : Int))) (Or.inl (Or.inr h2))) Y Y ?_
    refine r_off Y Y Y Y (dT (p := ((r0.Error < (0 : Int)) ∨ (r0.Error > (12 : Int))) ∨ (r0.Count < (0 : Int))) (Or.inl (Or.inr h2))) Y Y ?_
    refine rp Y Y (p_pkt Y Y (dT (p := ((r0.Error < (0 : Int)) ∨ (r0.Error > (12 : Int))) ∨ (r0.Count < (0 : Int))) (Or.inl (Or.inr h2))) (tb (dT (p := (((r0.Error < (0 : Int)) ∨ (r0.Error > (12 : Int))) ∨ (r0.Count < (0 : Int))) ∨ (r0.Count > (64 : Int))) (Or.inl (Or.inl (Or.inr h2)))).symm)) ?_
    refine rs [(1, .q 1 (0)), (26, .b (decide ((((r0.Error < (0 : Int)) ∨ (r0.Error > (12 : Int))) ∨ (r0.Count < (0 : Int))) ∨ (r0.Count > (64 : Int)))))] [(1, .pure (GReply.cs r0))] Y Y Y ?_
    exact RunW_nil rfl
   ·refine r_on Y Y Y Y (dF (p := (r0.Error < (0 : Int)) ∨ (r0.Error > (12 : Int))) (not_or.2 ⟨h1, h2⟩)) Y (PureD.opD (u_fa Y Y Tryd.underlying44 Y in_3 nz Y Y (nl (GReply.len r0)))) ?_
    refine r_on Y Y Y Y (dF (p := (r0.Error < (0 : Int)) ∨ (r0.Error > (12 : Int))) (not_or.2 ⟨h1, h2⟩)) Y (PureD.opD (u_ld Y Y Tryd.underlying3 Y Y ((Sub.refl _).trans (GReply.sub1 r0)))) ?_
    refine r_on Y Y Y Y (dF (p := (r0.Error < (0 : Int)) ∨ (r0.Error > (12 : Int))) (not_or.2 ⟨h1, h2⟩)) Y (PureD.opD (p_bin Y Y Y Y)) ?_
    refine rp Y Y (p_pkf Y Y (dF (p := (r0.Error < (0 : Int)) ∨ (r0.Error > (12 : Int))) (not_or.2 ⟨h1, h2⟩)) (tb ((or_l (p := (r0.Error < (0 : Int)) ∨ (r0.Error > (12 : Int))) (q := r0.Count < (0 : Int)) (not_or.2 ⟨h1, h2⟩))))) ?_
    refine rp Y Y (p_move Y Y) ?_
    refine (Classical.em (r0.Count < (0 : Int))).elim (fun h3 => ?_) (fun h3 => ?_)
    ·refine r_off Y Y Y Y (dT (p := ((r0.Error < (0 : Int)) ∨ (r0.Error > (12 : Int))) ∨ (r0.Count < (0 : Int))) (Or.inr h3)) Y Y ?_
     refine r_off Y Y Y Y (dT (p := ((r0.Error < (0 : Int)) ∨ (r0.Error > (12 : Int))) ∨ (r0.Count < (0 : Int))) (Or.inr h3)) Y Y ?_
     refine r_off Y Y Y Y (dT (p := ((r0.Error < (0 : Int)) ∨ (r0.Error > (12 : Int))) ∨ (r0.Count < (0 : Int))) (Or.inr h3)) Y Y ?_
     refine rp Y Y (p_pkt Y Y (dT (p := ((r0.Error < (0 : Int)) ∨ (r0.Error > (12 : Int))) ∨ (r0.Count < (0 : Int))) (Or.inr h3)) (tb (dT (p := (((r0.Error < (0 : Int)) ∨ (r0.Error > (12 : Int))) ∨ (r0.Count < (0 : Int))) ∨ (r0.Count > (64 : Int))) (Or.inl (Or.inr h3))).symm)) ?_
     refine rs [(1, .q 1 (0)), (26, .b (decide ((((r0.Error < (0 : Int)) ∨ (r0.Error > (12 : Int))) ∨ (r0.Count < (0 : Int))) ∨ (r0.Count > (64 : Int)))))] [(1, .pure (GReply.cs r0))] Y Y Y ?_
     exact RunW_nil rfl
    ·refine r_on Y Y Y Y (dF (p := ((r0.Error < (0 : Int)) ∨ (r0.Error > (12 : Int))) ∨ (r0.Count < (0 : Int))) (not_or.2 ⟨(not_or.2 ⟨h1, h2⟩), h3⟩)) Y (PureD.opD (u_fa Y Y Tryd.underlying44 Y in_3 nz Y Y (nl (GReply.len r0)))) ?_
     refine r_on Y Y Y Y (dF (p := ((r0.Error < (0 : Int)) ∨ (r0.Error > (12 : Int))) ∨ (r0.Count < (0 : Int))) (not_or.2 ⟨(not_or.2 ⟨h1, h2⟩), h3⟩)) Y (PureD.opD (u_ld Y Y Tryd.underlying3 Y Y ((Sub.refl _).trans (GReply.sub1 r0)))) ?_
     refine r_on Y Y Y Y (dF (p := ((r0.Error < (0 : Int)) ∨ (r0.Error > (12 : Int))) ∨ (r0.Count < (0 : Int))) (not_or.2 ⟨(not_or.2 ⟨h1, h2⟩), h3⟩)) Y (PureD.opD (p_bin Y Y Y Y)) ?_
     refine rp Y Y (p_pkf Y Y (dF (p := ((r0.Error < (0 : Int)) ∨ (r0.Error > (12 : Int))) ∨ (r0.Count < (0 : Int))) (not_or.2 ⟨(not_or.2 ⟨h1, h2⟩), h3⟩)) (tb ((or_l (p := ((r0.Error < (0 : Int)) ∨ (r0.Error > (12 : Int))) ∨ (r0.Count < (0 : Int))) (q := r0.Count > (64 : Int)) (not_or.2 ⟨(not_or.2 ⟨h1, h2⟩), h3⟩))))) ?_
     refine rs [(1, .q 1 (0)), (26, .b (decide ((((r0.Error < (0 : Int)) ∨ (r0.Error > (12 : Int))) ∨ (r0.Count < (0 : Int))) ∨ (r0.Count > (64 : Int)))))] [(1, .pure (GReply.cs r0))] Y Y Y ?_
     exact RunW_nil rfl
 ·refine AW2_if (p := (((r0.Error < (0 : Int)) ∨ (r0.Error > (12 : Int))) ∨ (r0.Count < (0 : Int))) ∨ (r0.Count > (64 : Int))) Y (fun h4 => ?_) (fun h4 => ?_)
  ·replace H := ite_then h4 H
   refine sg [0, 1] Y ?_
   refine rp Y Y (p_asgn Y) ?_
   refine rp Y Y (p_asg Y Y) ?_
   refine rz [(2, .p .nil), (3, .i (6 : Int))] [] Y Y Y ?_
   refine as2 [(2, .p .nil), (3, .i (6 : Int))] [] Y Y Y ?_
   refine AW2_gho (Gho_own (d := 2) (b := 2) (z := 1) Y Y Y Y) ?_
   refine AW2_st [(2, .c (.own 2 ([] : List UInt8).length 1)), (3, .i (6 : Int))] [(2, .pure (bcells ([] : List UInt8)))] Y ⟨TLes.own Y, TLes.same _, trivial⟩ ⟨Y, trivial⟩ ?_
   refine AW2_ret ?_
   have hz := some_elim H
   subst hz
   exact ⟨⟨res_tmp (.same _), res_tmp (.same _), trivial⟩, ⟨Y, trivial⟩⟩
  ·replace H := ite_else h4 H
   refine as2 [(1, .q 1 (0))] [(1, .pure (GReply.cs r0))] Y Y Y ?_
   refine AW2_skip ?_
   refine AW2_seq ?_
   refine sg [0, 1, 2, 3] Y ?_
   refine rp Y Y (u_fa Y Y Tryd.underlying44 Y in_42 nz Y Y (nl (GReply.len r0))) ?_
   refine rp Y Y (u_ld Y Y Tryd.underlying42 Y Y ((Sub.refl _).trans (GReply.sub2 r0))) ?_
   refine rp Y Y (p_lenl Y Tryd.underlying42 Y Y) ?_
   refine rp Y Y (p_bin Y Y Y Y) ?_
   refine rz [(1, .q 1 (0)), (30, .b (decide ((r0.Rows.length : Int) > (64 : Int))))] [(1, .pure (GReply.cs r0))] Y Y Y ?_
   refine AW2_if (p := (r0.Rows.length : Int) > (64 : Int)) Y (fun h5 => ?_) (fun h5 => ?_)
   ·replace H := ite_then h5 H
    refine sg [0, 1] Y ?_
    refine rp Y Y (p_asgn Y) ?_
    refine rp Y Y (p_asg Y Y) ?_
    refine rz [(2, .p .nil), (3, .i (1 : Int))] [] Y Y Y ?_
    refine as2 [(2, .p .nil), (3, .i (1 : Int))] [] Y Y Y ?_
    refine AW2_gho (Gho_own (d := 2) (b := 2) (z := 1) Y Y Y Y) ?_
    refine AW2_st [(2, .c (.own 2 ([] : List UInt8).length 1)), (3, .i (1 : Int))] [(2, .pure (bcells ([] : List UInt8)))] Y ⟨TLes.own Y, TLes.same _, trivial⟩ ⟨Y, trivial⟩ ?_
    refine AW2_ret ?_
    have hz := some_elim H
    subst hz
    exact ⟨⟨res_tmp (.same _), res_tmp (.same _), trivial⟩, ⟨Y, trivial⟩⟩
   ·replace H := ite_else h5 H
    refine as2 [(1, .q 1 (0))] [(1, .pure (GReply.cs r0))] Y Y Y ?_
    refine AW2_skip ?_
    refine sg [0, 1, 2, 3, 4, 5, 6, 7, 8, 9, 10, 11] Y ?_
    refine rp Y Y (u_fa Y Y Tryd.underlying44 Y in_25 nz Y Y (nl (GReply.len r0))) ?_
    refine rp Y Y (u_ld Y Y Tryd.underlying25 Y Y ((Sub.refl _).trans (GReply.sub0 r0))) ?_
    refine rp Y Y (p_i_u8 Y Tryd.underlying25 Tryd.underlying5 Y) ?_
    refine rp Y Y (u_fa Y Y Tryd.underlying44 Y in_3 nz Y Y (nl (GReply.len r0))) ?_
    refine rp Y Y (u_ld Y Y Tryd.underlying3 Y Y ((Sub.refl _).trans (GReply.sub1 r0))) ?_
    refine rp Y Y (p_i_u8 Y Tryd.underlying3 Tryd.underlying5 Y) ?_
    refine rp Y Y (u_fa Y Y Tryd.underlying44 Y in_42 nz Y Y (nl (GReply.len r0))) ?_
    refine rp Y Y (u_ld Y Y Tryd.underlying42 Y Y ((Sub.refl _).trans (GReply.sub2 r0))) ?_
    refine rp Y Y (p_lenl Y Tryd.underlying42 Y Y) ?_
    refine rp Y Y (p_i_u8 Y Tryd.underlying3 Tryd.underlying5 Y) ?_
    refine r_op Y Y (MakeD.opD (u_bs 41 Y Tryd.underlying33 in_5 Y one_5 (by decide) (by decide) Y Y Y) Y Y Y Y) ?_
    refine rp Y Y (p_asg Y Y) ?_
    refine RunW_st [(1, .q 1 (0)), (4, .c (.own 41 ([UInt8.ofInt r0.Error, UInt8.ofInt r0.Count, UInt8.ofInt (r0.Rows.length : Int)] : List UInt8).length 1))] [(1, .pure (GReply.cs r0)), (41, .pure (bcells ([UInt8.ofInt r0.Error, UInt8.ofInt r0.Count, UInt8.ofInt (r0.Rows.length : Int)] : List UInt8)))] Y ⟨TLes.same _, TLes.own Y, trivial⟩ ⟨Y, Y, trivial⟩ ?_
    refine RunW_gho (Gho_ren 41 4 Y Y Y Y Y) ?_
    refine rz [(1, .q 1 (0)), (4, .c (.own 4 ([UInt8.ofInt r0.Error, UInt8.ofInt r0.Count, UInt8.ofInt (r0.Rows.length : Int)] : List UInt8).length 1))] [(1, .pure (GReply.cs r0)), (4, .pure (bcells ([UInt8.ofInt r0.Error, UInt8.ofInt r0.Count, UInt8.ofInt (r0.Rows.length : Int)] : List UInt8)))] Y Y Y ?_
    refine gen1 (fun out4'1 => (⟨[(1, .q 1 (0)), (4, .c (.own 4 out4'1.length 1))], [(1, .pure (GReply.cs r0)), (4, .pure (bcells out4'1))], 74⟩ : TS)) H ?_
    intro out4'1 H
    refine AW2_seq ?_
    refine sg [0, 1, 2, 3] Y ?_
    refine rp Y Y (u_fa Y Y Tryd.underlying44 Y in_42 nz Y Y (nl (GReply.len r0))) ?_
    refine rp Y Y (u_ld Y Y Tryd.underlying42 Y Y ((Sub.refl _).trans (GReply.sub2 r0))) ?_
    refine rp Y Y (p_lenl Y Tryd.underlying42 Y Y) ?_
    refine rp Y Y (p_move Y Y) ?_
    refine rz [(4, .c (.own 4 out4'1.length 1)), (43, .p ((fun q : List (List GValue) => AV.lst (q.map (fun q : List GValue => AV.lst (q.flatMap GValue.cs) q.length)) q.length) r0.Rows)), (44, .i (r0.Rows.length : Int)), (45, .i (0 : Int))] [(4, .pure (bcells out4'1))] Y Y Y ?_
    refine AW2_block ?_
    refine as2 [(4, .c (.own 4 out4'1.length 1)), (43, .p ((fun q : List (List GValue) => AV.lst (q.map (fun q : List GValue => AV.lst (q.flatMap GValue.cs) q.length)) q.length) r0.Rows)), (44, .i (r0.Rows.length : Int)), (45, .i (0 : Int))] [(4, .pure (bcells out4'1))] Y Y Y ?_
    refine bindK H fun o'7 h12 H => ?_
    refine AW2_loopO (fun a'4 : Int × (List UInt8) => (⟨[(4, .c (.own 4 a'4.2.length 1)), (43, .p ((fun q : List (List GValue) => AV.lst (q.map (fun q : List GValue => AV.lst (q.flatMap GValue.cs) q.length)) q.length) r0.Rows)), (44, .i (r0.Rows.length : Int)), (45, .i a'4.1)], [(4, .pure (bcells a'4.2))], 74⟩ : TS)) (fun (o : ((List UInt8) × Int) ⊕ ((List UInt8))) e s' => match o with | .inl y'5 => e = Go.Exit.ret ∧ ResAll Tryd.prog s' [ResultVar.tmp 2, ResultVar.tmp 3] [.c (.own 2 y'5.1.length 1), .i y'5.2] ∧ HFits s' [(2, .pure (bcells y'5.1))] | .inr (y'6) => e = Go.Exit.exit 0 ∧ s' = (⟨[(4, .c (.own 4 y'6.length 1))], [(4, .pure (bcells y'6))], 74⟩ : TS)) h12 Y (fun a x hx => ?_) (fun e s' hs => ?_)
    ·clear H
     obtain ⟨t45_0, out4_0⟩ := a
     have H := hx
     clear hx
     unfold g_wire_Tell_l0 at H
     refine sg [0] Y ?_
     refine rp Y Y (p_bin Y Y Y Y) ?_
     refine rz [(4, .c (.own 4 out4_0.length 1)), (43, .p ((fun q : List (List GValue) => AV.lst (q.map (fun q : List GValue => AV.lst (q.flatMap GValue.cs) q.length)) q.length) r0.Rows)), (44, .i (r0.Rows.length : Int)), (45, .i t45_0), (46, .b (decide (t45_0 < (r0.Rows.length : Int))))] [(4, .pure (bcells out4_0))] Y Y Y ?_
     refine AW2_seq ?_
     refine AW2_if (p := t45_0 < (r0.Rows.length : Int)) Y (fun h6 => ?_) (fun h6 => ?_)
     ·replace H := ite_then h6 H
      refine as2 [(4, .c (.own 4 out4_0.length 1)), (43, .p ((fun q : List (List GValue) => AV.lst (q.map (fun q : List GValue => AV.lst (q.flatMap GValue.cs) q.length)) q.length) r0.Rows)), (44, .i (r0.Rows.length : Int)), (45, .i t45_0)] [(4, .pure (bcells out4_0))] Y Y Y ?_
      refine AW2_skip ?_
      refine AW2_seq ?_
      refine AW2_block ?_
      refine sg [0, 1, 2] Y ?_
      refine chkK H fun h7 H => ?_
      refine rp Y Y (u_ixl Y Y Tryd.underlying42 in_32 Y Y (ixe h7) (ixn h7) (lne (ixn h7))) ?_
      refine rp Y Y (u_ld Y Y Tryd.underlying32 Y Y (Sub.map default (ixn h7))) ?_
      refine rp Y Y (p_asg Y Y) ?_
      refine rz [(4, .c (.own 4 out4_0.length 1)), (6, .p ((fun q : List GValue => AV.lst (q.flatMap GValue.cs) q.length) (lrd r0.Rows t45_0.toNat))), (43, .p ((fun q : List (List GValue) => AV.lst (q.map (fun q : List GValue => AV.lst (q.flatMap GValue.cs) q.length)) q.length) r0.Rows)), (44, .i (r0.Rows.length : Int)), (45, .i t45_0)] [(4, .pure (bcells out4_0))] Y Y Y ?_
      refine sg [0, 1, 2, 3, 4, 5, 6] Y ?_
      refine rp Y Y (p_move Y Y) ?_
      refine bindK H fun r'2 h8 H => ?_
      refine rp Y Y (p_callp Y Y Y Tryd.func21 Y Y (g_code_Encode_ac h8) ⟨Y, Y, trivial⟩) ?_
      refine rp Y Y (p_move Y Y) ?_
      refine rp Y Y (p_ext Y Y Y Y) ?_
      refine rp Y Y (p_ext Y Y Y Y) ?_
      refine rp Y Y (p_asg Y Y) ?_
      refine rp Y Y (p_asg Y Y) ?_
      refine rz [(4, .c (.own 4 out4_0.length 1)), (6, .p ((fun q : List GValue => AV.lst (q.flatMap GValue.cs) q.length) (lrd r0.Rows t45_0.toNat))), (7, .y r'2.1), (8, .i r'2.2), (43, .p ((fun q : List (List GValue) => AV.lst (q.map (fun q : List GValue => AV.lst (q.flatMap GValue.cs) q.length)) q.length) r0.Rows)), (44, .i (r0.Rows.length : Int)), (45, .i t45_0)] [(4, .pure (bcells out4_0))] Y Y Y ?_
      refine AW2_seq ?_
      refine sg [0, 1] Y ?_
      refine rp Y Y (p_move Y Y) ?_
      refine rp Y Y (p_ine Y Y Y) ?_
      refine rz [(4, .c (.own 4 out4_0.length 1)), (6, .p ((fun q : List GValue => AV.lst (q.flatMap GValue.cs) q.length) (lrd r0.Rows t45_0.toNat))), (7, .y r'2.1), (8, .i r'2.2), (43, .p ((fun q : List (List GValue) => AV.lst (q.map (fun q : List GValue => AV.lst (q.flatMap GValue.cs) q.length)) q.length) r0.Rows)), (44, .i (r0.Rows.length : Int)), (45, .i t45_0), (55, .b (decide (r'2.2 ≠ (0 : Int))))] [(4, .pure (bcells out4_0))] Y Y Y ?_
      refine AW2_if (p := r'2.2 ≠ (0 : Int)) Y (fun h9 => ?_) (fun h9 => ?_)
      ·replace H := ite_then h9 H
       refine sg [0, 1, 2] Y ?_
       refine rp Y Y (p_move Y Y) ?_
       refine rp Y Y (p_asgn Y) ?_
       refine rp Y Y (p_asg Y Y) ?_
       refine rz [(2, .p .nil), (3, .i r'2.2)] [] Y Y Y ?_
       refine as2 [(2, .p .nil), (3, .i r'2.2)] [] Y Y Y ?_
       refine AW2_gho (Gho_own (d := 2) (b := 2) (z := 1) Y Y Y Y) ?_
       refine AW2_st [(2, .c (.own 2 ([] : List UInt8).length 1)), (3, .i r'2.2)] [(2, .pure (bcells ([] : List UInt8)))] Y ⟨TLes.own Y, TLes.same _, trivial⟩ ⟨Y, trivial⟩ ?_
       refine AW2_ret ?_
       have hz := some_elim H
       subst hz
       exact ⟨Y, ⟨res_tmp (.same _), res_tmp (.same _), trivial⟩, ⟨Y, trivial⟩⟩
      ·replace H := ite_else h9 H
       refine as2 [(4, .c (.own 4 out4_0.length 1)), (6, .p ((fun q : List GValue => AV.lst (q.flatMap GValue.cs) q.length) (lrd r0.Rows t45_0.toNat))), (7, .y r'2.1), (43, .p ((fun q : List (List GValue) => AV.lst (q.map (fun q : List GValue => AV.lst (q.flatMap GValue.cs) q.length)) q.length) r0.Rows)), (44, .i (r0.Rows.length : Int)), (45, .i t45_0)] [(4, .pure (bcells out4_0))] Y Y Y ?_
       refine AW2_skip ?_
       refine AW2_reg [0, 1, 2, 3, 4, 5, 6, 7, 8, 9, 10, 11, 12, 13, 14, 15] Y ?_
       refine rp Y Y (p_move Y Y) ?_
       refine rp Y Y (p_move Y Y) ?_
       refine rp Y Y (p_lenl Y Tryd.underlying32 Y Y) ?_
       refine rp Y Y (p_i_u8 Y Tryd.underlying3 Tryd.underlying5 Y) ?_
       refine rp Y Y (p_move Y Y) ?_
       refine rp Y Y (p_lenl Y Tryd.underlying33 Y Y) ?_
       refine rp Y Y (p_ishr (n := 8) Y Y Y Y) ?_
       refine rp Y Y (p_i_u8 Y Tryd.underlying3 Tryd.underlying5 Y) ?_
       refine rp Y Y (p_move Y Y) ?_
       refine rp Y Y (p_lenl Y Tryd.underlying33 Y Y) ?_
       refine rp Y Y (p_i_u8 Y Tryd.underlying3 Tryd.underlying5 Y) ?_
       refine r_op Y Y (MakeD.opD (u_bs 68 Y Tryd.underlying33 in_5 Y one_5 (by decide) (by decide) Y Y Y) Y Y Y Y) ?_
       refine chkK H fun h10 H => ?_
       refine r_op Y Y (u_app [4, 57] Y Y Y Y Tryd.underlying33 Tryd.underlying33 in_5 Y Y Y (bl out4_0) (by decide) (srcT_o Y Y (bl ([UInt8.ofInt ((lrd r0.Rows t45_0.toNat).length : Int), UInt8.ofInt (ishr (r'2.1.length : Int) 8), UInt8.ofInt (r'2.1.length : Int)] : List UInt8)) (by decide)) (bl ([UInt8.ofInt ((lrd r0.Rows t45_0.toNat).length : Int), UInt8.ofInt (ishr (r'2.1.length : Int) 8), UInt8.ofInt (r'2.1.length : Int)] : List UInt8)) h10 (by decide) Y Y (bapp out4_0 ([UInt8.ofInt ((lrd r0.Rows t45_0.toNat).length : Int), UInt8.ofInt (ishr (r'2.1.length : Int) 8), UInt8.ofInt (r'2.1.length : Int)] : List UInt8)) (lapp out4_0 ([UInt8.ofInt ((lrd r0.Rows t45_0.toNat).length : Int), UInt8.ofInt (ishr (r'2.1.length : Int) 8), UInt8.ofInt (r'2.1.length : Int)] : List UInt8))) ?_
       refine rp Y Y (p_move Y Y) ?_
       refine chkK H fun h11 H => ?_
       refine r_op Y Y (u_app [69] Y Y Y Y Tryd.underlying33 Tryd.underlying33 in_5 Y Y Y (bl (out4_0 ++ ([UInt8.ofInt ((lrd r0.Rows t45_0.toNat).length : Int), UInt8.ofInt (ishr (r'2.1.length : Int) 8), UInt8.ofInt (r'2.1.length : Int)] : List UInt8))) (by decide) Y (bl r'2.1) h11 (by decide) Y Y (bapp (out4_0 ++ ([UInt8.ofInt ((lrd r0.Rows t45_0.toNat).length : Int), UInt8.ofInt (ishr (r'2.1.length : Int) 8), UInt8.ofInt (r'2.1.length : Int)] : List UInt8)) r'2.1) (lapp (out4_0 ++ ([UInt8.ofInt ((lrd r0.Rows t45_0.toNat).length : Int), UInt8.ofInt (ishr (r'2.1.length : Int) 8), UInt8.ofInt (r'2.1.length : Int)] : List UInt8)) r'2.1)) ?_
       refine rp Y Y (p_asg Y Y) ?_
       refine rz [(4, .c (.own 4 ((out4_0 ++ ([UInt8.ofInt ((lrd r0.Rows t45_0.toNat).length : Int), UInt8.ofInt (ishr (r'2.1.length : Int) 8), UInt8.ofInt (r'2.1.length : Int)] : List UInt8)) ++ r'2.1).length 1)), (43, .p ((fun q : List (List GValue) => AV.lst (q.map (fun q : List GValue => AV.lst (q.flatMap GValue.cs) q.length)) q.length) r0.Rows)), (44, .i (r0.Rows.length : Int)), (45, .i t45_0)] [(4, .pure (bcells ((out4_0 ++ ([UInt8.ofInt ((lrd r0.Rows t45_0.toNat).length : Int), UInt8.ofInt (ishr (r'2.1.length : Int) 8), UInt8.ofInt (r'2.1.length : Int)] : List UInt8)) ++ r'2.1)))] Y Y Y ?_
       refine gen1 (fun out4'3 => (⟨[(4, .c (.own 4 out4'3.length 1)), (43, .p ((fun q : List (List GValue) => AV.lst (q.map (fun q : List GValue => AV.lst (q.flatMap GValue.cs) q.length)) q.length) r0.Rows)), (44, .i (r0.Rows.length : Int)), (45, .i t45_0)], [(4, .pure (bcells out4'3))], 74⟩ : TS)) H ?_
       intro out4'3 H
       refine AW2_reg [0, 1] Y ?_
       refine rp Y Y (p_bin Y Y Y Y) ?_
       refine rp Y Y (p_move Y Y) ?_
       refine rz [(4, .c (.own 4 out4'3.length 1)), (43, .p ((fun q : List (List GValue) => AV.lst (q.map (fun q : List GValue => AV.lst (q.flatMap GValue.cs) q.length)) q.length) r0.Rows)), (44, .i (r0.Rows.length : Int)), (45, .i (w64 (t45_0 + (1 : Int))))] [(4, .pure (bcells out4'3))] Y Y Y ?_
       have hz := some_elim H
       subst hz
       exact ⟨Y, Y⟩
     ·replace H := ite_else h6 H
      refine as2 [(4, .c (.own 4 out4_0.length 1))] [(4, .pure (bcells out4_0))] Y Y Y ?_
      refine AW2_exit ?_
      refine thenQ2_exit ?_
      have hz := some_elim H
      subst hz
      exact ⟨Y, Y⟩
    ·rcases o'7 with y'8 | y'9
     ·obtain ⟨rfl, hs⟩ := hs
      refine ⟨by simp, ?_⟩
      have hz := some_elim H
      subst hz
      exact ⟨hs.1, hs.2⟩
     ·obtain ⟨rfl, rfl⟩ := hs
      refine ⟨by simp, ?_⟩
      refine blockQ2_exit ?_
      refine sg [0, 1, 2] Y ?_
      refine rp Y Y (p_move Y Y) ?_
      refine rp Y Y (p_asg Y Y) ?_
      refine rp Y Y (p_asg Y Y) ?_
      refine rs [(2, .c (.own 4 y'9.length 1)), (3, .i (0 : Int))] [(4, .pure (bcells y'9))] Y Y Y ?_
      refine RunW_gho (Gho_ren 4 2 Y Y Y Y Y) ?_
      refine rz [(2, .c (.own 2 y'9.length 1)), (3, .i (0 : Int))] [(2, .pure (bcells y'9))] Y Y Y ?_
      refine as2 [(2, .c (.own 2 y'9.length 1)), (3, .i (0 : Int))] [(2, .pure (bcells y'9))] Y Y Y ?_
      refine AW2_ret ?_
      have hz := some_elim H
      subst hz
      exact ⟨⟨res_tmp (.same _), res_tmp (.same _), trivial⟩, ⟨Y, trivial⟩⟩
theorem g_wire_Tell_ac {r0 : GReply} {r : (List UInt8) × Int} (H : g_wire_Tell r0 = some r) : ACp Tryd.prog 27 [(.agg (GReply.cs r0))] (.tup [(AV.bytes r.1), (AV.int r.2)]) := ACp_pub (g_wire_Tell_ac2 H) (fun _ _ hm => lent_tup ⟨lent_own hm rfl (bl r.1) (by decide), .same _, trivial⟩)

/-! chirographref.ToldBytes -/
def g_ref_ToldBytes_r5 : List (List (Nat × Option Nat)) := [[(1, none)], [(31, some 0)], [(32, some 1)], [(33, some 2)], [(1, none)], [(35, some 4)], [(36, some 5)], [(37, some 6)], [(34, some 3), (38, some 7)], [(1, none)], [(40, some 9)], [(41, some 10)], [(42, some 11)], [(43, some 12)]]
def g_ref_ToldBytes_r5c : List (List Nat) := [[], [0], [0, 1], [0, 1, 2], [], [4], [4, 5], [0, 1, 2, 3, 4, 5, 6], [0, 1, 2, 3, 4, 5, 6, 7], [], [9], [9, 10], [9, 10, 11], [0, 1, 2, 3, 4, 5, 6, 7, 9, 10, 11, 12], [0, 1, 2, 3, 4, 5, 6, 7, 8, 9, 10, 11, 12, 13], [0, 1, 2, 3, 4, 5, 6, 7, 8, 9, 10, 11, 12, 13, 14]]
def g_ref_ToldBytes_r12 : List (List (Nat × Option Nat)) := [[(4, none)], [(6, none)], [(62, some 1)], [(63, some 2)], [(64, some 3)], [(7, none)], [(66, some 5)], [(67, some 6)], [(68, some 7)], [(65, some 4), (69, some 8)], [(7, none)], [(71, some 10)], [(70, some 9), (72, some 11)]]
def g_ref_ToldBytes_r12c : List (List Nat) := [[], [], [1], [1, 2], [1, 2, 3], [], [5], [5, 6], [1, 2, 3, 4, 5, 6, 7], [1, 2, 3, 4, 5, 6, 7, 8], [], [10], [1, 2, 3, 4, 5, 6, 7, 8, 9, 10, 11], [0, 1, 2, 3, 4, 5, 6, 7, 8, 9, 10, 11, 12], [0, 1, 2, 3, 4, 5, 6, 7, 8, 9, 10, 11, 12, 13]]
noncomputable def g_ref_ToldBytes_l0 (r0 : GReply) : (List UInt8) × Int → Option (((List UInt8) × Int) ⊕ (((List UInt8) × Int) ⊕ ((List UInt8))))
  | (s4_0, t49_0) => (if t49_0 < (r0.Rows.length : Int) then if 0 ≤ t49_0 ∧ t49_0 < (r0.Rows.length : Int) then (g_ref_RowBytes (lrd r0.Rows t49_0.toNat) (0 : Int)).bind fun r'4 => (if r'4.2 ≠ (0 : Int) then some (.inr (.inl (([] : List UInt8), r'4.2))) else (g_ref_big (UInt64.ofInt ((lrd r0.Rows t49_0.toNat).length : Int)) (1 : Int)).bind fun r'5 => (g_ref_big (UInt64.ofInt (r'4.1.length : Int)) (2 : Int)).bind fun r'6 => if r'5.length + r'6.length ≤ 9223372036854775807 then if (r'5 ++ r'6).length + r'4.1.length ≤ 9223372036854775807 then if s4_0.length + ((r'5 ++ r'6) ++ r'4.1).length ≤ 9223372036854775807 then some (.inl (s4_0 ++ ((r'5 ++ r'6) ++ r'4.1), w64 (t49_0 + (1 : Int)))) else none else none else none) else none else some (.inr (.inr s4_0)))
noncomputable def g_ref_ToldBytes (r0 : GReply) : Option ((List UInt8) × Int) :=
  (if (((r0.Error < (0 : Int)) ∨ (r0.Error > (12 : Int))) ∨ (r0.Count < (0 : Int))) ∨ (r0.Count > (64 : Int)) then some (([] : List UInt8), (6 : Int)) else (if (r0.Rows.length : Int) > (64 : Int) then some (([] : List UInt8), (1 : Int)) else (g_ref_big (UInt64.ofInt r0.Error) (1 : Int)).bind fun r'1 => (g_ref_big (UInt64.ofInt r0.Count) (1 : Int)).bind fun r'2 => if r'1.length + r'2.length ≤ 9223372036854775807 then (g_ref_big (UInt64.ofInt (r0.Rows.length : Int)) (1 : Int)).bind fun r'3 => if (r'1 ++ r'2).length + r'3.length ≤ 9223372036854775807 then (loopO (g_ref_ToldBytes_l0 r0) ((r'1 ++ r'2) ++ r'3, (0 : Int))).bind fun o'10 => match o'10 with | .inl y'11 => some y'11 | .inr (y'12) => some (y'12, (0 : Int)) else none else none))
set_option maxHeartbeats 4000000 in
set_option maxRecDepth 100000 in
theorem g_ref_ToldBytes_ac2 {r0 : GReply} {r : (List UInt8) × Int} (H : g_ref_ToldBytes r0 = some r) : AC2 Tryd.prog 28 (pureT [(.agg (GReply.cs r0))]) [] (retV [.c (.own 2 r.1.length 1), .i r.2]) [(2, .pure (bcells r.1))] := by
 refine AC2_of_body (vs := [.c (.own 2 r.1.length 1), .i r.2]) Tryd.func28 Y Y (Nat.le_of_ble_eq_true Y) Y ?_
 unfold g_ref_ToldBytes at H
 refine as2 [(0, .g (GReply.cs r0))] [] Y Y Y ?_
 refine sg [0, 1, 2] Y ?_
 refine r_op Y Y (MakeD.opD (n_box 1 Y Y) Y Y Y Y) ?_
 refine rp Y Y (p_asgn Y) ?_
 refine rp Y Y (p_asg Y Y) ?_
 refine rz [(1, .q 1 (0))] [(1, .pure (GReply.cs r0))] Y Y Y ?_
 refine AW2_seq ?_
 refine AW2_seq ?_
 refine AW2_mid (⟨[(1, .q 1 (0)), (26, .b (decide ((((r0.Error < (0 : Int)) ∨ (r0.Error > (12 : Int))) ∨ (r0.Count < (0 : Int))) ∨ (r0.Count > (64 : Int)))))], [(1, .pure (GReply.cs r0))], 78⟩ : TS) ?_ ?_
 ·refine AW2_reg [0, 1, 2, 3, 4, 5, 6, 7, 8, 9, 10, 11, 12, 13, 14, 15, 16, 17] Y ?_
  refine rp Y Y (u_fa Y Y Tryd.underlying44 Y in_25 nz Y Y (nl (GReply.len r0))) ?_
  refine rp Y Y (u_ld Y Y Tryd.underlying25 Y Y ((Sub.refl _).trans (GReply.sub0 r0))) ?_
  refine rp Y Y (p_bin Y Y Y Y) ?_
  refine rp Y Y (p_move Y Y) ?_
  refine (Classical.em (r0.Error < (0 : Int))).elim (fun h1 => ?_) (fun h1 => ?_)
  ·refine r_off Y Y Y Y (dT h1) Y Y ?_
   refine r_off Y Y Y Y (dT h1) Y Y ?_
   refine r_off Y Y Y Y (dT h1) Y Y ?_
   refine rp Y Y (p_pkt Y Y (dT h1) (tb (dT (p := (r0.Error < (0 : Int)) ∨ (r0.Error > (12 : Int))) (Or.inl h1)).symm)) ?_
   refine rp Y Y (p_move Y Y) ?_
   refine r_off Y Y Y Y (dT (p := (r0.Error < (0 : Int)) ∨ (r0.Error > (12 : Int))) (Or.inl h1)) Y Y ?_
   refine r_off Y Y Y Y (dT (p := (r0.Error < (0 : Int)) ∨ (r0.Error > (12 : Int))) (Or.inl h1)) Y Y ?_
   refine r_off Y Y Y Y (dT (p := (r0.Error < (0 : Int)) ∨ (r0.Error > (12 : Int))) (Or.inl h1)) Y Y ?_
   refine rp Y Y (p_pkt Y Y (dT (p := (r0.Error < (0 : Int)) ∨ (r0.Error > (12 : Int))) (Or.inl h1)) (tb (dT (p := ((r0.Error < (0 : Int)) ∨ (r0.Error > (12 : Int))) ∨ (r0.Count < (0 : Int))) (Or.inl (Or.inl h1))).symm)) ?_
   refine rp Y Y (p_move Y Y) ?_
   refine r_off Y Y Y Y (dT (p := ((r0.Error < (0 : Int)) ∨ (r0.Error > (12 : Int))) ∨ (r0.Count < (0 : Int))) (Or.inl (Or.inl h1))) Y Y ?_
   refine r_off Y Y Y Y (dT (p := ((r0.Error < (0 : Int)) ∨ (r0.Error > (12 : Int))) ∨ (r0.Count < (0 : Int))) (Or.inl (Or.inl h1))) Y Y ?_
   refine r_off Y Y Y Y (dT (p := ((r0.Error < (0 : Int)) ∨ (r0.Error > (12 : Int))) ∨ (r0.Count < (0 : Int))) (Or.inl (Or.inl h1))) Y Y ?_
   refine rp Y Y (p_pkt Y Y (dT (p := ((r0.Error < (0 : Int)) ∨ (r0.Error > (12 : Int))) ∨ (r0.Count < (0 : Int))) (Or.inl (Or.inl h1))) (tb (dT (p := (((r0.Error < (0 : Int)) ∨ (r0.Error > (12 : Int))) ∨ (r0.Count < (0 : Int))) ∨ (r0.Count > (64 : Int))) (Or.inl (Or.inl (Or.inl h1)))).symm)) ?_
   refine rs [(1, .q 1 (0)), (26, .b (decide ((((r0.Error < (0 : Int)) ∨ (r0.Error > (12 : Int))) ∨ (r0.Count < (0 : Int))) ∨ (r0.Count > (64 : Int)))))] [(1, .pure (GReply.cs r0))] Y Y Y ?_
   exact RunW_nil rfl
  ·refine r_on Y Y Y Y (dF h1) Y (PureD.opD (u_fa Y Y Tryd.underlying44 Y in_25 nz Y Y (nl (GReply.len r0)))) ?_
   refine r_on Y Y Y Y (dF h1) Y (PureD.opD (u_ld Y Y Tryd.underlying25 Y Y ((Sub.refl _).trans (GReply.sub0 r0)))) ?_
   refine r_on Y Y Y Y (dF h1) Y (PureD.opD (p_bin Y Y Y Y)) ?_
   refine rp Y Y (p_pkf Y Y (dF h1) (tb ((or_l (p := r0.Error < (0 : Int)) (q := r0.Error > (12 : Int)) h1)))) ?_
   refine rp Y Y (p_move Y Y) ?_
   refine (Classical.em (r0.Error > (12 : Int))).elim (fun h2 => ?_) (fun h2 => ?_)
   ·refine r_off Y Y Y Y (dT (p := (r0.Error < (0 : Int)) ∨ (r0.Error > (12 : Int))) (Or.inr h2)) Y Y ?_
    refine r_off Y Y Y Y (dT (p := (r0.Error < (0 : Int)) ∨ (r0.Error > (12 : Int))) (Or.inr h2)) Y Y ?_
    refine r_off Y Y Y Y (dT (p := (r0.Error < (0 : Int)) ∨ (r0.Error > (12 : Int))) (Or.inr h2)) Y Y ?_
    refine rp Y Y (p_pkt Y Y (dT (p := (r0.Error < (0 : Int)) ∨ (r0.Error > (12 : Int))) (Or.inr h2)) (tb (dT (p := ((r0.Error < (0 : Int)) ∨ (r0.Error > (12 : Int))) ∨ (r0.Count < (0 : Int))) (Or.inl (Or.inr h2))).symm)) ?_
    refine rp Y Y (p_move Y Y) ?_
    refine r_off Y Y Y Y (dT (p := ((r0.Error < (0 : Int)) ∨ (r0.Error > (12 : Int))) ∨ (r0.Count < (0 : Int))) (Or.inl (Or.inr h2))) Y Y ?_
    refine r_off Y Y Y Y (dT (p := ((r0.Error < (0 : Int)) ∨ (r0.Error > (12 : Int))) ∨ (r0.Count < (0 : Int))) (Or.inl (Or.inr h2))) Y Y ?_
    refine r_off Y Y Y Y (dT (p := ((r0.Error < (0 : Int)) ∨ (r0.Error > (12 : Int))) ∨ (r0.Count < (0 : Int))) (Or.inl (Or.inr h2))) Y Y ?_
    refine rp Y Y (p_pkt Y Y (dT (p := ((r0.Error < (0 : Int)) ∨ (r0.Error > (12 : Int))) ∨ (r0.Count < (0 : Int))) (Or.inl (Or.inr h2))) (tb (dT (p := (((r0.Error < (0 : Int)) ∨ (r0.Error > (12 : Int))) ∨ (r0.Count < (0 : Int))) ∨ (r0.Count > (64 : Int))) (Or.inl (Or.inl (Or.inr h2)))).symm)) ?_
    refine rs [(1, .q 1 (0)), (26, .b (decide ((((r0.Error < (0 : Int)) ∨ (r0.Error > (12 : Int))) ∨ (r0.Count < (0 : Int))) ∨ (r0.Count > (64 : Int)))))] [(1, .pure (GReply.cs r0))] Y Y Y ?_
    exact RunW_nil rfl
   ·refine r_on Y Y Y Y (dF (p := (r0.Error < (0 : Int)) ∨ (r0.Error > (12 : Int))) (not_or.2 ⟨h1, h2⟩)) Y (PureD.opD (u_fa Y Y Tryd.underlying44 Y in_3 nz Y Y (nl (GReply.len r0)))) ?_
    refine r_on Y Y Y Y (dF (p := (r0.Error < (0 : Int)) ∨ (r0.Error > (12 : Int))) (not_or.2 ⟨h1, h2⟩)) Y (PureD.opD (u_ld Y Y Tryd.underlying3 Y Y ((Sub.refl _).trans (GReply.sub1 r0)))) ?_
    refine r_on Y Y Y Y (dF (p := (r0.Error < (0 : Int)) ∨ (r0.Error > (12 : Int))) (not_or.2 ⟨h1, h2⟩)) Y (PureD.opD (p_bin Y Y Y Y)) ?_
    refine rp Y Y (p_pkf Y Y (dF (p := (r0.Error < (0 : Int)) ∨ (r0.Error > (12 : Int))) (not_or.2 ⟨h1, h2⟩)) (tb ((or_l (p := (r0.Error < (0 : Int)) ∨ (r0.Error > (12 : Int))) (q := r0.Count < (0 : Int)) (not_or.2 ⟨h1, h2⟩))))) ?_
    refine rp Y Y (p_move Y Y) ?_
    refine (Classical.em (r0.Count < (0 : Int))).elim (fun h3 => ?_) (fun h3 => ?_)
    ·refine r_off Y Y Y Y (dT (p := ((r0.Error < (0 : Int)) ∨ (r0.Error > (12 : Int))) ∨ (r0.Count < (0 : Int))) (Or.inr h3)) Y Y ?_
     refine r_off Y Y Y Y (dT (p := ((r0.Error < (0 : Int)) ∨ (r0.Error > (12 : Int))) ∨ (r0.Count < (0 : Int))) (Or.inr h3)) Y Y ?_
     refine r_off Y Y Y Y (dT (p := ((r0.Error < (0 : Int)) ∨ (r0.Error > (12 : Int))) ∨ (r0.Count < (0 : Int))) (Or.inr h3)) Y Y ?_
     refine rp Y Y (p_pkt Y Y (dT (p := ((r0.Error < (0 : Int)) ∨ (r0.Error > (12 : Int))) ∨ (r0.Count < (0 : Int))) (Or.inr h3)) (tb (dT (p := (((r0.Error < (0 : Int)) ∨ (r0.Error > (12 : Int))) ∨ (r0.Count < (0 : Int))) ∨ (r0.Count > (64 : Int))) (Or.inl (Or.inr h3))).symm)) ?_
     refine rs [(1, .q 1 (0)), (26, .b (decide ((((r0.Error < (0 : Int)) ∨ (r0.Error > (12 : Int))) ∨ (r0.Count < (0 : Int))) ∨ (r0.Count > (64 : Int)))))] [(1, .pure (GReply.cs r0))] Y Y Y ?_
     exact RunW_nil rfl
    ·refine r_on Y Y Y Y (dF (p := ((r0.Error < (0 : Int)) ∨ (r0.Error > (12 : Int))) ∨ (r0.Count < (0 : Int))) (not_or.2 ⟨(not_or.2 ⟨h1, h2⟩), h3⟩)) Y (PureD.opD (u_fa Y Y Tryd.underlying44 Y in_3 nz Y Y (nl (GReply.len r0)))) ?_
     refine r_on Y Y Y Y (dF (p := ((r0.Error < (0 : Int)) ∨ (r0.Error > (12 : Int))) ∨ (r0.Count < (0 : Int))) (not_or.2 ⟨(not_or.2 ⟨h1, h2⟩), h3⟩)) Y (PureD.opD (u_ld Y Y Tryd.underlying3 Y Y ((Sub.refl _).trans (GReply.sub1 r0)))) ?_
     refine r_on Y Y Y Y (dF (p := ((r0.Error < (0 : Int)) ∨ (r0.Error > (12 : Int))) ∨ (r0.Count < (0 : Int))) (not_or.2 ⟨(not_or.2 ⟨h1, h2⟩), h3⟩)) Y (PureD.opD (p_bin Y Y Y Y)) ?_
     refine rp Y Y (p_pkf Y Y (dF (p := ((r0.Error < (0 : Int)) ∨ (r0.Error > (12 : Int))) ∨ (r0.Count < (0 : Int))) (not_or.2 ⟨(not_or.2 ⟨h1, h2⟩), h3⟩)) (tb ((or_l (p := ((r0.Error < (0 : Int)) ∨ (r0.Error > (12 : Int))) ∨ (r0.Count < (0 : Int))) (q := r0.Count > (64 : Int)) (not_or.2 ⟨(not_or.2 ⟨h1, h2⟩), h3⟩))))) ?_
     refine rs [(1, .q 1 (0)), (26, .b (decide ((((r0.Error < (0 : Int)) ∨ (r0.Error > (12 : Int))) ∨ (r0.Count < (0 : Int))) ∨ (r0.Count > (64 : Int)))))] [(1, .pure (GReply.cs r0))] Y Y Y ?_
     exact RunW_nil rfl
 ·refine AW2_if (p := (((r0.Error < (0 : Int)) ∨ (r0.Error > (12 : Int))) ∨ (r0.Count < (0 : Int))) ∨ (r0.Count > (64 : Int))) Y (fun h4 => ?_) (fun h4 => ?_)
  ·replace H := ite_then h4 H
   refine sg [0, 1] Y ?_
   refine rp Y Y (p_asgn Y) ?_
   refine rp Y Y (p_asg Y Y) ?_
   refine rz [(2, .p .nil), (3, .i (6 : Int))] [] Y Y Y ?_
   refine as2 [(2, .p .nil), (3, .i (6 : Int))] [] Y Y Y ?_
   refine AW2_gho (Gho_own (d := 2) (b := 2) (z := 1) Y Y Y Y) ?_
   refine AW2_st [(2, .c (.own 2 ([] : List UInt8).length 1)), (3, .i (6 : Int))] [(2, .pure (bcells ([] : List UInt8)))] Y ⟨TLes.own Y, TLes.same _, trivial⟩ ⟨Y, trivial⟩ ?_
   refine AW2_ret ?_
   have hz := some_elim H
   subst hz
   exact ⟨⟨res_tmp (.same _), res_tmp (.same _), trivial⟩, ⟨Y, trivial⟩⟩
  ·replace H := ite_else h4 H
   refine as2 [(1, .q 1 (0))] [(1, .pure (GReply.cs r0))] Y Y Y ?_
   refine AW2_skip ?_
   refine AW2_seq ?_
   refine sg [0, 1, 2, 3] Y ?_
   refine rp Y Y (u_fa Y Y Tryd.underlying44 Y in_42 nz Y Y (nl (GReply.len r0))) ?_
   refine rp Y Y (u_ld Y Y Tryd.underlying42 Y Y ((Sub.refl _).trans (GReply.sub2 r0))) ?_
   refine rp Y Y (p_lenl Y Tryd.underlying42 Y Y) ?_
   refine rp Y Y (p_bin Y Y Y Y) ?_
   refine rz [(1, .q 1 (0)), (30, .b (decide ((r0.Rows.length : Int) > (64 : Int))))] [(1, .pure (GReply.cs r0))] Y Y Y ?_
   refine AW2_if (p := (r0.Rows.length : Int) > (64 : Int)) Y (fun h5 => ?_) (fun h5 => ?_)
   ·replace H := ite_then h5 H
    refine sg [0, 1] Y ?_
    refine rp Y Y (p_asgn Y) ?_
    refine rp Y Y (p_asg Y Y) ?_
    refine rz [(2, .p .nil), (3, .i (1 : Int))] [] Y Y Y ?_
    refine as2 [(2, .p .nil), (3, .i (1 : Int))] [] Y Y Y ?_
    refine AW2_gho (Gho_own (d := 2) (b := 2) (z := 1) Y Y Y Y) ?_
    refine AW2_st [(2, .c (.own 2 ([] : List UInt8).length 1)), (3, .i (1 : Int))] [(2, .pure (bcells ([] : List UInt8)))] Y ⟨TLes.own Y, TLes.same _, trivial⟩ ⟨Y, trivial⟩ ?_
    refine AW2_ret ?_
    have hz := some_elim H
    subst hz
    exact ⟨⟨res_tmp (.same _), res_tmp (.same _), trivial⟩, ⟨Y, trivial⟩⟩
   ·replace H := ite_else h5 H
    refine as2 [(1, .q 1 (0))] [(1, .pure (GReply.cs r0))] Y Y Y ?_
    refine AW2_skip ?_
    refine AW2_seq ?_
    refine bindK H fun r'1 h6 H => ?_
    refine bindK H fun r'2 h7 H => ?_
    refine chkK H fun h8 H => ?_
    refine bindK H fun r'3 h9 H => ?_
    refine chkK H fun h10 H => ?_
    refine AW2_ghoQ ?_
    refine AW2_draw 14 [14, 15] (fun k => ([.q 1 (0 + 0), .i r0.Error, .p (AV.u64 (UInt64.ofInt r0.Error)), .t r'1, .q 1 (0 + 1), .i r0.Count, .p (AV.u64 (UInt64.ofInt r0.Count)), .t r'2, .t (r'1 ++ r'2), .q 1 (0 + 2), .p ((fun q : List (List GValue) => AV.lst (q.map (fun q : List GValue => AV.lst (q.flatMap GValue.cs) q.length)) q.length) r0.Rows), .i (r0.Rows.length : Int), .p (AV.u64 (UInt64.ofInt (r0.Rows.length : Int))), .t r'3] : List TV).getD k TV.any) (fun k => g_ref_ToldBytes_r5.getD k []) [(1, none), (39, some 8), (44, some 13)] [] (fun k => g_ref_ToldBytes_r5c.getD k []) mixed (by kernel_rfl) Y Y (a_op (g_x Y (x_p Y (u_fa Y Y Tryd.underlying44 Y in_25 nz Y Y (nl (GReply.len r0))) Y)) (a_op (g_x Y (x_p Y (u_ld Y Y Tryd.underlying25 Y Y ((Sub.refl _).trans (GReply.sub0 r0))) Y)) (a_op (g_x Y (x_p Y (p_i_u64 Y Tryd.underlying25 Tryd.underlying22 Y) Y)) (a_op (g_x Y (x_p Y (p_callp Y Y Y Tryd.func56 Y Y (g_ref_big_ac h6) ⟨Y, Y, trivial⟩) Y)) (a_op (g_x Y (x_p Y (u_fa Y Y Tryd.underlying44 Y in_3 nz Y Y (nl (GReply.len r0))) Y)) (a_op (g_x Y (x_p Y (u_ld Y Y Tryd.underlying3 Y Y ((Sub.refl _).trans (GReply.sub1 r0))) Y)) (a_op (g_x Y (x_p Y (p_i_u64 Y Tryd.underlying3 Tryd.underlying22 Y) Y)) (a_op (g_x Y (x_p Y (p_callp Y Y Y Tryd.func56 Y Y (g_ref_big_ac h7) ⟨Y, Y, trivial⟩) Y)) (a_op (g_x Y (x_p Y (p_cat Y Y Y h8) Y)) (a_op (g_x Y (x_p Y (u_fa Y Y Tryd.underlying44 Y in_42 nz Y Y (nl (GReply.len r0))) Y)) (a_op (g_x Y (x_p Y (u_ld Y Y Tryd.underlying42 Y Y ((Sub.refl _).trans (GReply.sub2 r0))) Y)) (a_op (g_x Y (x_p Y (p_lenl Y Tryd.underlying42 Y Y) Y)) (a_op (g_x Y (x_p Y (p_i_u64 Y Tryd.underlying3 Tryd.underlying22 Y) Y)) (a_op (g_x Y (x_p Y (p_callp Y Y Y Tryd.func56 Y Y (g_ref_big_ac h9) ⟨Y, Y, trivial⟩) Y)) (a_nil))))))))))))))) ?_
    refine t_op Y Y (PureD.opD (p_cat Y Y Y h10)) ?_
    refine t_op Y Y (PureD.opD (p_asg Y Y)) ?_
    refine t_gho (Gho_st (L := [(1, .q 1 (0)), (4, .t ((r'1 ++ r'2) ++ r'3))]) (H := [(1, .pure (GReply.cs r0))]) (N := 78) Y ⟨TLes.same _, TLes.same _, trivial⟩ ⟨Y, trivial⟩) ?_
    refine AW2_seq ?_
    refine sg [0, 1, 2, 3] Y ?_
    refine rp Y Y (u_fa Y Y Tryd.underlying44 Y in_42 nz Y Y (nl (GReply.len r0))) ?_
    refine rp Y Y (u_ld Y Y Tryd.underlying42 Y Y ((Sub.refl _).trans (GReply.sub2 r0))) ?_
    refine rp Y Y (p_lenl Y Tryd.underlying42 Y Y) ?_
    refine rp Y Y (p_move Y Y) ?_
    refine rz [(4, .t ((r'1 ++ r'2) ++ r'3)), (47, .p ((fun q : List (List GValue) => AV.lst (q.map (fun q : List GValue => AV.lst (q.flatMap GValue.cs) q.length)) q.length) r0.Rows)), (48, .i (r0.Rows.length : Int)), (49, .i (0 : Int))] [] Y Y Y ?_
    refine AW2_block ?_
    refine as2 [(4, .t ((r'1 ++ r'2) ++ r'3)), (47, .p ((fun q : List (List GValue) => AV.lst (q.map (fun q : List GValue => AV.lst (q.flatMap GValue.cs) q.length)) q.length) r0.Rows)), (48, .i (r0.Rows.length : Int)), (49, .i (0 : Int))] [] Y Y Y ?_
    refine bindK H fun o'10 h20 H => ?_
    refine AW2_loopO (fun a'7 : (List UInt8) × Int => (⟨[(4, .t a'7.1), (47, .p ((fun q : List (List GValue) => AV.lst (q.map (fun q : List GValue => AV.lst (q.flatMap GValue.cs) q.length)) q.length) r0.Rows)), (48, .i (r0.Rows.length : Int)), (49, .i a'7.2)], [], 78⟩ : TS)) (fun (o : ((List UInt8) × Int) ⊕ ((List UInt8))) e s' => match o with | .inl y'8 => e = Go.Exit.ret ∧ ResAll Tryd.prog s' [ResultVar.tmp 2, ResultVar.tmp 3] [.c (.own 2 y'8.1.length 1), .i y'8.2] ∧ HFits s' [(2, .pure (bcells y'8.1))] | .inr (y'9) => e = Go.Exit.exit 0 ∧ s' = (⟨[(4, .t y'9)], [], 78⟩ : TS)) h20 Y (fun a x hx => ?_) (fun e s' hs => ?_)
    ·clear H
     obtain ⟨s4_0, t49_0⟩ := a
     have H := hx
     clear hx
     unfold g_ref_ToldBytes_l0 at H
     refine sg [0] Y ?_
     refine rp Y Y (p_bin Y Y Y Y) ?_
     refine rz [(4, .t s4_0), (47, .p ((fun q : List (List GValue) => AV.lst (q.map (fun q : List GValue => AV.lst (q.flatMap GValue.cs) q.length)) q.length) r0.Rows)), (48, .i (r0.Rows.length : Int)), (49, .i t49_0), (50, .b (decide (t49_0 < (r0.Rows.length : Int))))] [] Y Y Y ?_
     refine AW2_seq ?_
     refine AW2_if (p := t49_0 < (r0.Rows.length : Int)) Y (fun h11 => ?_) (fun h11 => ?_)
     ·replace H := ite_then h11 H
      refine as2 [(4, .t s4_0), (47, .p ((fun q : List (List GValue) => AV.lst (q.map (fun q : List GValue => AV.lst (q.flatMap GValue.cs) q.length)) q.length) r0.Rows)), (48, .i (r0.Rows.length : Int)), (49, .i t49_0)] [] Y Y Y ?_
      refine AW2_skip ?_
      refine AW2_seq ?_
      refine AW2_block ?_
      refine sg [0, 1, 2] Y ?_
      refine chkK H fun h12 H => ?_
      refine rp Y Y (u_ixl Y Y Tryd.underlying42 in_32 Y Y (ixe h12) (ixn h12) (lne (ixn h12))) ?_
      refine rp Y Y (u_ld Y Y Tryd.underlying32 Y Y (Sub.map default (ixn h12))) ?_
      refine rp Y Y (p_asg Y Y) ?_
      refine rz [(4, .t s4_0), (6, .p ((fun q : List GValue => AV.lst (q.flatMap GValue.cs) q.length) (lrd r0.Rows t49_0.toNat))), (47, .p ((fun q : List (List GValue) => AV.lst (q.map (fun q : List GValue => AV.lst (q.flatMap GValue.cs) q.length)) q.length) r0.Rows)), (48, .i (r0.Rows.length : Int)), (49, .i t49_0)] [] Y Y Y ?_
      refine sg [0, 1, 2, 3, 4, 5, 6] Y ?_
      refine rp Y Y (p_move Y Y) ?_
      refine bindK H fun r'4 h13 H => ?_
      refine rp Y Y (p_callp Y Y Y Tryd.func22 Y Y (g_ref_RowBytes_ac h13) ⟨Y, Y, trivial⟩) ?_
      refine rp Y Y (p_move Y Y) ?_
      refine rp Y Y (p_ext Y Y Y Y) ?_
      refine rp Y Y (p_ext Y Y Y Y) ?_
      refine rp Y Y (p_asg Y Y) ?_
      refine rp Y Y (p_asg Y Y) ?_
      refine rz [(4, .t s4_0), (6, .p ((fun q : List GValue => AV.lst (q.flatMap GValue.cs) q.length) (lrd r0.Rows t49_0.toNat))), (7, .y r'4.1), (8, .i r'4.2), (47, .p ((fun q : List (List GValue) => AV.lst (q.map (fun q : List GValue => AV.lst (q.flatMap GValue.cs) q.length)) q.length) r0.Rows)), (48, .i (r0.Rows.length : Int)), (49, .i t49_0)] [] Y Y Y ?_
      refine AW2_seq ?_
      refine sg [0, 1] Y ?_
      refine rp Y Y (p_move Y Y) ?_
      refine rp Y Y (p_ine Y Y Y) ?_
      refine rz [(4, .t s4_0), (6, .p ((fun q : List GValue => AV.lst (q.flatMap GValue.cs) q.length) (lrd r0.Rows t49_0.toNat))), (7, .y r'4.1), (8, .i r'4.2), (47, .p ((fun q : List (List GValue) => AV.lst (q.map (fun q : List GValue => AV.lst (q.flatMap GValue.cs) q.length)) q.length) r0.Rows)), (48, .i (r0.Rows.length : Int)), (49, .i t49_0), (59, .b (decide (r'4.2 ≠ (0 : Int))))] [] Y Y Y ?_
      refine AW2_if (p := r'4.2 ≠ (0 : Int)) Y (fun h14 => ?_) (fun h14 => ?_)
      ·replace H := ite_then h14 H
       refine sg [0, 1, 2] Y ?_
       refine rp Y Y (p_move Y Y) ?_
       refine rp Y Y (p_asgn Y) ?_
       refine rp Y Y (p_asg Y Y) ?_
       refine rz [(2, .p .nil), (3, .i r'4.2)] [] Y Y Y ?_
       refine as2 [(2, .p .nil), (3, .i r'4.2)] [] Y Y Y ?_
       refine AW2_gho (Gho_own (d := 2) (b := 2) (z := 1) Y Y Y Y) ?_
       refine AW2_st [(2, .c (.own 2 ([] : List UInt8).length 1)), (3, .i r'4.2)] [(2, .pure (bcells ([] : List UInt8)))] Y ⟨TLes.own Y, TLes.same _, trivial⟩ ⟨Y, trivial⟩ ?_
       refine AW2_ret ?_
       have hz := some_elim H
       subst hz
       exact ⟨Y, ⟨res_tmp (.same _), res_tmp (.same _), trivial⟩, ⟨Y, trivial⟩⟩
      ·replace H := ite_else h14 H
       refine as2 [(4, .t s4_0), (6, .p ((fun q : List GValue => AV.lst (q.flatMap GValue.cs) q.length) (lrd r0.Rows t49_0.toNat))), (7, .y r'4.1), (47, .p ((fun q : List (List GValue) => AV.lst (q.map (fun q : List GValue => AV.lst (q.flatMap GValue.cs) q.length)) q.length) r0.Rows)), (48, .i (r0.Rows.length : Int)), (49, .i t49_0)] [] Y Y Y ?_
       refine AW2_skip ?_
       refine bindK H fun r'5 h15 H => ?_
       refine bindK H fun r'6 h16 H => ?_
       refine chkK H fun h17 H => ?_
       refine chkK H fun h18 H => ?_
       refine chkK H fun h19 H => ?_
       refine AW2_ghoQ ?_
       refine AW2_draw 13 [13, 14] (fun k => ([.t s4_0, .p ((fun q : List GValue => AV.lst (q.flatMap GValue.cs) q.length) (lrd r0.Rows t49_0.toNat)), .i ((lrd r0.Rows t49_0.toNat).length : Int), .p (AV.u64 (UInt64.ofInt ((lrd r0.Rows t49_0.toNat).length : Int))), .t r'5, .y r'4.1, .i (r'4.1.length : Int), .p (AV.u64 (UInt64.ofInt (r'4.1.length : Int))), .t r'6, .t (r'5 ++ r'6), .y r'4.1, .t r'4.1, .t ((r'5 ++ r'6) ++ r'4.1)] : List TV).getD k TV.any) (fun k => g_ref_ToldBytes_r12.getD k []) [(4, none), (47, none), (48, none), (49, none), (61, some 0), (73, some 12)] [] (fun k => g_ref_ToldBytes_r12c.getD k []) mixed (by kernel_rfl) Y Y (a_op (g_x Y (x_p Y (p_move Y Y) Y)) (a_op (g_x Y (x_p Y (p_move Y Y) Y)) (a_op (g_x Y (x_p Y (p_lenl Y Tryd.underlying32 Y Y) Y)) (a_op (g_x Y (x_p Y (p_i_u64 Y Tryd.underlying3 Tryd.underlying22 Y) Y)) (a_op (g_x Y (x_p Y (p_callp Y Y Y Tryd.func56 Y Y (g_ref_big_ac h15) ⟨Y, Y, trivial⟩) Y)) (a_op (g_x Y (x_p Y (p_move Y Y) Y)) (a_op (g_x Y (x_p Y (p_lenl Y Tryd.underlying33 Y Y) Y)) (a_op (g_x Y (x_p Y (p_i_u64 Y Tryd.underlying3 Tryd.underlying22 Y) Y)) (a_op (g_x Y (x_p Y (p_callp Y Y Y Tryd.func56 Y Y (g_ref_big_ac h16) ⟨Y, Y, trivial⟩) Y)) (a_op (g_x Y (x_p Y (p_cat Y Y Y h17) Y)) (a_op (g_x Y (x_p Y (p_move Y Y) Y)) (a_op (g_x Y (x_p Y (p_cb Y Y Tryd.underlying33 Tryd.underlying5 Tryd.underlying9 Y) Y)) (a_op (g_x Y (x_p Y (p_cat Y Y Y h18) Y)) (a_nil)))))))))))))) ?_
       refine t_op Y Y (PureD.opD (p_cat Y Y Y h19)) ?_
       refine t_op Y Y (PureD.opD (p_asg Y Y)) ?_
       refine t_gho (Gho_st (L := [(4, .t (s4_0 ++ ((r'5 ++ r'6) ++ r'4.1))), (47, .p ((fun q : List (List GValue) => AV.lst (q.map (fun q : List GValue => AV.lst (q.flatMap GValue.cs) q.length)) q.length) r0.Rows)), (48, .i (r0.Rows.length : Int)), (49, .i t49_0)]) (H := []) (N := 78) Y ⟨TLes.same _, TLes.same _, TLes.same _, TLes.same _, trivial⟩ trivial) ?_
       refine AW2_reg [0, 1] Y ?_
       refine rp Y Y (p_bin Y Y Y Y) ?_
       refine rp Y Y (p_move Y Y) ?_
       refine rz [(4, .t (s4_0 ++ ((r'5 ++ r'6) ++ r'4.1))), (47, .p ((fun q : List (List GValue) => AV.lst (q.map (fun q : List GValue => AV.lst (q.flatMap GValue.cs) q.length)) q.length) r0.Rows)), (48, .i (r0.Rows.length : Int)), (49, .i (w64 (t49_0 + (1 : Int))))] [] Y Y Y ?_
       have hz := some_elim H
       subst hz
       exact ⟨Y, Y⟩
     ·replace H := ite_else h11 H
      refine as2 [(4, .t s4_0)] [] Y Y Y ?_
      refine AW2_exit ?_
      refine thenQ2_exit ?_
      have hz := some_elim H
      subst hz
      exact ⟨Y, Y⟩
    ·rcases o'10 with y'11 | y'12
     ·obtain ⟨rfl, hs⟩ := hs
      refine ⟨by simp, ?_⟩
      have hz := some_elim H
      subst hz
      exact ⟨hs.1, hs.2⟩
     ·obtain ⟨rfl, rfl⟩ := hs
      refine ⟨by simp, ?_⟩
      refine blockQ2_exit ?_
      refine sg [0, 1, 2, 3] Y ?_
      refine rp Y Y (p_move Y Y) ?_
      refine r_op Y Y (MakeD.opD (n_sb 77 Y Tryd.underlying9 Tryd.underlying33 Tryd.underlying5 Y) Y Y Y Y) ?_
      refine rp Y Y (p_asg Y Y) ?_
      refine rp Y Y (p_asg Y Y) ?_
      refine rs [(2, .c (.own 77 y'12.length 1)), (3, .i (0 : Int))] [(77, .pure (bcells y'12))] Y Y Y ?_
      refine RunW_gho (Gho_ren 77 2 Y Y Y Y Y) ?_
      refine rz [(2, .c (.own 2 y'12.length 1)), (3, .i (0 : Int))] [(2, .pure (bcells y'12))] Y Y Y ?_
      refine as2 [(2, .c (.own 2 y'12.length 1)), (3, .i (0 : Int))] [(2, .pure (bcells y'12))] Y Y Y ?_
      refine AW2_ret ?_
      have hz := some_elim H
      subst hz
      exact ⟨⟨res_tmp (.same _), res_tmp (.same _), trivial⟩, ⟨Y, trivial⟩⟩
theorem g_ref_ToldBytes_ac {r0 : GReply} {r : (List UInt8) × Int} (H : g_ref_ToldBytes r0 = some r) : ACp Tryd.prog 28 [(.agg (GReply.cs r0))] (.tup [(AV.bytes r.1), (AV.int r.2)]) := ACp_pub (g_ref_ToldBytes_ac2 H) (fun _ _ hm => lent_tup ⟨lent_own hm rfl (bl r.1) (by decide), .same _, trivial⟩)

/-! chirographlaw.WireTells -/
noncomputable def g_law_WireTells (r0 : GReply) : Option (Bool) :=
  (g_wire_Tell r0).bind fun r'1 => (g_ref_ToldBytes r0).bind fun r'2 => ((if r'1.2 = r'2.2 then (g_law_sameBytes r'1.1 r'2.1).bind fun r'4 => some r'4 else some false)).bind fun g'5 => some g'5
set_option maxHeartbeats 4000000 in
set_option maxRecDepth 100000 in
theorem g_law_WireTells_ac {r0 : GReply} {r : Bool} (H : g_law_WireTells r0 = some r) : ACp Tryd.prog 9 [(.agg (GReply.cs r0))] (AV.bool r) := by
 refine ACp_of (AC2_of_body (vs := [.b r]) Tryd.func9 Y Y (Nat.le_of_ble_eq_true Y) Y ?_) (fun _ => .same _)
 unfold g_law_WireTells at H
 refine as2 [(0, .g (GReply.cs r0))] [] Y Y Y ?_
 refine sg [0, 1] Y ?_
 refine r_op Y Y (MakeD.opD (n_box 1 Y Y) Y Y Y Y) ?_
 refine rp Y Y (p_asg Y Y) ?_
 refine rz [(1, .q 1 (0))] [(1, .pure (GReply.cs r0))] Y Y Y ?_
 refine sg [0, 1, 2, 3, 4, 5, 6] Y ?_
 refine rp Y Y (u_lda Y Y Tryd.underlying44 Y in_44 Y (Nat.succ_pos _) (Sub.refl _) (GReply.len r0)) ?_
 refine bindK H fun r'1 h1 H => ?_
 refine rp Y Y (p_callp Y Y Y Tryd.func27 Y Y (g_wire_Tell_ac h1) ⟨Y, trivial⟩) ?_
 refine rp Y Y (p_move Y Y) ?_
 refine rp Y Y (p_ext Y Y Y Y) ?_
 refine rp Y Y (p_ext Y Y Y Y) ?_
 refine rp Y Y (p_asg Y Y) ?_
 refine rp Y Y (p_asg Y Y) ?_
 refine rz [(1, .q 1 (0)), (3, .y r'1.1), (4, .i r'1.2)] [(1, .pure (GReply.cs r0))] Y Y Y ?_
 refine sg [0, 1, 2, 3, 4, 5, 6] Y ?_
 refine rp Y Y (u_lda Y Y Tryd.underlying44 Y in_44 Y (Nat.succ_pos _) (Sub.refl _) (GReply.len r0)) ?_
 refine bindK H fun r'2 h2 H => ?_
 refine rp Y Y (p_callp Y Y Y Tryd.func28 Y Y (g_ref_ToldBytes_ac h2) ⟨Y, trivial⟩) ?_
 refine rp Y Y (p_move Y Y) ?_
 refine rp Y Y (p_ext Y Y Y Y) ?_
 refine rp Y Y (p_ext Y Y Y Y) ?_
 refine rp Y Y (p_asg Y Y) ?_
 refine rp Y Y (p_asg Y Y) ?_
 refine rz [(3, .y r'1.1), (4, .i r'1.2), (5, .y r'2.1), (6, .i r'2.2)] [] Y Y Y ?_
 refine AW2_seq ?_
 refine bindK H fun g'5 h6 H => ?_
 refine AW2_mid (⟨[(2, .b g'5)], [], 25⟩ : TS) ?_ ?_
 ·clear H
  have H := h6
  clear h6
  refine AW2_reg [0, 1, 2, 3, 4, 5, 6, 7, 8] Y ?_
  refine rp Y Y (p_move Y Y) ?_
  refine rp Y Y (p_move Y Y) ?_
  refine rp Y Y (p_ieq Y Y Y) ?_
  refine rp Y Y (p_move Y Y) ?_
  refine (Classical.em (r'1.2 = r'2.2)).elim (fun h4 => ?_) (fun h4 => ?_)
  ·replace H := ite_then h4 H
   refine r_on Y Y Y Y (dT h4) Y (PureD.opD (p_move Y Y)) ?_
   refine r_on Y Y Y Y (dT h4) Y (PureD.opD (p_move Y Y)) ?_
   refine bindK H fun r'4 h5 H => ?_
   refine r_on Y Y Y Y (dT h4) Y (PureD.opD (p_callp Y Y Y Tryd.func23 Y Y (g_law_sameBytes_ac h5) ⟨Y, Y, trivial⟩)) ?_
   refine rp Y Y (p_pkt Y Y (dT h4) (.same _)) ?_
   refine rp Y Y (p_asg Y Y) ?_
   refine rs [(2, .b r'4)] [] Y Y Y ?_
   have hz := some_elim H
   subst hz
   exact RunW_nil rfl
  ·replace H := ite_else h4 H
   refine r_off Y Y Y Y (dF h4) Y Y ?_
   refine r_off Y Y Y Y (dF h4) Y Y ?_
   refine r_off Y Y Y Y (dF h4) Y Y ?_
   refine rp Y Y (p_pkf Y Y (dF h4) (.same _)) ?_
   refine rp Y Y (p_asg Y Y) ?_
   refine rs [(2, .b false)] [] Y Y Y ?_
   have hz := some_elim H
   subst hz
   exact RunW_nil rfl
 ·refine AW2_ret ?_
  have hz := some_elim H
  subst hz
  exact ⟨⟨res_tmp (.same _), trivial⟩, trivial⟩
end Go.Proofs.YtfekkhinjdmcbaaDoor.VM
