/- Words and rules that the proof uses. -/
import Derived.Test.YthnkbagmaljjjaaDoorEv2
namespace Go.Proofs.YthnkbagmaljjjaaDoor.VM
open Go Go.RowKit
abbrev U88 := @Tryd.underlying88
abbrev U112 := @Tryd.underlying112
abbrev U115 := @Tryd.underlying115
structure Gkinds_sort where
  kind_ : Int
  null_ : Bool
deriving DecidableEq, Inhabited
def Gkinds_sort.zero : Gkinds_sort := ⟨(0 : Int), false⟩
def Gkinds_sort.cs (x : Gkinds_sort) : List AV := ([(AV.int x.kind_)]) ++ ([(AV.bool x.null_)])
abbrev Gkinds_sort.ls (q : List Gkinds_sort) : AV := AV.lst (q.flatMap Gkinds_sort.cs) q.length
theorem Gkinds_sort.len (x : Gkinds_sort) : (Gkinds_sort.cs x).length = 2 := by
  simp only [Gkinds_sort.cs, List.length_append]
  rw [show ([(AV.int x.kind_)]).length = 1 from (show ([(AV.int x.kind_)]).length = 1 from rfl), show ([(AV.bool x.null_)]).length = 1 from (show ([(AV.bool x.null_)]).length = 1 from rfl)]
theorem Gkinds_sort.sub0 (x : Gkinds_sort) : Sub (Gkinds_sort.cs x) 0 ([(AV.int x.kind_)]) := Sub.head _ _
abbrev Gkinds_sort.w0 (x : Gkinds_sort) (y : Int) : Gkinds_sort := { x with kind_ := y }
theorem Gkinds_sort.upd0 (x : Gkinds_sort) (y : Int) : Upd (Gkinds_sort.cs x) 0 ([(AV.int y)]) (Gkinds_sort.cs { x with kind_ := y }) := Upd.head (show ([(AV.int y)]).length = ([(AV.int x.kind_)]).length from rfl)
theorem Gkinds_sort.sub1 (x : Gkinds_sort) : Sub (Gkinds_sort.cs x) 1 ([(AV.bool x.null_)]) := Sub.skip (k := 1) (show ([(AV.int x.kind_)]).length = 1 from rfl) (Sub.refl _)
abbrev Gkinds_sort.w1 (x : Gkinds_sort) (y : Bool) : Gkinds_sort := { x with null_ := y }
theorem Gkinds_sort.upd1 (x : Gkinds_sort) (y : Bool) : Upd (Gkinds_sort.cs x) 1 ([(AV.bool y)]) (Gkinds_sort.cs { x with null_ := y }) := Upd.skip (k := 1) (show ([(AV.int x.kind_)]).length = 1 from rfl) (Upd.refl (show ([(AV.bool y)]).length = ([(AV.bool x.null_)]).length from rfl))
theorem Gkinds_sort.nl (x : Gkinds_sort) : (Gkinds_sort.cs x).all noLst1 = true := nlA rfl (rfl)
theorem in_88 : Info Tryd.prog 88 2 16 (.agg #[.int .i64 0, .bool false]) := by unfold Info; kernel_rfl
theorem one_88 : (.agg #[.int .i64 0, .bool false] : Value).cells.all (·.oneCell') = true := by kernel_rfl
theorem zc_88 : ((.agg #[.int .i64 0, .bool false] : Value).cells.toList.map zcell) = Gkinds_sort.cs Gkinds_sort.zero := by rfl
theorem pl_88 : placesOf Tryd.prog 88 = some [(0, 1), (1, 1)] := by kernel_rfl
theorem in_112 : Info Tryd.prog 112 4 32 (.agg #[.int .i64 0, .bool false, .int .i64 0, .bool false]) := by unfold Info; kernel_rfl
theorem one_112 : (.agg #[.int .i64 0, .bool false, .int .i64 0, .bool false] : Value).cells.all (·.oneCell') = true := by kernel_rfl
theorem zc_112 : ((.agg #[.int .i64 0, .bool false, .int .i64 0, .bool false] : Value).cells.toList.map zcell) = ((Vector.replicate 2 Gkinds_sort.zero).toList).flatMap Gkinds_sort.cs := by rfl
set_option maxRecDepth 100000 in
theorem ty_3 {d : Nat} {cs : List AV} (h : Typed Tryd.prog d 3 cs) : ∃ x : Int, cs = [(AV.int x)] ∧ okI x := match d, h with
  | 0, h => False.elim h
  | d + 1, h => ty_int U3 h
set_option maxRecDepth 100000 in
theorem ty_22 {d : Nat} {cs : List AV} (h : Typed Tryd.prog d 22 cs) : ∃ x : UInt64, cs = [(AV.u64 x)] ∧ okA x := match d, h with
  | 0, h => False.elim h
  | d + 1, h => ty_u64 U22 h
set_option maxRecDepth 100000 in
theorem ty_9 {d : Nat} {cs : List AV} (h : Typed Tryd.prog d 9 cs) : ∃ x : List UInt8, cs = [(AV.txt x)] ∧ okT x := match d, h with
  | 0, h => False.elim h
  | d + 1, h => ty_text U9 h
def GValue.ok (x : GValue) : Prop := okI x.Kind ∧ okI x.Int_ ∧ okA x.Bits ∧ okT x.Text
set_option maxRecDepth 100000 in
theorem ty_24 {d : Nat} {cs : List AV} (h : Typed Tryd.prog d 24 cs) : ∃ x : GValue, cs = GValue.cs x ∧ GValue.ok x := match d, h with
  | 0, h => False.elim h
  | d + 1, h => by
    obtain ⟨es, rfl, hl, hf⟩ := ty_struct U24 h
    match es, hl, hf with
    | [e0, e1, e2, e3], _, hf =>
    obtain ⟨x0, h0, q0⟩ := ty_3 (hf 0 _ e0 rfl rfl)
    obtain ⟨x1, h1, q1⟩ := ty_3 (hf 1 _ e1 rfl rfl)
    obtain ⟨x2, h2, q2⟩ := ty_22 (hf 2 _ e2 rfl rfl)
    obtain ⟨x3, h3, q3⟩ := ty_9 (hf 3 _ e3 rfl rfl)
    refine ⟨⟨x0, x1, x2, x3⟩, ?_, ⟨q0, q1, q2, q3⟩⟩
    rw [h0, h1, h2, h3]
    simp only [List.flatten_cons, List.flatten_nil, List.append_nil, GValue.cs]
inductive GExpr.ok : GExpr → Prop
  | mk {x : GExpr} : okI x.Op → GValue.ok x.Value → okT x.Name → x.Args.length * 88 ≤ reachBytes → x.Args.length ≤ maxLen → (∀ y ∈ x.Args, GExpr.ok y) → GExpr.ok x
set_option maxRecDepth 100000 in
theorem ty_27_ (N : Nat) : ∀ (d : Nat) (cs : List AV), d ≤ N → Typed Tryd.prog d 27 cs → ∃ x : GExpr, cs = GExpr.cs x ∧ GExpr.ok x := by
  induction N with
  | zero =>
    intro d cs hd h
    obtain rfl : d = 0 := by omega
    exact False.elim h
  | succ N ih =>
    intro d cs hd h
    match d, hd, h with
    | 0, _, h => exact False.elim h
    | d + 1, hd, h =>
    obtain ⟨es, rfl, hl, hf⟩ := ty_struct U27 h
    match es, hl, hf with
    | [e0, e1, e2, e3], _, hf =>
    obtain ⟨x0, h0, q0⟩ := ty_3 (hf 0 _ e0 rfl rfl)
    obtain ⟨x1, h1, q1⟩ := ty_24 (hf 1 _ e1 rfl rfl)
    obtain ⟨x2, h2, q2⟩ := ty_9 (hf 2 _ e2 rfl rfl)
    obtain ⟨x3, h3, q3⟩ : ∃ l : List GExpr, e3 = [.lst (l.flatMap GExpr.cs) l.length] ∧ okL 88 GExpr.ok l := by
      have h9 := hf 3 _ e3 rfl rfl
      match d, hd, h9 with
      | 0, _, h => exact False.elim h
      | k + 1, hd, h => exact ty_slicef (g := fun b : GExpr => GExpr.cs b) U25 (bytes_of in_27) (fun x hx => ih k x (by omega) hx) h
    refine ⟨⟨x0, x1, x2, x3⟩, ?_, .mk q0 q1 q2 q3.1 q3.2.1 q3.2.2⟩
    rw [h0, h1, h2, h3, GExpr.cs_eq]
    simp only [List.flatten_cons, List.flatten_nil, List.append_nil]
theorem ty_27 {d : Nat} {cs : List AV} (h : Typed Tryd.prog d 27 cs) : ∃ x : GExpr, cs = GExpr.cs x ∧ GExpr.ok x := ty_27_ d d cs (Nat.le_refl _) h
set_option maxRecDepth 100000 in
theorem ty_4 {d : Nat} {cs : List AV} (h : Typed Tryd.prog d 4 cs) : ∃ x : Bool, cs = [(AV.bool x)] ∧ okA x := match d, h with
  | 0, h => False.elim h
  | d + 1, h => ty_bool U4 h
def GColumn.ok (x : GColumn) : Prop := okT x.Name ∧ okI x.Kind ∧ okA x.Null
set_option maxRecDepth 100000 in
theorem ty_59 {d : Nat} {cs : List AV} (h : Typed Tryd.prog d 59 cs) : ∃ x : GColumn, cs = GColumn.cs x ∧ GColumn.ok x := match d, h with
  | 0, h => False.elim h
  | d + 1, h => by
    obtain ⟨es, rfl, hl, hf⟩ := ty_struct U59 h
    match es, hl, hf with
    | [e0, e1, e2], _, hf =>
    obtain ⟨x0, h0, q0⟩ := ty_9 (hf 0 _ e0 rfl rfl)
    obtain ⟨x1, h1, q1⟩ := ty_3 (hf 1 _ e1 rfl rfl)
    obtain ⟨x2, h2, q2⟩ := ty_4 (hf 2 _ e2 rfl rfl)
    refine ⟨⟨x0, x1, x2⟩, ?_, ⟨q0, q1, q2⟩⟩
    rw [h0, h1, h2]
    simp only [List.flatten_cons, List.flatten_nil, List.append_nil, GColumn.cs]
set_option maxRecDepth 100000 in
theorem ty_28 {d : Nat} {cs : List AV} (h : Typed Tryd.prog d 28 cs) : ∃ x : List GColumn, cs = [((fun q : List GColumn => AV.lst (q.flatMap GColumn.cs) q.length) x)] ∧ (okL 32 GColumn.ok) x := match d, h with
  | 0, h => False.elim h
  | d + 1, h => ty_slicef (g := fun b : GColumn => GColumn.cs b) U28 (bytes_of in_59) (fun _ hx => ty_59 hx) h
set_option maxRecDepth 100000 in
theorem ty_29 {d : Nat} {cs : List AV} (h : Typed Tryd.prog d 29 cs) : ∃ x : List GValue, cs = [((fun q : List GValue => AV.lst (q.flatMap GValue.cs) q.length) x)] ∧ (okL 40 GValue.ok) x := match d, h with
  | 0, h => False.elim h
  | d + 1, h => ty_slicef (g := fun b : GValue => GValue.cs b) U29 (bytes_of in_24) (fun _ hx => ty_24 hx) h
noncomputable def g_ref_valued_b (R' : GExpr → (List GColumn) → (List GValue) → Option (GValue × Int)) (e0 : GExpr) (cols1 : List GColumn) (row2 : List GValue) : Option (GValue × Int) :=
  (if e0.Op = (1 : Int) then some (e0.Value, (0 : Int)) else (if e0.Op = (2 : Int) then (g_ref_columnAt cols1 e0.Name).bind fun r'1 => (if r'1 < (0 : Int) then some (GValue.zero, (5 : Int)) else if 0 ≤ r'1 ∧ r'1 < (row2.length : Int) then some ((lrd row2 r'1.toNat), (0 : Int)) else none) else if 0 < e0.Args.length then (R' (lrd e0.Args 0) cols1 row2).bind fun r'2 => (if (r'2.2 ≠ (0 : Int)) ∨ ((e0.Args.length : Int) = (1 : Int)) then (if r'2.2 ≠ (0 : Int) then some (GValue.zero, r'2.2) else (g_ref_did e0.Op r'2.1 GValue.zero).bind fun r'3 => some (r'3.1, r'3.2)) else letO (decide (((e0.Op = (20 : Int)) ∧ (r'2.1.Kind ≠ (0 : Int))) ∨ ((r'2.1.Kind = (1 : Int)) ∧ (((e0.Op = (15 : Int)) ∧ (r'2.1.Int_ = (0 : Int))) ∨ ((e0.Op = (16 : Int)) ∧ (r'2.1.Int_ = (1 : Int))))))) fun t92'4 => (if t92'4 = true then some (r'2.1, (0 : Int)) else if 1 < e0.Args.length then (R' (lrd e0.Args 1) cols1 row2).bind fun r'5 => (if r'5.2 ≠ (0 : Int) then some (GValue.zero, r'5.2) else (g_ref_did e0.Op r'2.1 r'5.1).bind fun r'6 => some (r'6.1, r'6.2)) else none)) else none))
noncomputable def g_ref_valued : Nat → GExpr → (List GColumn) → (List GValue) → Option (GValue × Int)
  | 0, _, _, _ => none
  | fu + 1, e0, cols1, row2 => g_ref_valued_b (g_ref_valued fu) e0 cols1 row2
set_option maxHeartbeats 4000000 in
set_option maxRecDepth 100000 in
theorem g_ref_valued_ac0 {R' : GExpr → (List GColumn) → (List GValue) → Option (GValue × Int)} (hR : ∀ {e0 : GExpr} {cols1 : List GColumn} {row2 : List GValue} {r : GValue × Int}, R' e0 cols1 row2 = some r → ACp Tryd.prog 18 [(.agg (GExpr.cs e0)), (GColumn.ls cols1), (GValue.ls row2)] (.tup [(.agg (GValue.cs r.1)), (AV.int r.2)])) {e0 : GExpr} {cols1 : List GColumn} {row2 : List GValue} {r : GValue × Int} (H : g_ref_valued_b R' e0 cols1 row2 = some r) : ACp Tryd.prog 18 [(.agg (GExpr.cs e0)), (GColumn.ls cols1), (GValue.ls row2)] (.tup [(.agg (GValue.cs r.1)), (AV.int r.2)]) := by
 refine ACp_of (AC2_of_body (vs := [.g (GValue.cs r.1), .i r.2]) Tryd.func18 Y Y (lb Y) Y ?_) (fun _ => .same _)
 unfold g_ref_valued_b at H
 refine as2 [(0, .g (GExpr.cs e0)), (1, .p (GColumn.ls cols1)), (2, .p (GValue.ls row2))] [] Y (sg [0,1,2] Y (rq Y (MakeD.opD (n_box 3 Y Y) Y Y Y Y) (rq Y (MakeD.opD (u_alloc 6 Y in_24 one_24 zc_24) Y Y Y Y) (ra Y (rz [(1, _), (2, _), (3, .q 3 (0)), (6, .q 6 (0))] [(3, .pure (GExpr.cs e0)), (6, .pure (GValue.cs GValue.zero))] Y (AW2_seq ?_))))))
 refine sg [0,1] Y (rf Y U27 Y in_3 Y Y (GExpr.len e0) (rp Y (u_ld Y Y U3 Y Y (GExpr.sub0 e0)) (rz [(1, _), (2, _), (3, _), (6, _), (13, .i e0.Op)] [(3, _), (6, _)] Y (AW2_block (sg [0,1] Y (rp Y (p_ieq Y Y Y) ?_))))))
 refine ra Y (rz [(1, _), (2, _), (3, _), (6, _), (13, _), (14, .b (decide (e0.Op = (1 : Int))))] [(3, _), (6, _)] Y (if2 H Y (fun h1 H => ?_) (fun h1 H => ?_)))
 ·refine sg [0,1,2,3] Y (rf Y U27 Y in_24 Y Y (GExpr.len e0) (rp Y (u_lda Y Y U24 Y in_24 Y np (GExpr.sub1 e0) (GValue.len e0.Value)) (rq Y (u_sw Y Y Y Y Y in_24 (GValue.len e0.Value) (GValue.len GValue.zero) Y) (ra Y (rz [(6, _), (7, .i (0 : Int))] [(6, .pure (GValue.cs e0.Value))] Y (AW2_ret ?_))))))
  obtain rfl := se H
  exact ⟨⟨rcw U24 Y in_24 Y (GValue.len e0.Value), rt, trivial⟩, trivial⟩
 refine sg [0,1] Y (rp Y (p_ieq Y Y Y) (ra Y (rz [(1, _), (2, _), (3, _), (6, _), (18, .b (decide (e0.Op = (2 : Int))))] [(3, _), (6, _)] Y (if2 H Y (fun h2 H => ?_) (fun h2 H => ?_)))))
 ·refine sg [0,1,2,3,4] Y (rm Y (rf Y U27 Y in_9 Y Y (GExpr.len e0) (rp Y (u_ld Y Y U9 Y Y (GExpr.sub2 e0)) (bindK H fun r'1 h3 H => rp Y (p_callp Y Y Y Tryd.func33 Y Y (g_ref_columnAt_ac h3) ⟨Y, Y, trivial⟩) (ra Y ?_)))))
  refine rz [(2, _), (6, _), (8, .i r'1)] [(6, _)] Y (AW2_seq (sg [0,1] Y (rm Y (rp Y (p_bin Y Y Y Y) (rz [(2, _), (6, _), (8, _), (25, .b (decide (r'1 < (0 : Int))))] [(6, _)] Y (if2 H Y (fun h4 H => ?_) (fun h4 H => ?_)))))))
  ·refine sg [0,1,2] Y (rp Y (u_bld Y in_24 one_24 zc_24 pl_24 Y Y) (rq Y (u_sw Y Y Y Y Y in_24 (GValue.len GValue.zero) (GValue.len GValue.zero) Y) (ra Y (rz [(6, _), (7, .i (5 : Int))] [(6, .pure (GValue.cs GValue.zero))] Y (AW2_ret ?_)))))
   obtain rfl := se H
   exact ⟨⟨rcw U24 Y in_24 Y (GValue.len GValue.zero), rt, trivial⟩, trivial⟩
  refine as2 [(2, _), (6, _), (8, _)] [(6, _)] Y (AW2_skip (sg [0,1,2,3,4,5] Y (rm Y (rm Y (chkK H fun h5 H => rp Y (u_ixl Y Y U29 in_24 Y Y (ixe h5) (ixn h5) (fne (fun x => (GValue.len x)) (by decide) (ixn h5))) ?_)))))
  refine rp Y (u_lda Y Y U24 Y in_24 Y np (Sub.fm default (fun x => (GValue.len x)) (ixn h5)) (GValue.len (lrd row2 r'1.toNat))) (rq Y (u_sw Y Y Y Y Y in_24 (GValue.len (lrd row2 r'1.toNat)) (GValue.len GValue.zero) Y) (ra Y (rz [(6, _), (7, .i (0 : Int))] [(6, .pure (GValue.cs (lrd row2 r'1.toNat)))] Y (AW2_ret ?_))))
  obtain rfl := se H
  exact ⟨⟨rcw U24 Y in_24 Y (GValue.len (lrd row2 r'1.toNat)), rt, trivial⟩, trivial⟩
 refine as2 [(1, _), (2, _), (3, _), (6, _)] [(3, _), (6, _)] Y (AW2_skip (sg [0,1,2,3,4,5,6,7,8,9,10,11,12] Y (rf Y U27 Y in_25 Y Y (GExpr.len e0) (rp Y (u_ld Y Y U25 Y Y (GExpr.sub3 e0)) (chkK H fun h6 H => rp Y (u_ixl Y Y U25 in_27 Y Y Y h6 (fne (fun x => (GExpr.len x)) (by decide) h6)) ?_)))))
 refine rp Y (u_lda Y Y U27 Y in_27 Y np (Sub.fm default (fun x => (GExpr.len x)) h6) (GExpr.len (lrd e0.Args 0))) (rm Y (rm Y (bindK H fun r'2 h7 H => rp Y (p_callp Y Y Y Tryd.func18 Y Y (hR h7) ⟨Y, Y, Y, trivial⟩) (rm Y (rp Y (p_ext Y Y Y Y) ?_)))))
 refine rp Y (p_ext Y Y Y Y) (rq Y (MakeD.opD (u_alloc 9 Y in_24 one_24 zc_24) Y Y Y Y) (rq Y (u_sw Y Y Y Y Y in_24 (GValue.len r'2.1) (GValue.len GValue.zero) Y) (ra Y (rz [(1, _), (2, _), (3, _), (6, _), (9, .q 9 (0)), (10, .i r'2.2)] [(3, .pure (GExpr.cs e0)), (6, .pure (GValue.cs GValue.zero)), (9, .pure (GValue.cs r'2.1))] Y (AW2_seq (AW2_seq ?_))))))
 refine AW2_mid (⟨[(1, .p (GColumn.ls cols1)), (2, .p (GValue.ls row2)), (3, .q 3 (0)), (6, .q 6 (0)), (9, .q 9 (0)), (10, .i r'2.2), (48, .b (decide ((r'2.2 ≠ (0 : Int)) ∨ ((e0.Args.length : Int) = (1 : Int)))))], [(3, .pure (GExpr.cs e0)), (6, .pure (GValue.cs GValue.zero)), (9, .pure (GValue.cs r'2.1))], 115⟩ : TS) ?_ ?_
 ·refine AW2_reg [0,1,2,3,4,5,6,7] Y (rm Y (rp Y (p_ine Y Y Y) (rm Y ?_)))
  refine (Classical.em (r'2.2 ≠ (0 : Int))).elim (fun h8 => ?_) (fun h8 => ?_)
  ·iterate 4 (refine rO Y (dT h8) Y ?_)
   exact rp Y (p_pkt Y Y (dT h8) (tb (dT (p := (r'2.2 ≠ (0 : Int)) ∨ ((e0.Args.length : Int) = (1 : Int))) (Or.inl h8)).symm)) (rend Y Y)
  exact rn Y (dF h8) Y (u_fa Y Y U27 Y in_25 nz Y Y (nl (GExpr.len e0))) (rn Y (dF h8) Y (u_ld Y Y U25 Y Y (GExpr.sub3 e0)) (rn Y (dF h8) Y (p_lenl Y U25 Y Y) (rn Y (dF h8) Y (p_ieq Y Y Y) (rp Y (p_pkf Y Y (dF h8) (tb ((or_l (p := r'2.2 ≠ (0 : Int)) (q := (e0.Args.length : Int) = (1 : Int)) h8)))) (rend Y Y)))))
 refine if2 H Y (fun h9 H => ?_) (fun h9 H => ?_)
 ·refine AW2_seq (sg [0,1] Y (rm Y (rp Y (p_ine Y Y Y) (rz [(3, _), (6, _), (9, _), (10, _), (50, .b (decide (r'2.2 ≠ (0 : Int))))] [(3, _), (6, _), (9, _)] Y (if2 H Y (fun h10 H => ?_) (fun h10 H => ?_))))))
  ·refine sg [0,1,2,3] Y (rp Y (u_bld Y in_24 one_24 zc_24 pl_24 Y Y) (rm Y (rq Y (u_sw Y Y Y Y Y in_24 (GValue.len GValue.zero) (GValue.len GValue.zero) Y) (ra Y (rz [(6, _), (7, .i r'2.2)] [(6, .pure (GValue.cs GValue.zero))] Y (AW2_ret ?_))))))
   obtain rfl := se H
   exact ⟨⟨rcw U24 Y in_24 Y (GValue.len GValue.zero), rt, trivial⟩, trivial⟩
  refine as2 [(3, _), (6, _), (9, _)] [(3, _), (6, _), (9, _)] Y (AW2_skip (sg [0,1,2,3,4,5,6,7,8] Y (rf Y U27 Y in_3 Y Y (GExpr.len e0) (rp Y (u_ld Y Y U3 Y Y (GExpr.sub0 e0)) (rp Y (u_lda Y Y U24 Y in_24 Y np (Sub.refl _) (GValue.len r'2.1)) (rp Y (u_bld Y in_24 one_24 zc_24 pl_24 Y Y) ?_))))))
  refine bindK H fun r'3 h11 H => rp Y (p_callp Y Y Y Tryd.func34 Y Y (g_ref_did_ac h11) ⟨Y, Y, Y, trivial⟩) (rp Y (p_ext Y Y Y Y) (rp Y (p_ext Y Y Y Y) (rq Y (u_sw Y Y Y Y Y in_24 (GValue.len r'3.1) (GValue.len GValue.zero) Y) (ra Y (rz [(6, _), (7, .i r'3.2)] [(6, .pure (GValue.cs r'3.1))] Y ?_)))))
  refine AW2_ret ?_
  obtain rfl := se H
  exact ⟨⟨rcw U24 Y in_24 Y (GValue.len r'3.1), rt, trivial⟩, trivial⟩
 refine as2 [(1, _), (2, _), (3, _), (6, _), (9, _)] [(3, _), (6, _), (9, _)] Y (AW2_skip (AW2_seq (AW2_seq (AW2_mid (⟨[(1, .p (GColumn.ls cols1)), (2, .p (GValue.ls row2)), (3, .q 3 (0)), (6, .q 6 (0)), (9, .q 9 (0)), (92, .b (decide (((e0.Op = (20 : Int)) ∧ (r'2.1.Kind ≠ (0 : Int))) ∨ ((r'2.1.Kind = (1 : Int)) ∧ (((e0.Op = (15 : Int)) ∧ (r'2.1.Int_ = (0 : Int))) ∨ ((e0.Op = (16 : Int)) ∧ (r'2.1.Int_ = (1 : Int))))))))], [(3, .pure (GExpr.cs e0)), (6, .pure (GValue.cs GValue.zero)), (9, .pure (GValue.cs r'2.1))], 115⟩ : TS) ?_ ?_))))
 ·refine AW2_reg [0,1,2,3,4,5,6,7,8,9,10,11,12,13,14,15,16,17,18,19,20,21,22,23,24,25,26,27,28,29,30,31,32] Y (rf Y U27 Y in_3 Y Y (GExpr.len e0) (rp Y (u_ld Y Y U3 Y Y (GExpr.sub0 e0)) (rp Y (p_ieq Y Y Y) (rm Y ?_))))
  refine (Classical.em (e0.Op = (20 : Int))).elim (fun h12 => ?_) (fun h12 => ?_)
  ·refine rn Y (dT h12) Y (u_fa Y Y U24 Y in_3 nz Y Y (nl (GValue.len r'2.1))) (rn Y (dT h12) Y (u_ld Y Y U3 Y Y (GValue.sub0 r'2.1)) (rn Y (dT h12) Y (p_ine Y Y Y) (rp Y (p_pkt Y Y (dT h12) (tb ((and_l (p := e0.Op = (20 : Int)) (q := r'2.1.Kind ≠ (0 : Int)) h12)))) (rm Y ?_))))
   refine (Classical.em (r'2.1.Kind ≠ (0 : Int))).elim (fun h13 => ?_) (fun h13 => ?_)
   ·have qq1 := dT (p := (e0.Op = (20 : Int)) ∧ (r'2.1.Kind ≠ (0 : Int))) ⟨h12, h13⟩
    iterate 4 (refine rO Y qq1 Y ?_)
    iterate 18 (refine r_off2 rfl rfl rfl rfl rfl rfl ?_)
    exact rO Y qq1 Y (rp Y (p_pkt Y Y qq1 (tb (dT (p := ((e0.Op = (20 : Int)) ∧ (r'2.1.Kind ≠ (0 : Int))) ∨ ((r'2.1.Kind = (1 : Int)) ∧ (((e0.Op = (15 : Int)) ∧ (r'2.1.Int_ = (0 : Int))) ∨ ((e0.Op = (16 : Int)) ∧ (r'2.1.Int_ = (1 : Int)))))) (Or.inl ⟨h12, h13⟩)).symm)) (rend Y Y))
   have qq2 := dF (p := (e0.Op = (20 : Int)) ∧ (r'2.1.Kind ≠ (0 : Int))) (fun h => h13 h.2)
   refine rn Y qq2 Y (u_fa Y Y U24 Y in_3 nz Y Y (nl (GValue.len r'2.1))) (rn Y qq2 Y (u_ld Y Y U3 Y Y (GValue.sub0 r'2.1)) (rn Y qq2 Y (p_ieq Y Y Y) (rn Y qq2 Y (p_move Y Y) ?_)))
   refine (Classical.em (r'2.1.Kind = (1 : Int))).elim (fun h14 => ?_) (fun h14 => ?_)
   ·refine rn Y (dT h14) Y (u_fa Y Y U27 Y in_3 nz Y Y (nl (GExpr.len e0))) (rn Y (dT h14) Y (u_ld Y Y U3 Y Y (GExpr.sub0 e0)) (rn Y (dT h14) Y (p_ieq Y Y Y) (rn Y (dT h14) Y (p_move Y Y) ?_)))
    refine (Classical.em (e0.Op = (15 : Int))).elim (fun h15 => ?_) (fun h15 => ?_)
    ·refine rn Y (dT h15) Y (u_fa Y Y U24 Y in_3 nz Y Y (nl (GValue.len r'2.1))) (rn Y (dT h15) Y (u_ld Y Y U3 Y Y (GValue.sub1 r'2.1)) (rn Y (dT h15) Y (p_ieq Y Y Y) (rn Y (dT h14) Y (p_pkt Y Y (dT h15) (tb ((and_l (p := e0.Op = (15 : Int)) (q := r'2.1.Int_ = (0 : Int)) h15)))) (rn Y (dT h14) Y (p_move Y Y) ?_))))
     refine (Classical.em (r'2.1.Int_ = (0 : Int))).elim (fun h16 => ?_) (fun h16 => ?_)
     ·have qq3 := dT (p := (e0.Op = (15 : Int)) ∧ (r'2.1.Int_ = (0 : Int))) ⟨h15, h16⟩
      iterate 4 (refine rO Y qq3 Y ?_)
      iterate 3 (refine r_off2 rfl rfl rfl rfl rfl rfl ?_)
      exact rO Y qq3 Y (rn Y (dT h14) Y (p_pkt Y Y qq3 (tb (dT (p := ((e0.Op = (15 : Int)) ∧ (r'2.1.Int_ = (0 : Int))) ∨ ((e0.Op = (16 : Int)) ∧ (r'2.1.Int_ = (1 : Int)))) (Or.inl ⟨h15, h16⟩)).symm)) (rn Y qq2 Y (p_pkt Y Y (dT h14) (tb ((and_l (p := r'2.1.Kind = (1 : Int)) (q := ((e0.Op = (15 : Int)) ∧ (r'2.1.Int_ = (0 : Int))) ∨ ((e0.Op = (16 : Int)) ∧ (r'2.1.Int_ = (1 : Int)))) h14)))) (rp Y (p_pkf Y Y qq2 (tb ((or_l (p := (e0.Op = (20 : Int)) ∧ (r'2.1.Kind ≠ (0 : Int))) (q := (r'2.1.Kind = (1 : Int)) ∧ (((e0.Op = (15 : Int)) ∧ (r'2.1.Int_ = (0 : Int))) ∨ ((e0.Op = (16 : Int)) ∧ (r'2.1.Int_ = (1 : Int))))) (fun h => h13 h.2))))) (rend Y Y))))
     have qq4 := dF (p := (e0.Op = (15 : Int)) ∧ (r'2.1.Int_ = (0 : Int))) (fun h => h16 h.2)
     refine rn Y qq4 Y (u_fa Y Y U27 Y in_3 nz Y Y (nl (GExpr.len e0))) (rn Y qq4 Y (u_ld Y Y U3 Y Y (GExpr.sub0 e0)) (rn Y qq4 Y (p_ieq Y Y Y) (rn Y qq4 Y (p_move Y Y) ?_)))
     refine (Classical.em (e0.Op = (16 : Int))).elim (fun h17 => ?_) (fun h17 => ?_)
     ·refine rn Y (dT h17) Y (u_fa Y Y U24 Y in_3 nz Y Y (nl (GValue.len r'2.1))) (rn Y (dT h17) Y (u_ld Y Y U3 Y Y (GValue.sub1 r'2.1)) (rn Y (dT h17) Y (p_ieq Y Y Y) (rn Y qq4 Y (p_pkt Y Y (dT h17) (tb ((and_l (p := e0.Op = (16 : Int)) (q := r'2.1.Int_ = (1 : Int)) h17)))) (rn Y (dT h14) Y (p_pkf Y Y qq4 (tb ((or_l (p := (e0.Op = (15 : Int)) ∧ (r'2.1.Int_ = (0 : Int))) (q := (e0.Op = (16 : Int)) ∧ (r'2.1.Int_ = (1 : Int))) (fun h => h16 h.2))))) (rn Y qq2 Y (p_pkt Y Y (dT h14) (tb ((and_l (p := r'2.1.Kind = (1 : Int)) (q := ((e0.Op = (15 : Int)) ∧ (r'2.1.Int_ = (0 : Int))) ∨ ((e0.Op = (16 : Int)) ∧ (r'2.1.Int_ = (1 : Int)))) h14)))) (rp Y (p_pkf Y Y qq2 (tb ((or_l (p := (e0.Op = (20 : Int)) ∧ (r'2.1.Kind ≠ (0 : Int))) (q := (r'2.1.Kind = (1 : Int)) ∧ (((e0.Op = (15 : Int)) ∧ (r'2.1.Int_ = (0 : Int))) ∨ ((e0.Op = (16 : Int)) ∧ (r'2.1.Int_ = (1 : Int))))) (fun h => h13 h.2))))) ?_))))))
      exact rend Y Y
     iterate 3 (refine rO Y (dF h17) Y ?_)
     exact rn Y qq4 Y (p_pkf Y Y (dF h17) (tb (dF (p := (e0.Op = (16 : Int)) ∧ (r'2.1.Int_ = (1 : Int))) (fun x => h17 x.1)).symm)) (rn Y (dT h14) Y (p_pkf Y Y qq4 (tb ((or_l (p := (e0.Op = (15 : Int)) ∧ (r'2.1.Int_ = (0 : Int))) (q := (e0.Op = (16 : Int)) ∧ (r'2.1.Int_ = (1 : Int))) (fun h => h16 h.2))))) (rn Y qq2 Y (p_pkt Y Y (dT h14) (tb ((and_l (p := r'2.1.Kind = (1 : Int)) (q := ((e0.Op = (15 : Int)) ∧ (r'2.1.Int_ = (0 : Int))) ∨ ((e0.Op = (16 : Int)) ∧ (r'2.1.Int_ = (1 : Int)))) h14)))) (rp Y (p_pkf Y Y qq2 (tb ((or_l (p := (e0.Op = (20 : Int)) ∧ (r'2.1.Kind ≠ (0 : Int))) (q := (r'2.1.Kind = (1 : Int)) ∧ (((e0.Op = (15 : Int)) ∧ (r'2.1.Int_ = (0 : Int))) ∨ ((e0.Op = (16 : Int)) ∧ (r'2.1.Int_ = (1 : Int))))) (fun h => h13 h.2))))) (rend Y Y))))
    iterate 3 (refine rO Y (dF h15) Y ?_)
    refine rn Y (dT h14) Y (p_pkf Y Y (dF h15) (tb (dF (p := (e0.Op = (15 : Int)) ∧ (r'2.1.Int_ = (0 : Int))) (fun x => h15 x.1)).symm)) (rn Y (dT h14) Y (p_move Y Y) ?_)
    have qq5 := dF (p := (e0.Op = (15 : Int)) ∧ (r'2.1.Int_ = (0 : Int))) (fun h => h15 h.1)
    refine rn Y qq5 Y (u_fa Y Y U27 Y in_3 nz Y Y (nl (GExpr.len e0))) (rn Y qq5 Y (u_ld Y Y U3 Y Y (GExpr.sub0 e0)) (rn Y qq5 Y (p_ieq Y Y Y) (rn Y qq5 Y (p_move Y Y) ?_)))
    refine (Classical.em (e0.Op = (16 : Int))).elim (fun h18 => ?_) (fun h18 => ?_)
    ·refine rn Y (dT h18) Y (u_fa Y Y U24 Y in_3 nz Y Y (nl (GValue.len r'2.1))) (rn Y (dT h18) Y (u_ld Y Y U3 Y Y (GValue.sub1 r'2.1)) (rn Y (dT h18) Y (p_ieq Y Y Y) (rn Y qq5 Y (p_pkt Y Y (dT h18) (tb ((and_l (p := e0.Op = (16 : Int)) (q := r'2.1.Int_ = (1 : Int)) h18)))) (rn Y (dT h14) Y (p_pkf Y Y qq5 (tb ((or_l (p := (e0.Op = (15 : Int)) ∧ (r'2.1.Int_ = (0 : Int))) (q := (e0.Op = (16 : Int)) ∧ (r'2.1.Int_ = (1 : Int))) (fun h => h15 h.1))))) (rn Y qq2 Y (p_pkt Y Y (dT h14) (tb ((and_l (p := r'2.1.Kind = (1 : Int)) (q := ((e0.Op = (15 : Int)) ∧ (r'2.1.Int_ = (0 : Int))) ∨ ((e0.Op = (16 : Int)) ∧ (r'2.1.Int_ = (1 : Int)))) h14)))) (rp Y (p_pkf Y Y qq2 (tb ((or_l (p := (e0.Op = (20 : Int)) ∧ (r'2.1.Kind ≠ (0 : Int))) (q := (r'2.1.Kind = (1 : Int)) ∧ (((e0.Op = (15 : Int)) ∧ (r'2.1.Int_ = (0 : Int))) ∨ ((e0.Op = (16 : Int)) ∧ (r'2.1.Int_ = (1 : Int))))) (fun h => h13 h.2))))) ?_))))))
     exact rend Y Y
    iterate 3 (refine rO Y (dF h18) Y ?_)
    exact rn Y qq5 Y (p_pkf Y Y (dF h18) (tb (dF (p := (e0.Op = (16 : Int)) ∧ (r'2.1.Int_ = (1 : Int))) (fun x => h18 x.1)).symm)) (rn Y (dT h14) Y (p_pkf Y Y qq5 (tb ((or_l (p := (e0.Op = (15 : Int)) ∧ (r'2.1.Int_ = (0 : Int))) (q := (e0.Op = (16 : Int)) ∧ (r'2.1.Int_ = (1 : Int))) (fun h => h15 h.1))))) (rn Y qq2 Y (p_pkt Y Y (dT h14) (tb ((and_l (p := r'2.1.Kind = (1 : Int)) (q := ((e0.Op = (15 : Int)) ∧ (r'2.1.Int_ = (0 : Int))) ∨ ((e0.Op = (16 : Int)) ∧ (r'2.1.Int_ = (1 : Int)))) h14)))) (rp Y (p_pkf Y Y qq2 (tb ((or_l (p := (e0.Op = (20 : Int)) ∧ (r'2.1.Kind ≠ (0 : Int))) (q := (r'2.1.Kind = (1 : Int)) ∧ (((e0.Op = (15 : Int)) ∧ (r'2.1.Int_ = (0 : Int))) ∨ ((e0.Op = (16 : Int)) ∧ (r'2.1.Int_ = (1 : Int))))) (fun h => h13 h.2))))) (rend Y Y))))
   iterate 4 (refine rO Y (dF h14) Y ?_)
   iterate 3 (refine r_off2 rfl rfl rfl rfl rfl rfl ?_)
   iterate 2 (refine rO Y (dF h14) Y ?_)
   iterate 8 (refine r_off2 rfl rfl rfl rfl rfl rfl ?_)
   exact rO Y (dF h14) Y (rn Y qq2 Y (p_pkf Y Y (dF h14) (tb (dF (p := (r'2.1.Kind = (1 : Int)) ∧ (((e0.Op = (15 : Int)) ∧ (r'2.1.Int_ = (0 : Int))) ∨ ((e0.Op = (16 : Int)) ∧ (r'2.1.Int_ = (1 : Int))))) (fun x => h14 x.1)).symm)) (rp Y (p_pkf Y Y qq2 (tb ((or_l (p := (e0.Op = (20 : Int)) ∧ (r'2.1.Kind ≠ (0 : Int))) (q := (r'2.1.Kind = (1 : Int)) ∧ (((e0.Op = (15 : Int)) ∧ (r'2.1.Int_ = (0 : Int))) ∨ ((e0.Op = (16 : Int)) ∧ (r'2.1.Int_ = (1 : Int))))) (fun h => h13 h.2))))) (rend Y Y)))
  iterate 3 (refine rO Y (dF h12) Y ?_)
  refine rp Y (p_pkf Y Y (dF h12) (tb (dF (p := (e0.Op = (20 : Int)) ∧ (r'2.1.Kind ≠ (0 : Int))) (fun x => h12 x.1)).symm)) (rm Y ?_)
  have qq6 := dF (p := (e0.Op = (20 : Int)) ∧ (r'2.1.Kind ≠ (0 : Int))) (fun h => h12 h.1)
  refine rn Y qq6 Y (u_fa Y Y U24 Y in_3 nz Y Y (nl (GValue.len r'2.1))) (rn Y qq6 Y (u_ld Y Y U3 Y Y (GValue.sub0 r'2.1)) (rn Y qq6 Y (p_ieq Y Y Y) (rn Y qq6 Y (p_move Y Y) ?_)))
  refine (Classical.em (r'2.1.Kind = (1 : Int))).elim (fun h19 => ?_) (fun h19 => ?_)
  ·refine rn Y (dT h19) Y (u_fa Y Y U27 Y in_3 nz Y Y (nl (GExpr.len e0))) (rn Y (dT h19) Y (u_ld Y Y U3 Y Y (GExpr.sub0 e0)) (rn Y (dT h19) Y (p_ieq Y Y Y) (rn Y (dT h19) Y (p_move Y Y) ?_)))
   refine (Classical.em (e0.Op = (15 : Int))).elim (fun h20 => ?_) (fun h20 => ?_)
   ·refine rn Y (dT h20) Y (u_fa Y Y U24 Y in_3 nz Y Y (nl (GValue.len r'2.1))) (rn Y (dT h20) Y (u_ld Y Y U3 Y Y (GValue.sub1 r'2.1)) (rn Y (dT h20) Y (p_ieq Y Y Y) (rn Y (dT h19) Y (p_pkt Y Y (dT h20) (tb ((and_l (p := e0.Op = (15 : Int)) (q := r'2.1.Int_ = (0 : Int)) h20)))) (rn Y (dT h19) Y (p_move Y Y) ?_))))
    refine (Classical.em (r'2.1.Int_ = (0 : Int))).elim (fun h21 => ?_) (fun h21 => ?_)
    ·have qq7 := dT (p := (e0.Op = (15 : Int)) ∧ (r'2.1.Int_ = (0 : Int))) ⟨h20, h21⟩
     iterate 4 (refine rO Y qq7 Y ?_)
     iterate 3 (refine r_off2 rfl rfl rfl rfl rfl rfl ?_)
     exact rO Y qq7 Y (rn Y (dT h19) Y (p_pkt Y Y qq7 (tb (dT (p := ((e0.Op = (15 : Int)) ∧ (r'2.1.Int_ = (0 : Int))) ∨ ((e0.Op = (16 : Int)) ∧ (r'2.1.Int_ = (1 : Int)))) (Or.inl ⟨h20, h21⟩)).symm)) (rn Y qq6 Y (p_pkt Y Y (dT h19) (tb ((and_l (p := r'2.1.Kind = (1 : Int)) (q := ((e0.Op = (15 : Int)) ∧ (r'2.1.Int_ = (0 : Int))) ∨ ((e0.Op = (16 : Int)) ∧ (r'2.1.Int_ = (1 : Int)))) h19)))) (rp Y (p_pkf Y Y qq6 (tb ((or_l (p := (e0.Op = (20 : Int)) ∧ (r'2.1.Kind ≠ (0 : Int))) (q := (r'2.1.Kind = (1 : Int)) ∧ (((e0.Op = (15 : Int)) ∧ (r'2.1.Int_ = (0 : Int))) ∨ ((e0.Op = (16 : Int)) ∧ (r'2.1.Int_ = (1 : Int))))) (fun h => h12 h.1))))) (rend Y Y))))
    have qq8 := dF (p := (e0.Op = (15 : Int)) ∧ (r'2.1.Int_ = (0 : Int))) (fun h => h21 h.2)
    refine rn Y qq8 Y (u_fa Y Y U27 Y in_3 nz Y Y (nl (GExpr.len e0))) (rn Y qq8 Y (u_ld Y Y U3 Y Y (GExpr.sub0 e0)) (rn Y qq8 Y (p_ieq Y Y Y) (rn Y qq8 Y (p_move Y Y) ?_)))
    refine (Classical.em (e0.Op = (16 : Int))).elim (fun h22 => ?_) (fun h22 => ?_)
    ·refine rn Y (dT h22) Y (u_fa Y Y U24 Y in_3 nz Y Y (nl (GValue.len r'2.1))) (rn Y (dT h22) Y (u_ld Y Y U3 Y Y (GValue.sub1 r'2.1)) (rn Y (dT h22) Y (p_ieq Y Y Y) (rn Y qq8 Y (p_pkt Y Y (dT h22) (tb ((and_l (p := e0.Op = (16 : Int)) (q := r'2.1.Int_ = (1 : Int)) h22)))) (rn Y (dT h19) Y (p_pkf Y Y qq8 (tb ((or_l (p := (e0.Op = (15 : Int)) ∧ (r'2.1.Int_ = (0 : Int))) (q := (e0.Op = (16 : Int)) ∧ (r'2.1.Int_ = (1 : Int))) (fun h => h21 h.2))))) (rn Y qq6 Y (p_pkt Y Y (dT h19) (tb ((and_l (p := r'2.1.Kind = (1 : Int)) (q := ((e0.Op = (15 : Int)) ∧ (r'2.1.Int_ = (0 : Int))) ∨ ((e0.Op = (16 : Int)) ∧ (r'2.1.Int_ = (1 : Int)))) h19)))) (rp Y (p_pkf Y Y qq6 (tb ((or_l (p := (e0.Op = (20 : Int)) ∧ (r'2.1.Kind ≠ (0 : Int))) (q := (r'2.1.Kind = (1 : Int)) ∧ (((e0.Op = (15 : Int)) ∧ (r'2.1.Int_ = (0 : Int))) ∨ ((e0.Op = (16 : Int)) ∧ (r'2.1.Int_ = (1 : Int))))) (fun h => h12 h.1))))) ?_))))))
     exact rend Y Y
    iterate 3 (refine rO Y (dF h22) Y ?_)
    exact rn Y qq8 Y (p_pkf Y Y (dF h22) (tb (dF (p := (e0.Op = (16 : Int)) ∧ (r'2.1.Int_ = (1 : Int))) (fun x => h22 x.1)).symm)) (rn Y (dT h19) Y (p_pkf Y Y qq8 (tb ((or_l (p := (e0.Op = (15 : Int)) ∧ (r'2.1.Int_ = (0 : Int))) (q := (e0.Op = (16 : Int)) ∧ (r'2.1.Int_ = (1 : Int))) (fun h => h21 h.2))))) (rn Y qq6 Y (p_pkt Y Y (dT h19) (tb ((and_l (p := r'2.1.Kind = (1 : Int)) (q := ((e0.Op = (15 : Int)) ∧ (r'2.1.Int_ = (0 : Int))) ∨ ((e0.Op = (16 : Int)) ∧ (r'2.1.Int_ = (1 : Int)))) h19)))) (rp Y (p_pkf Y Y qq6 (tb ((or_l (p := (e0.Op = (20 : Int)) ∧ (r'2.1.Kind ≠ (0 : Int))) (q := (r'2.1.Kind = (1 : Int)) ∧ (((e0.Op = (15 : Int)) ∧ (r'2.1.Int_ = (0 : Int))) ∨ ((e0.Op = (16 : Int)) ∧ (r'2.1.Int_ = (1 : Int))))) (fun h => h12 h.1))))) (rend Y Y))))
   iterate 3 (refine rO Y (dF h20) Y ?_)
   refine rn Y (dT h19) Y (p_pkf Y Y (dF h20) (tb (dF (p := (e0.Op = (15 : Int)) ∧ (r'2.1.Int_ = (0 : Int))) (fun x => h20 x.1)).symm)) (rn Y (dT h19) Y (p_move Y Y) ?_)
   have qq9 := dF (p := (e0.Op = (15 : Int)) ∧ (r'2.1.Int_ = (0 : Int))) (fun h => h20 h.1)
   refine rn Y qq9 Y (u_fa Y Y U27 Y in_3 nz Y Y (nl (GExpr.len e0))) (rn Y qq9 Y (u_ld Y Y U3 Y Y (GExpr.sub0 e0)) (rn Y qq9 Y (p_ieq Y Y Y) (rn Y qq9 Y (p_move Y Y) ?_)))
   refine (Classical.em (e0.Op = (16 : Int))).elim (fun h23 => ?_) (fun h23 => ?_)
   ·refine rn Y (dT h23) Y (u_fa Y Y U24 Y in_3 nz Y Y (nl (GValue.len r'2.1))) (rn Y (dT h23) Y (u_ld Y Y U3 Y Y (GValue.sub1 r'2.1)) (rn Y (dT h23) Y (p_ieq Y Y Y) (rn Y qq9 Y (p_pkt Y Y (dT h23) (tb ((and_l (p := e0.Op = (16 : Int)) (q := r'2.1.Int_ = (1 : Int)) h23)))) (rn Y (dT h19) Y (p_pkf Y Y qq9 (tb ((or_l (p := (e0.Op = (15 : Int)) ∧ (r'2.1.Int_ = (0 : Int))) (q := (e0.Op = (16 : Int)) ∧ (r'2.1.Int_ = (1 : Int))) (fun h => h20 h.1))))) (rn Y qq6 Y (p_pkt Y Y (dT h19) (tb ((and_l (p := r'2.1.Kind = (1 : Int)) (q := ((e0.Op = (15 : Int)) ∧ (r'2.1.Int_ = (0 : Int))) ∨ ((e0.Op = (16 : Int)) ∧ (r'2.1.Int_ = (1 : Int)))) h19)))) (rp Y (p_pkf Y Y qq6 (tb ((or_l (p := (e0.Op = (20 : Int)) ∧ (r'2.1.Kind ≠ (0 : Int))) (q := (r'2.1.Kind = (1 : Int)) ∧ (((e0.Op = (15 : Int)) ∧ (r'2.1.Int_ = (0 : Int))) ∨ ((e0.Op = (16 : Int)) ∧ (r'2.1.Int_ = (1 : Int))))) (fun h => h12 h.1))))) ?_))))))
    exact rend Y Y
   iterate 3 (refine rO Y (dF h23) Y ?_)
   exact rn Y qq9 Y (p_pkf Y Y (dF h23) (tb (dF (p := (e0.Op = (16 : Int)) ∧ (r'2.1.Int_ = (1 : Int))) (fun x => h23 x.1)).symm)) (rn Y (dT h19) Y (p_pkf Y Y qq9 (tb ((or_l (p := (e0.Op = (15 : Int)) ∧ (r'2.1.Int_ = (0 : Int))) (q := (e0.Op = (16 : Int)) ∧ (r'2.1.Int_ = (1 : Int))) (fun h => h20 h.1))))) (rn Y qq6 Y (p_pkt Y Y (dT h19) (tb ((and_l (p := r'2.1.Kind = (1 : Int)) (q := ((e0.Op = (15 : Int)) ∧ (r'2.1.Int_ = (0 : Int))) ∨ ((e0.Op = (16 : Int)) ∧ (r'2.1.Int_ = (1 : Int)))) h19)))) (rp Y (p_pkf Y Y qq6 (tb ((or_l (p := (e0.Op = (20 : Int)) ∧ (r'2.1.Kind ≠ (0 : Int))) (q := (r'2.1.Kind = (1 : Int)) ∧ (((e0.Op = (15 : Int)) ∧ (r'2.1.Int_ = (0 : Int))) ∨ ((e0.Op = (16 : Int)) ∧ (r'2.1.Int_ = (1 : Int))))) (fun h => h12 h.1))))) (rend Y Y))))
  iterate 4 (refine rO Y (dF h19) Y ?_)
  iterate 3 (refine r_off2 rfl rfl rfl rfl rfl rfl ?_)
  iterate 2 (refine rO Y (dF h19) Y ?_)
  iterate 8 (refine r_off2 rfl rfl rfl rfl rfl rfl ?_)
  exact rO Y (dF h19) Y (rn Y qq6 Y (p_pkf Y Y (dF h19) (tb (dF (p := (r'2.1.Kind = (1 : Int)) ∧ (((e0.Op = (15 : Int)) ∧ (r'2.1.Int_ = (0 : Int))) ∨ ((e0.Op = (16 : Int)) ∧ (r'2.1.Int_ = (1 : Int))))) (fun x => h19 x.1)).symm)) (rp Y (p_pkf Y Y qq6 (tb ((or_l (p := (e0.Op = (20 : Int)) ∧ (r'2.1.Kind ≠ (0 : Int))) (q := (r'2.1.Kind = (1 : Int)) ∧ (((e0.Op = (15 : Int)) ∧ (r'2.1.Int_ = (0 : Int))) ∨ ((e0.Op = (16 : Int)) ∧ (r'2.1.Int_ = (1 : Int))))) (fun h => h12 h.1))))) (rend Y Y)))
 refine gen1 (fun t92'4 => (⟨[(1, .p (GColumn.ls cols1)), (2, .p (GValue.ls row2)), (3, .q 3 (0)), (6, .q 6 (0)), (9, .q 9 (0)), (92, .b t92'4)], [(3, .pure (GExpr.cs e0)), (6, .pure (GValue.cs GValue.zero)), (9, .pure (GValue.cs r'2.1))], 115⟩ : TS)) H ?_
 intro t92'4 H
 refine AW2_cond Y (fun h24 => ?_) (fun h24 => ?_)
 ·replace H := ite_then h24 H
  refine sg [0,1,2] Y (rp Y (u_lda Y Y U24 Y in_24 Y np (Sub.refl _) (GValue.len r'2.1)) (rq Y (u_sw Y Y Y Y Y in_24 (GValue.len r'2.1) (GValue.len GValue.zero) Y) (ra Y (rz [(6, .q 6 (0)), (7, .i (0 : Int))] [(6, .pure (GValue.cs r'2.1))] Y (AW2_ret ?_)))))
  obtain rfl := se H
  exact ⟨⟨rcw U24 Y in_24 Y (GValue.len r'2.1), rt, trivial⟩, trivial⟩
 replace H := ite_else (ne_true h24) H
 refine as2 [(1, .p (GColumn.ls cols1)), (2, .p (GValue.ls row2)), (3, .q 3 (0)), (6, .q 6 (0)), (9, .q 9 (0))] [(3, .pure (GExpr.cs e0)), (6, .pure (GValue.cs GValue.zero)), (9, .pure (GValue.cs r'2.1))] Y (AW2_skip (sg [0,1,2,3,4,5,6,7,8,9,10,11,12] Y (rf Y U27 Y in_25 Y Y (GExpr.len e0) (rp Y (u_ld Y Y U25 Y Y (GExpr.sub3 e0)) (chkK H fun h25 H => rp Y (u_ixl Y Y U25 in_27 Y Y Y h25 (fne (fun x => (GExpr.len x)) (by decide) h25)) ?_)))))
 refine rp Y (u_lda Y Y U27 Y in_27 Y np (Sub.fm default (fun x => (GExpr.len x)) h25) (GExpr.len (lrd e0.Args 1))) (rm Y (rm Y (bindK H fun r'5 h26 H => rp Y (p_callp Y Y Y Tryd.func18 Y Y (hR h26) ⟨Y, Y, Y, trivial⟩) (rm Y (rp Y (p_ext Y Y Y Y) ?_)))))
 refine rp Y (p_ext Y Y Y Y) (rq Y (MakeD.opD (u_alloc 11 Y in_24 one_24 zc_24) Y Y Y Y) (rq Y (u_sw Y Y Y Y Y in_24 (GValue.len r'5.1) (GValue.len GValue.zero) Y) (ra Y (rz [(3, _), (6, _), (9, _), (10, .i r'5.2), (11, .q 11 (0))] [(3, .pure (GExpr.cs e0)), (6, .pure (GValue.cs GValue.zero)), (9, .pure (GValue.cs r'2.1)), (11, .pure (GValue.cs r'5.1))] Y (AW2_seq (sg [0,1] Y ?_))))))
 refine rm Y (rp Y (p_ine Y Y Y) (rz [(3, _), (6, _), (9, _), (10, _), (11, _), (105, .b (decide (r'5.2 ≠ (0 : Int))))] [(3, _), (6, _), (9, _), (11, _)] Y (if2 H Y (fun h27 H => ?_) (fun h27 H => ?_))))
 ·refine sg [0,1,2,3] Y (rp Y (u_bld Y in_24 one_24 zc_24 pl_24 Y Y) (rm Y (rq Y (u_sw Y Y Y Y Y in_24 (GValue.len GValue.zero) (GValue.len GValue.zero) Y) (ra Y (rz [(6, _), (7, .i r'5.2)] [(6, .pure (GValue.cs GValue.zero))] Y (AW2_ret ?_))))))
  obtain rfl := se H
  exact ⟨⟨rcw U24 Y in_24 Y (GValue.len GValue.zero), rt, trivial⟩, trivial⟩
 refine as2 [(3, _), (6, _), (9, _), (11, _)] [(3, _), (6, _), (9, _), (11, _)] Y (AW2_skip (sg [0,1,2,3,4,5,6,7,8] Y (rf Y U27 Y in_3 Y Y (GExpr.len e0) (rp Y (u_ld Y Y U3 Y Y (GExpr.sub0 e0)) (rp Y (u_lda Y Y U24 Y in_24 Y np (Sub.refl _) (GValue.len r'2.1)) (rp Y (u_lda Y Y U24 Y in_24 Y np (Sub.refl _) (GValue.len r'5.1)) ?_))))))
 refine bindK H fun r'6 h28 H => rp Y (p_callp Y Y Y Tryd.func34 Y Y (g_ref_did_ac h28) ⟨Y, Y, Y, trivial⟩) (rp Y (p_ext Y Y Y Y) (rp Y (p_ext Y Y Y Y) (rq Y (u_sw Y Y Y Y Y in_24 (GValue.len r'6.1) (GValue.len GValue.zero) Y) (ra Y (rz [(6, _), (7, .i r'6.2)] [(6, .pure (GValue.cs r'6.1))] Y ?_)))))
 refine AW2_ret ?_
 obtain rfl := se H
 exact ⟨⟨rcw U24 Y in_24 Y (GValue.len r'6.1), rt, trivial⟩, trivial⟩
theorem g_ref_valued_acN : ∀ (fu : Nat) {e0 : GExpr} {cols1 : List GColumn} {row2 : List GValue} {r : GValue × Int}, g_ref_valued fu e0 cols1 row2 = some r → ACp Tryd.prog 18 [(.agg (GExpr.cs e0)), (GColumn.ls cols1), (GValue.ls row2)] (.tup [(.agg (GValue.cs r.1)), (AV.int r.2)])
 | 0, _, _, _, _, H => (by cases H)
 | fu + 1, _, _, _, _, H => g_ref_valued_ac0 (g_ref_valued_acN fu) H
theorem g_ref_valued_ac {e0 : GExpr} {cols1 : List GColumn} {row2 : List GValue} {r : GValue × Int} (H : g_ref_valued 100000 e0 cols1 row2 = some r) : ACp Tryd.prog 18 [(.agg (GExpr.cs e0)), (GColumn.ls cols1), (GValue.ls row2)] (.tup [(.agg (GValue.cs r.1)), (AV.int r.2)]) := g_ref_valued_acN 100000 H
noncomputable def g_ref_ValueOf (e0 : GExpr) (cols1 : List GColumn) (row2 : List GValue) : Option (GValue × Int) :=
  (g_ref_ExprFault e0).bind fun r'1 => (if r'1 ≠ (0 : Int) then some (GValue.zero, r'1) else (g_ref_RowFault row2 cols1).bind fun r'2 => (if r'2 ≠ (0 : Int) then some (GValue.zero, r'2) else (g_ref_valued 100000 e0 cols1 row2).bind fun r'3 => some (r'3.1, r'3.2)))
set_option maxHeartbeats 4000000 in
set_option maxRecDepth 100000 in
theorem g_ref_ValueOf_ac {e0 : GExpr} {cols1 : List GColumn} {row2 : List GValue} {r : GValue × Int} (H : g_ref_ValueOf e0 cols1 row2 = some r) : ACp Tryd.prog 7 [(.agg (GExpr.cs e0)), (GColumn.ls cols1), (GValue.ls row2)] (.tup [(.agg (GValue.cs r.1)), (AV.int r.2)]) := by
 refine ACp_of (AC2_of_body (vs := [.g (GValue.cs r.1), .i r.2]) Tryd.func7 Y Y (lb Y) Y ?_) (fun _ => .same _)
 unfold g_ref_ValueOf at H
 refine as2 [(0, .g (GExpr.cs e0)), (1, .p (GColumn.ls cols1)), (2, .p (GValue.ls row2))] [] Y (sg [0,1,2] Y (rq Y (MakeD.opD (n_box 3 Y Y) Y Y Y Y) (rq Y (MakeD.opD (u_alloc 6 Y in_24 one_24 zc_24) Y Y Y Y) (ra Y (rz [(1, _), (2, _), (3, .q 3 (0)), (6, .q 6 (0))] [(3, .pure (GExpr.cs e0)), (6, .pure (GValue.cs GValue.zero))] Y (AW2_seq ?_))))))
 refine sg [0,1,2] Y (rp Y (u_lda Y Y U27 Y in_27 Y np (Sub.refl _) (GExpr.len e0)) (bindK H fun r'1 h1 H => rp Y (p_callp Y Y Y Tryd.func16 Y Y (g_ref_ExprFault_ac h1) ⟨Y, trivial⟩) (ra Y (rz [(1, _), (2, _), (3, _), (6, _), (8, .i r'1)] [(3, _), (6, _)] Y (sg [0,1] Y ?_)))))
 refine rm Y (rp Y (p_ine Y Y Y) (rz [(1, _), (2, _), (3, _), (6, _), (8, _), (13, .b (decide (r'1 ≠ (0 : Int))))] [(3, _), (6, _)] Y (if2 H Y (fun h2 H => ?_) (fun h2 H => ?_))))
 ·refine sg [0,1,2,3] Y (rp Y (u_bld Y in_24 one_24 zc_24 pl_24 Y Y) (rm Y (rq Y (u_sw Y Y Y Y Y in_24 (GValue.len GValue.zero) (GValue.len GValue.zero) Y) (ra Y (rz [(6, _), (7, .i r'1)] [(6, .pure (GValue.cs GValue.zero))] Y (AW2_ret ?_))))))
  obtain rfl := se H
  exact ⟨⟨rcw U24 Y in_24 Y (GValue.len GValue.zero), rt, trivial⟩, trivial⟩
 refine as2 [(1, _), (2, _), (3, _), (6, _)] [(3, _), (6, _)] Y (AW2_skip (AW2_seq (sg [0,1,2,3] Y (rm Y (rm Y (bindK H fun r'2 h3 H => ?_))))))
 refine rp Y (p_callp Y Y Y Tryd.func17 Y Y (g_ref_RowFault_ac h3) ⟨Y, Y, trivial⟩) (ra Y (rz [(1, _), (2, _), (3, _), (6, _), (9, .i r'2)] [(3, _), (6, _)] Y (sg [0,1] Y (rm Y (rp Y (p_ine Y Y Y) (rz [(1, _), (2, _), (3, _), (6, _), (9, _), (20, .b (decide (r'2 ≠ (0 : Int))))] [(3, _), (6, _)] Y ?_))))))
 refine if2 H Y (fun h4 H => ?_) (fun h4 H => ?_)
 ·refine sg [0,1,2,3] Y (rp Y (u_bld Y in_24 one_24 zc_24 pl_24 Y Y) (rm Y (rq Y (u_sw Y Y Y Y Y in_24 (GValue.len GValue.zero) (GValue.len GValue.zero) Y) (ra Y (rz [(6, _), (7, .i r'2)] [(6, .pure (GValue.cs GValue.zero))] Y (AW2_ret ?_))))))
  obtain rfl := se H
  exact ⟨⟨rcw U24 Y in_24 Y (GValue.len GValue.zero), rt, trivial⟩, trivial⟩
 refine as2 [(1, _), (2, _), (3, _), (6, _)] [(3, _), (6, _)] Y (AW2_skip (sg [0,1,2,3,4,5,6,7] Y (rp Y (u_lda Y Y U27 Y in_27 Y np (Sub.refl _) (GExpr.len e0)) (rm Y (rm Y (bindK H fun r'3 h5 H => ?_))))))
 refine rp Y (p_callp Y Y Y Tryd.func18 Y Y (g_ref_valued_ac h5) ⟨Y, Y, Y, trivial⟩) (rp Y (p_ext Y Y Y Y) (rp Y (p_ext Y Y Y Y) (rq Y (u_sw Y Y Y Y Y in_24 (GValue.len r'3.1) (GValue.len GValue.zero) Y) (ra Y (rz [(6, _), (7, .i r'3.2)] [(6, .pure (GValue.cs r'3.1))] Y (AW2_ret ?_))))))
 obtain rfl := se H
 exact ⟨⟨rcw U24 Y in_24 Y (GValue.len r'3.1), rt, trivial⟩, trivial⟩
noncomputable def g_law_EvalEvals (x0 : GExpr) (cols1 : List GColumn) (row2 : List GValue) : Option (Bool) :=
  (g_eval_Eval x0 cols1 row2).bind fun r'1 => (g_ref_ValueOf x0 cols1 row2).bind fun r'2 => some (decide ((r'1.2 = r'2.2) ∧ (r'1.1 = r'2.1)))
set_option maxHeartbeats 4000000 in
set_option maxRecDepth 100000 in
theorem g_law_EvalEvals_ac {x0 : GExpr} {cols1 : List GColumn} {row2 : List GValue} {r : Bool} (H : g_law_EvalEvals x0 cols1 row2 = some r) : ACp Tryd.prog 3 [(.agg (GExpr.cs x0)), (GColumn.ls cols1), (GValue.ls row2)] (AV.bool r) := by
 refine ACp_of (AC2_of_body (vs := [.b r]) Tryd.func3 Y Y (lb Y) Y ?_) (fun _ => .same _)
 unfold g_law_EvalEvals at H
 refine as2 [(0, .g (GExpr.cs x0)), (1, .p (GColumn.ls cols1)), (2, .p (GValue.ls row2))] [] Y (sg [0,1] Y (rq Y (MakeD.opD (n_box 3 Y Y) Y Y Y Y) (ra Y (rz [(1, _), (2, _), (3, .q 3 (0))] [(3, .pure (GExpr.cs x0))] Y (sg [0,1,2,3,4,5,6,7,8,9] Y (rp Y (u_lda Y Y U27 Y in_27 Y np (Sub.refl _) (GExpr.len x0)) ?_))))))
 refine rm Y (rm Y (bindK H fun r'1 h1 H => rp Y (p_callp Y Y Y Tryd.func6 Y Y (g_eval_Eval_ac h1) ⟨Y, Y, Y, trivial⟩) (rm Y (rp Y (p_ext Y Y Y Y) (rp Y (p_ext Y Y Y Y) ?_)))))
 refine rq Y (MakeD.opD (u_alloc 7 Y in_24 one_24 zc_24) Y Y Y Y) (rq Y (u_sw Y Y Y Y Y in_24 (GValue.len r'1.1) (GValue.len GValue.zero) Y) (ra Y (rz [(1, _), (2, _), (3, _), (7, .q 7 (0)), (8, .i r'1.2)] [(3, .pure (GExpr.cs x0)), (7, .pure (GValue.cs r'1.1))] Y (sg [0,1,2,3,4,5,6,7,8,9] Y (rp Y (u_lda Y Y U27 Y in_27 Y np (Sub.refl _) (GExpr.len x0)) (rm Y ?_))))))
 refine rm Y (bindK H fun r'2 h2 H => rp Y (p_callp Y Y Y Tryd.func7 Y Y (g_ref_ValueOf_ac h2) ⟨Y, Y, Y, trivial⟩) (rm Y (rp Y (p_ext Y Y Y Y) (rp Y (p_ext Y Y Y Y) (rq Y (MakeD.opD (u_alloc 9 Y in_24 one_24 zc_24) Y Y Y Y) ?_)))))
 refine rq Y (u_sw Y Y Y Y Y in_24 (GValue.len r'2.1) (GValue.len GValue.zero) Y) (ra Y (rz [(7, _), (8, _), (9, .q 9 (0)), (10, .i r'2.2)] [(7, .pure (GValue.cs r'1.1)), (9, .pure (GValue.cs r'2.1))] Y (AW2_seq (AW2_mid (⟨[(6, .b (decide ((r'1.2 = r'2.2) ∧ (r'1.1 = r'2.1))))], [], 33⟩ : TS) ?_ ?_))))
 ·refine AW2_reg [0,1,2,3,4,5,6,7,8] Y (rm Y (rm Y (rp Y (p_ieq Y Y Y) (rm Y ?_))))
  refine (Classical.em (r'1.2 = r'2.2)).elim (fun h3 => ?_) (fun h3 => ?_)
  ·exact rn Y (dT h3) Y (u_lda Y Y U24 Y in_24 Y np (Sub.refl _) (GValue.len r'1.1)) (rn Y (dT h3) Y (u_lda Y Y U24 Y in_24 Y np (Sub.refl _) (GValue.len r'2.1)) (rn Y (dT h3) Y (p_eqa (a := r'1.1) (b := r'2.1) Y eq_24 Y (by kernel_rfl) Y Y) (rp Y (p_pkt Y Y (dT h3) (tb ((and_l (p := r'1.2 = r'2.2) (q := r'1.1 = r'2.1) h3)))) (ra Y (rend Y Y)))))
  exact rO Y (dF h3) Y (rO Y (dF h3) Y (rO Y (dF h3) Y (rp Y (p_pkf Y Y (dF h3) (tb (dF (p := (r'1.2 = r'2.2) ∧ (r'1.1 = r'2.1)) (fun x => h3 x.1)).symm)) (ra Y (rend Y Y)))))
 refine AW2_ret ?_
 obtain rfl := se H
 exact ⟨⟨rt, trivial⟩, trivial⟩
noncomputable def g_table_none (e0 : GExpr) : Option (Bool) :=
  some (decide ((((e0.Op = (0 : Int)) ∧ (e0.Name = [])) ∧ (e0.Value = GValue.zero)) ∧ ((e0.Args.length : Int) = (0 : Int))))
set_option maxHeartbeats 4000000 in
set_option maxRecDepth 100000 in
theorem g_table_none_ac {e0 : GExpr} {r : Bool} (H : g_table_none e0 = some r) : ACp Tryd.prog 22 [(.agg (GExpr.cs e0))] (AV.bool r) := by
 refine ACp_of (AC2_of_body (vs := [.b r]) Tryd.func22 Y Y (lb Y) Y ?_) (fun _ => .same _)
 unfold g_table_none at H
 refine as2 [(0, .g (GExpr.cs e0))] [] Y (sg [0,1] Y (rq Y (MakeD.opD (n_box 1 Y Y) Y Y Y Y) (ra Y (rz [(1, .q 1 (0))] [(1, .pure (GExpr.cs e0))] Y (AW2_seq (AW2_mid (⟨[(2, .b (decide ((((e0.Op = (0 : Int)) ∧ (e0.Name = [])) ∧ (e0.Value = GValue.zero)) ∧ ((e0.Args.length : Int) = (0 : Int)))))], [], 23⟩ : TS) ?_ ?_))))))
 ·refine AW2_reg [0,1,2,3,4,5,6,7,8,9,10,11,12,13,14,15,16,17,18,19,20] Y (rf Y U27 Y in_3 Y Y (GExpr.len e0) (rp Y (u_ld Y Y U3 Y Y (GExpr.sub0 e0)) (rp Y (p_ieq Y Y Y) (rm Y ?_))))
  refine (Classical.em (e0.Op = (0 : Int))).elim (fun h1 => ?_) (fun h1 => ?_)
  ·refine rn Y (dT h1) Y (u_fa Y Y U27 Y in_9 nz Y Y (nl (GExpr.len e0))) (rn Y (dT h1) Y (u_ld Y Y U9 Y Y (GExpr.sub2 e0)) (rn Y (dT h1) Y (p_seq Y Y Y) (rp Y (p_pkt Y Y (dT h1) (tb ((and_l (p := e0.Op = (0 : Int)) (q := e0.Name = []) h1)))) (rm Y ?_))))
   refine (Classical.em (e0.Name = [])).elim (fun h2 => ?_) (fun h2 => ?_)
   ·refine rn Y (dT (p := (e0.Op = (0 : Int)) ∧ (e0.Name = [])) ⟨h1, h2⟩) Y (u_fa Y Y U27 Y in_24 nz Y Y (nl (GExpr.len e0))) (rn Y (dT (p := (e0.Op = (0 : Int)) ∧ (e0.Name = [])) ⟨h1, h2⟩) Y (u_lda Y Y U24 Y in_24 Y np (GExpr.sub1 e0) (GValue.len e0.Value)) (rn Y (dT (p := (e0.Op = (0 : Int)) ∧ (e0.Name = [])) ⟨h1, h2⟩) Y (u_bld Y in_24 one_24 zc_24 pl_24 Y Y) (rn Y (dT (p := (e0.Op = (0 : Int)) ∧ (e0.Name = [])) ⟨h1, h2⟩) Y (p_eqa (a := e0.Value) (b := GValue.zero) Y eq_24 Y (by kernel_rfl) Y Y) (rp Y (p_pkt Y Y (dT (p := (e0.Op = (0 : Int)) ∧ (e0.Name = [])) ⟨h1, h2⟩) (tb ((and_l (p := (e0.Op = (0 : Int)) ∧ (e0.Name = [])) (q := e0.Value = GValue.zero) ⟨h1, h2⟩)))) (rm Y ?_)))))
    refine (Classical.em (e0.Value = GValue.zero)).elim (fun h3 => ?_) (fun h3 => ?_)
    ·exact rn Y (dT (p := ((e0.Op = (0 : Int)) ∧ (e0.Name = [])) ∧ (e0.Value = GValue.zero)) ⟨⟨h1, h2⟩, h3⟩) Y (u_fa Y Y U27 Y in_25 nz Y Y (nl (GExpr.len e0))) (rn Y (dT (p := ((e0.Op = (0 : Int)) ∧ (e0.Name = [])) ∧ (e0.Value = GValue.zero)) ⟨⟨h1, h2⟩, h3⟩) Y (u_ld Y Y U25 Y Y (GExpr.sub3 e0)) (rn Y (dT (p := ((e0.Op = (0 : Int)) ∧ (e0.Name = [])) ∧ (e0.Value = GValue.zero)) ⟨⟨h1, h2⟩, h3⟩) Y (p_lenl Y U25 Y Y) (rn Y (dT (p := ((e0.Op = (0 : Int)) ∧ (e0.Name = [])) ∧ (e0.Value = GValue.zero)) ⟨⟨h1, h2⟩, h3⟩) Y (p_ieq Y Y Y) (rp Y (p_pkt Y Y (dT (p := ((e0.Op = (0 : Int)) ∧ (e0.Name = [])) ∧ (e0.Value = GValue.zero)) ⟨⟨h1, h2⟩, h3⟩) (tb ((and_l (p := ((e0.Op = (0 : Int)) ∧ (e0.Name = [])) ∧ (e0.Value = GValue.zero)) (q := (e0.Args.length : Int) = (0 : Int)) ⟨⟨h1, h2⟩, h3⟩)))) (ra Y (rend Y Y))))))
    exact rO Y (dF (p := ((e0.Op = (0 : Int)) ∧ (e0.Name = [])) ∧ (e0.Value = GValue.zero)) (fun h => h3 h.2)) Y (rO Y (dF (p := ((e0.Op = (0 : Int)) ∧ (e0.Name = [])) ∧ (e0.Value = GValue.zero)) (fun h => h3 h.2)) Y (rO Y (dF (p := ((e0.Op = (0 : Int)) ∧ (e0.Name = [])) ∧ (e0.Value = GValue.zero)) (fun h => h3 h.2)) Y (rO Y (dF (p := ((e0.Op = (0 : Int)) ∧ (e0.Name = [])) ∧ (e0.Value = GValue.zero)) (fun h => h3 h.2)) Y (rp Y (p_pkf Y Y (dF (p := ((e0.Op = (0 : Int)) ∧ (e0.Name = [])) ∧ (e0.Value = GValue.zero)) (fun h => h3 h.2)) (tb (dF (p := (((e0.Op = (0 : Int)) ∧ (e0.Name = [])) ∧ (e0.Value = GValue.zero)) ∧ ((e0.Args.length : Int) = (0 : Int))) (fun x => (fun h => h3 h.2) x.1)).symm)) (ra Y (rend Y Y))))))
   refine rO Y (dF (p := (e0.Op = (0 : Int)) ∧ (e0.Name = [])) (fun h => h2 h.2)) Y (rO Y (dF (p := (e0.Op = (0 : Int)) ∧ (e0.Name = [])) (fun h => h2 h.2)) Y (rO Y (dF (p := (e0.Op = (0 : Int)) ∧ (e0.Name = [])) (fun h => h2 h.2)) Y (rO Y (dF (p := (e0.Op = (0 : Int)) ∧ (e0.Name = [])) (fun h => h2 h.2)) Y (rp Y (p_pkf Y Y (dF (p := (e0.Op = (0 : Int)) ∧ (e0.Name = [])) (fun h => h2 h.2)) (tb (dF (p := ((e0.Op = (0 : Int)) ∧ (e0.Name = [])) ∧ (e0.Value = GValue.zero)) (fun x => (fun h => h2 h.2) x.1)).symm)) (rm Y (rO Y (dF (p := ((e0.Op = (0 : Int)) ∧ (e0.Name = [])) ∧ (e0.Value = GValue.zero)) (fun h => (fun h => h2 h.2) h.1)) Y ?_))))))
   exact rO Y (dF (p := ((e0.Op = (0 : Int)) ∧ (e0.Name = [])) ∧ (e0.Value = GValue.zero)) (fun h => (fun h => h2 h.2) h.1)) Y (rO Y (dF (p := ((e0.Op = (0 : Int)) ∧ (e0.Name = [])) ∧ (e0.Value = GValue.zero)) (fun h => (fun h => h2 h.2) h.1)) Y (rO Y (dF (p := ((e0.Op = (0 : Int)) ∧ (e0.Name = [])) ∧ (e0.Value = GValue.zero)) (fun h => (fun h => h2 h.2) h.1)) Y (rp Y (p_pkf Y Y (dF (p := ((e0.Op = (0 : Int)) ∧ (e0.Name = [])) ∧ (e0.Value = GValue.zero)) (fun h => (fun h => h2 h.2) h.1)) (tb (dF (p := (((e0.Op = (0 : Int)) ∧ (e0.Name = [])) ∧ (e0.Value = GValue.zero)) ∧ ((e0.Args.length : Int) = (0 : Int))) (fun x => (fun h => (fun h => h2 h.2) h.1) x.1)).symm)) (ra Y (rend Y Y)))))
  refine rO Y (dF h1) Y (rO Y (dF h1) Y (rO Y (dF h1) Y (rp Y (p_pkf Y Y (dF h1) (tb (dF (p := (e0.Op = (0 : Int)) ∧ (e0.Name = [])) (fun x => h1 x.1)).symm)) (rm Y (rO Y (dF (p := (e0.Op = (0 : Int)) ∧ (e0.Name = [])) (fun h => h1 h.1)) Y (rO Y (dF (p := (e0.Op = (0 : Int)) ∧ (e0.Name = [])) (fun h => h1 h.1)) Y ?_))))))
  refine rO Y (dF (p := (e0.Op = (0 : Int)) ∧ (e0.Name = [])) (fun h => h1 h.1)) Y (rO Y (dF (p := (e0.Op = (0 : Int)) ∧ (e0.Name = [])) (fun h => h1 h.1)) Y (rp Y (p_pkf Y Y (dF (p := (e0.Op = (0 : Int)) ∧ (e0.Name = [])) (fun h => h1 h.1)) (tb (dF (p := ((e0.Op = (0 : Int)) ∧ (e0.Name = [])) ∧ (e0.Value = GValue.zero)) (fun x => (fun h => h1 h.1) x.1)).symm)) (rm Y (rO Y (dF (p := ((e0.Op = (0 : Int)) ∧ (e0.Name = [])) ∧ (e0.Value = GValue.zero)) (fun h => (fun h => h1 h.1) h.1)) Y (rO Y (dF (p := ((e0.Op = (0 : Int)) ∧ (e0.Name = [])) ∧ (e0.Value = GValue.zero)) (fun h => (fun h => h1 h.1) h.1)) Y (rO Y (dF (p := ((e0.Op = (0 : Int)) ∧ (e0.Name = [])) ∧ (e0.Value = GValue.zero)) (fun h => (fun h => h1 h.1) h.1)) Y ?_))))))
  exact rO Y (dF (p := ((e0.Op = (0 : Int)) ∧ (e0.Name = [])) ∧ (e0.Value = GValue.zero)) (fun h => (fun h => h1 h.1) h.1)) Y (rp Y (p_pkf Y Y (dF (p := ((e0.Op = (0 : Int)) ∧ (e0.Name = [])) ∧ (e0.Value = GValue.zero)) (fun h => (fun h => h1 h.1) h.1)) (tb (dF (p := (((e0.Op = (0 : Int)) ∧ (e0.Name = [])) ∧ (e0.Value = GValue.zero)) ∧ ((e0.Args.length : Int) = (0 : Int))) (fun x => (fun h => (fun h => h1 h.1) h.1) x.1)).symm)) (ra Y (rend Y Y)))
 refine AW2_ret ?_
 obtain rfl := se H
 exact ⟨⟨rt, trivial⟩, trivial⟩
noncomputable def g_kinds_sort_fits (s0 : Gkinds_sort) (kind1 : Int) : Option (Bool) :=
  some (decide ((s0.kind_ = kind1) ∨ (s0.kind_ = (0 : Int))))
set_option maxHeartbeats 4000000 in
set_option maxRecDepth 100000 in
theorem g_kinds_sort_fits_ac {s0 : Gkinds_sort} {kind1 : Int} {r : Bool} (H : g_kinds_sort_fits s0 kind1 = some r) : ACp Tryd.prog 80 [(.agg (Gkinds_sort.cs s0)), (AV.int kind1)] (AV.bool r) := by
 refine ACp_of (AC2_of_body (vs := [.b r]) Tryd.func80 Y Y (lb Y) Y ?_) (fun _ => .same _)
 unfold g_kinds_sort_fits at H
 refine as2 [(0, .g (Gkinds_sort.cs s0)), (1, .i kind1)] [] Y (sg [0,1] Y (rq Y (MakeD.opD (n_box 2 Y Y) Y Y Y Y) (ra Y (rz [(1, _), (2, .q 2 (0))] [(2, .pure (Gkinds_sort.cs s0))] Y (AW2_seq (AW2_mid (⟨[(4, .b (decide ((s0.kind_ = kind1) ∨ (s0.kind_ = (0 : Int)))))], [], 14⟩ : TS) ?_ ?_))))))
 ·refine AW2_reg [0,1,2,3,4,5,6,7,8,9] Y (rf Y U88 Y in_3 Y Y (Gkinds_sort.len s0) (rp Y (u_ld Y Y U3 Y Y (Gkinds_sort.sub0 s0)) (rm Y (rp Y (p_ieq Y Y Y) (rm Y ?_)))))
  refine (Classical.em (s0.kind_ = kind1)).elim (fun h1 => ?_) (fun h1 => ?_)
  ·exact rO Y (dT h1) Y (rO Y (dT h1) Y (rO Y (dT h1) Y (rp Y (p_pkt Y Y (dT h1) (tb (dT (p := (s0.kind_ = kind1) ∨ (s0.kind_ = (0 : Int))) (Or.inl h1)).symm)) (ra Y (rend Y Y)))))
  exact rn Y (dF h1) Y (u_fa Y Y U88 Y in_3 nz Y Y (nl (Gkinds_sort.len s0))) (rn Y (dF h1) Y (u_ld Y Y U3 Y Y (Gkinds_sort.sub0 s0)) (rn Y (dF h1) Y (p_ieq Y Y Y) (rp Y (p_pkf Y Y (dF h1) (tb ((or_l (p := s0.kind_ = kind1) (q := s0.kind_ = (0 : Int)) h1)))) (ra Y (rend Y Y)))))
 refine AW2_ret ?_
 obtain rfl := se H
 exact ⟨⟨rt, trivial⟩, trivial⟩
noncomputable def g_kinds_sort_with (s0 : Gkinds_sort) (t1 : Gkinds_sort) : Option (Gkinds_sort) :=
  ((if s0.kind_ = (0 : Int) then some ({ s0 with kind_ := t1.kind_ }) else some s0)).bind fun j'1 => letO ({ j'1 with null_ := (decide ((j'1.null_ = true) ∨ (t1.null_ = true))) }) fun s2'2 => some s2'2
set_option maxHeartbeats 4000000 in
set_option maxRecDepth 100000 in
theorem g_kinds_sort_with_ac {s0 : Gkinds_sort} {t1 : Gkinds_sort} {r : Gkinds_sort} (H : g_kinds_sort_with s0 t1 = some r) : ACp Tryd.prog 81 [(.agg (Gkinds_sort.cs s0)), (.agg (Gkinds_sort.cs t1))] (.agg (Gkinds_sort.cs r)) := by
 refine ACp_of (AC2_of_body (vs := [.g (Gkinds_sort.cs r)]) Tryd.func81 Y Y (lb Y) Y ?_) (fun _ => .same _)
 unfold g_kinds_sort_with at H
 refine as2 [(0, .g (Gkinds_sort.cs s0)), (1, .g (Gkinds_sort.cs t1))] [] Y (sg [0,1,2] Y (rq Y (MakeD.opD (n_box 2 Y Y) Y Y Y Y) (rq Y (MakeD.opD (n_box 3 Y Y) Y Y Y Y) (rq Y (MakeD.opD (u_alloc 4 Y in_88 one_88 zc_88) Y Y Y Y) (rz [(2, .q 2 (0)), (3, .q 3 (0)), (4, .q 4 (0))] [(2, .pure (Gkinds_sort.cs s0)), (3, .pure (Gkinds_sort.cs t1)), (4, .pure (Gkinds_sort.cs Gkinds_sort.zero))] Y (AW2_seq ?_))))))
 refine bindK H fun j'1 h1 H => AW2_mid (⟨[(2, .q 2 (0)), (3, .q 3 (0)), (4, .q 4 (0))], [(2, .pure (Gkinds_sort.cs j'1)), (3, .pure (Gkinds_sort.cs t1)), (4, .pure (Gkinds_sort.cs Gkinds_sort.zero))], 19⟩ : TS) ?_ ?_
 ·clear H
  have H := h1
  clear h1
  refine sg [0,1,2] Y (rf Y U88 Y in_3 Y Y (Gkinds_sort.len s0) (rp Y (u_ld Y Y U3 Y Y (Gkinds_sort.sub0 s0)) (rp Y (p_ieq Y Y Y) (rz [(2, .q 2 (0)), (3, .q 3 (0)), (4, .q 4 (0)), (7, .b (decide (s0.kind_ = (0 : Int))))] [(2, .pure (Gkinds_sort.cs s0)), (3, .pure (Gkinds_sort.cs t1)), (4, .pure (Gkinds_sort.cs Gkinds_sort.zero))] Y (if2 H Y (fun h2 H => ?_) (fun h2 H => ?_))))))
  ·refine AW2_reg [0,1,2,3] Y (rf Y U88 Y in_3 Y Y (Gkinds_sort.len t1) (rp Y (u_ld Y Y U3 Y Y (Gkinds_sort.sub0 t1)) (rf Y U88 Y in_3 Y Y (Gkinds_sort.len s0) (rq Y (u_st Y Y Y Y Y in_3 Y (nl (Gkinds_sort.len s0)) (Upd.trans (Sub.refl _) (Gkinds_sort.upd0 s0 t1.kind_) (Upd.refl ((Gkinds_sort.len ((Gkinds_sort.w0 s0 t1.kind_))).trans (Gkinds_sort.len s0).symm)))) (rz [(2, _), (3, _), (4, _)] [(2, .pure (Gkinds_sort.cs ((Gkinds_sort.w0 s0 t1.kind_)))), (3, .pure (Gkinds_sort.cs t1)), (4, .pure (Gkinds_sort.cs Gkinds_sort.zero))] Y ?_)))))
   obtain rfl := se H
   exact rfl
  refine as2 [(2, _), (3, _), (4, _)] [(2, _), (3, _), (4, _)] Y (AW2_skip ?_)
  obtain rfl := se H
  exact rfl
 refine AW2_seq (AW2_mid (⟨[(2, .q 2 (0)), (4, .q 4 (0))], [(2, .pure (Gkinds_sort.cs ((Gkinds_sort.w1 j'1 (decide ((j'1.null_ = true) ∨ (t1.null_ = true))))))), (4, .pure (Gkinds_sort.cs Gkinds_sort.zero))], 19⟩ : TS) ?_ ?_)
 ·refine AW2_reg [0,1,2,3,4,5,6,7] Y (rf Y U88 Y in_4 Y Y (Gkinds_sort.len j'1) (rp Y (u_ld Y Y U4 Y Y (Gkinds_sort.sub1 j'1)) (rm Y ?_)))
  refine (Classical.em (j'1.null_ = true)).elim (fun h3 => ?_) (fun h3 => ?_)
  ·exact rO Y h3 Y (rO Y h3 Y (rp Y (p_pkt Y Y h3 (tb (dT (p := (j'1.null_ = true) ∨ (t1.null_ = true)) (Or.inl h3)).symm)) (rf Y U88 Y in_4 Y Y (Gkinds_sort.len j'1) (rq Y (u_st Y Y Y Y Y in_4 Y (nl (Gkinds_sort.len j'1)) (Upd.trans (Sub.refl _) (Gkinds_sort.upd1 j'1 (decide ((j'1.null_ = true) ∨ (t1.null_ = true)))) (Upd.refl ((Gkinds_sort.len ((Gkinds_sort.w1 j'1 (decide ((j'1.null_ = true) ∨ (t1.null_ = true)))))).trans (Gkinds_sort.len j'1).symm)))) (rend Y Y)))))
  exact rn Y (bfalse h3) Y (u_fa Y Y U88 Y in_4 nz Y Y (nl (Gkinds_sort.len t1))) (rn Y (bfalse h3) Y (u_ld Y Y U4 Y Y (Gkinds_sort.sub1 t1)) (rp Y (p_pkf Y Y (bfalse h3) (tb ((bdec _).trans (or_l (p := j'1.null_ = true) (q := t1.null_ = true) h3)))) (rf Y U88 Y in_4 Y Y (Gkinds_sort.len j'1) (rq Y (u_st Y Y Y Y Y in_4 Y (nl (Gkinds_sort.len j'1)) (Upd.trans (Sub.refl _) (Gkinds_sort.upd1 j'1 (decide ((j'1.null_ = true) ∨ (t1.null_ = true)))) (Upd.refl ((Gkinds_sort.len ((Gkinds_sort.w1 j'1 (decide ((j'1.null_ = true) ∨ (t1.null_ = true)))))).trans (Gkinds_sort.len j'1).symm)))) (rend Y Y)))))
 refine gen1 (fun s2'2 => (⟨[(2, .q 2 (0)), (4, .q 4 (0))], [(2, .pure (Gkinds_sort.cs s2'2)), (4, .pure (Gkinds_sort.cs Gkinds_sort.zero))], 19⟩ : TS)) H ?_
 intro s2'2 H
 refine sg [0,1] Y (rp Y (u_lda Y Y U88 Y in_88 Y np (Sub.refl _) (Gkinds_sort.len s2'2)) (rq Y (u_sw Y Y Y Y Y in_88 (Gkinds_sort.len s2'2) (Gkinds_sort.len Gkinds_sort.zero) Y) (rz [(4, .q 4 (0))] [(4, .pure (Gkinds_sort.cs s2'2))] Y (AW2_ret ?_))))
 obtain rfl := se H
 exact ⟨⟨rcw U88 Y in_88 Y (Gkinds_sort.len s2'2), trivial⟩, trivial⟩
noncomputable def g_kinds_joined_1_i0_l0 (kind0 : Int) (t2 : Vector Gkinds_sort 2) (t3 : Int) : Int × Gkinds_sort → Option ((Int × Gkinds_sort) ⊕ ((Gkinds_sort × Int) ⊕ Gkinds_sort))
  | (t16_0, s8_0) => (if t16_0 < ((List.take t3.toNat t2.toList).length : Int) then if 0 ≤ t16_0 ∧ t16_0 < ((List.take t3.toNat t2.toList).length : Int) then (g_kinds_sort_fits (lrd (List.take t3.toNat t2.toList) t16_0.toNat) kind0).bind fun r'1 => (if (!r'1) = true then some (.inr (.inl (Gkinds_sort.zero, (2 : Int)))) else letO ({ s8_0 with null_ := (decide ((s8_0.null_ = true) ∨ (((lrd (List.take t3.toNat t2.toList) t16_0.toNat).null_) = true))) }) fun s8'2 => some (.inl (w64 (t16_0 + (1 : Int)), s8'2))) else none else some (.inr (.inr s8_0)))
noncomputable def g_kinds_joined_1_i0 (kind0 : Int) (gives1 : Int) (t2 : Vector Gkinds_sort 2) (t3 : Int) : Option (Gkinds_sort × Int) :=
  if 0 ≤ t3 ∧ t3 ≤ (2 : Int) then (loopO (g_kinds_joined_1_i0_l0 kind0 t2 t3) ((0 : Int), { Gkinds_sort.zero with kind_ := gives1 })).bind fun o'6 => match o'6 with | .inl y'7 => some y'7 | .inr (y'8) => some (y'8, (0 : Int)) else none
set_option maxHeartbeats 4000000 in
set_option maxRecDepth 100000 in
theorem g_kinds_joined_1_i0_ac {kind0 : Int} {gives1 : Int} {t2 : Vector Gkinds_sort 2} {t3 : Int} {r : Gkinds_sort × Int} (H : g_kinds_joined_1_i0 kind0 gives1 t2 t3 = some r) : ACp Tryd.prog 79 [(AV.int kind0), (AV.int gives1), .rptr (t2.toList.flatMap Gkinds_sort.cs) 0, .rptr ([(AV.int t3)]) 0] (.tup [(.agg (Gkinds_sort.cs r.1)), (AV.int r.2)]) := by
 refine ACp_of (AC2_of_body (vs := [.g (Gkinds_sort.cs r.1), .i r.2]) Tryd.func79 Y Y (lb Y) Y ?_) (fun _ => .same _)
 unfold g_kinds_joined_1_i0 at H
 refine as2 [(0, .i kind0), (1, .i gives1), (2, .p (.rptr (t2.toList.flatMap Gkinds_sort.cs) (0))), (3, .p (.rptr ([(AV.int t3)]) (0)))] [] Y (sg [0,1] Y (rq Y (MakeD.opD (u_alloc 6 Y in_88 one_88 zc_88) Y Y Y Y) (ra Y (rz [(0, _), (1, _), (2, _), (3, _), (6, .q 6 (0))] [(6, .pure (Gkinds_sort.cs Gkinds_sort.zero))] Y (sg [0,1,2,3] Y (rm Y ?_))))))
 refine rp Y (u_bld Y in_88 one_88 zc_88 pl_88 Y (af_cons Y Y (Gkinds_sort.upd0 Gkinds_sort.zero gives1) Y)) (rq Y (MakeD.opD (u_alloc 8 Y in_88 one_88 zc_88) Y Y Y Y) (rq Y (u_sw Y Y Y Y Y in_88 (Gkinds_sort.len ((Gkinds_sort.w0 Gkinds_sort.zero gives1))) (Gkinds_sort.len Gkinds_sort.zero) Y) (rz [(0, _), (2, _), (3, _), (6, _), (8, .q 8 (0))] [(6, .pure (Gkinds_sort.cs Gkinds_sort.zero)), (8, .pure (Gkinds_sort.cs ((Gkinds_sort.w0 Gkinds_sort.zero gives1))))] Y (AW2_seq (sg [0,1,2,3] Y (rp Y (u_ld Y Y U3 Y Y (Sub.refl _)) ?_))))))
 refine chkK H fun h1 H => rp Y (u_cutar (g := fun l => l.flatMap Gkinds_sort.cs) (l := t2.toList) Y Y U112 in_88 Y (Sub.refl _) (vlen _) (vfm_len (fun x => (Gkinds_sort.len x)) t2) (bT_i h1.1 Y) (toNat_le h1) (g_fm (fun x => (Gkinds_sort.len x)))) (rp Y (p_lenl Y U115 Y Y) (rm Y (rz [(0, _), (6, _), (8, _), (14, .p (Gkinds_sort.ls (List.take t3.toNat t2.toList))), (15, .i ((List.take t3.toNat t2.toList).length : Int)), (16, .i (0 : Int))] [(6, _), (8, _)] Y (AW2_block (as2 [(0, _), (6, _), (8, _), (14, _), (15, _), (16, _)] [(6, _), (8, _)] Y ?_)))))
 refine bindK H fun o'6 h7 H => AW2_loopO (fun a'3 : Int × Gkinds_sort => (⟨[(0, .i kind0), (6, .q 6 (0)), (8, .q 8 (0)), (14, .p (Gkinds_sort.ls (List.take t3.toNat t2.toList))), (15, .i ((List.take t3.toNat t2.toList).length : Int)), (16, .i a'3.1)], [(6, .pure (Gkinds_sort.cs Gkinds_sort.zero)), (8, .pure (Gkinds_sort.cs a'3.2))], 34⟩ : TS)) (fun (o : (Gkinds_sort × Int) ⊕ Gkinds_sort) e s' => match o with | .inl y'4 => e = Go.Exit.ret ∧ ResAll Tryd.prog s' [ResultVar.cell 6 88, ResultVar.tmp 7] [.g (Gkinds_sort.cs y'4.1), .i y'4.2] ∧ HFits s' [] | .inr (y'5) => e = Go.Exit.exit 0 ∧ s' = (⟨[(6, .q 6 (0)), (8, .q 8 (0))], [(6, .pure (Gkinds_sort.cs Gkinds_sort.zero)), (8, .pure (Gkinds_sort.cs y'5))], 34⟩ : TS)) h7 Y (fun a x hx => ?_) (fun e s' hs => ?_)
 ·clear H
  obtain ⟨t16_0, s8_0⟩ := a
  have H := hx
  clear hx
  unfold g_kinds_joined_1_i0_l0 at H
  refine sg [0] Y (rp Y (p_bin Y Y Y Y) (rz [(0, .i kind0), (6, .q 6 (0)), (8, .q 8 (0)), (14, .p (Gkinds_sort.ls (List.take t3.toNat t2.toList))), (15, .i ((List.take t3.toNat t2.toList).length : Int)), (16, .i t16_0), (17, .b (decide (t16_0 < ((List.take t3.toNat t2.toList).length : Int))))] [(6, .pure (Gkinds_sort.cs Gkinds_sort.zero)), (8, .pure (Gkinds_sort.cs s8_0))] Y (AW2_seq (if2 H Y (fun h2 H => ?_) (fun h2 H => ?_)))))
  ·refine as2 [(0, _), (6, _), (8, _), (14, _), (15, _), (16, _)] [(6, _), (8, _)] Y (AW2_skip (AW2_seq (AW2_block (sg [0,1,2,3] Y (chkK H fun h3 H => rp Y (u_ixl Y Y U115 in_88 Y Y (ixe h3) (ixn h3) (fne (fun x => (Gkinds_sort.len x)) (by decide) (ixn h3))) ?_)))))
   refine rp Y (u_lda Y Y U88 Y in_88 Y np (Sub.fm default (fun x => (Gkinds_sort.len x)) (ixn h3)) (Gkinds_sort.len (lrd (List.take t3.toNat t2.toList) t16_0.toNat))) (rq Y (MakeD.opD (u_alloc 10 Y in_88 one_88 zc_88) Y Y Y Y) (rq Y (u_sw Y Y Y Y Y in_88 (Gkinds_sort.len (lrd (List.take t3.toNat t2.toList) t16_0.toNat)) (Gkinds_sort.len Gkinds_sort.zero) Y) (rz [(0, _), (6, _), (8, _), (10, .q 10 (0)), (14, _), (15, _), (16, _)] [(6, .pure (Gkinds_sort.cs Gkinds_sort.zero)), (8, .pure (Gkinds_sort.cs s8_0)), (10, .pure (Gkinds_sort.cs (lrd (List.take t3.toNat t2.toList) t16_0.toNat)))] Y (AW2_seq (sg [0,1,2,3] Y (rp Y (u_lda Y Y U88 Y in_88 Y np (Sub.refl _) (Gkinds_sort.len (lrd (List.take t3.toNat t2.toList) t16_0.toNat))) ?_))))))
   refine rm Y (bindK H fun r'1 h4 H => rp Y (p_callp Y Y Y Tryd.func80 Y Y (g_kinds_sort_fits_ac h4) ⟨Y, Y, trivial⟩) (rp Y (p_not Y Y) (rz [(0, _), (6, _), (8, _), (10, _), (14, _), (15, _), (16, _), (23, .b (!r'1))] [(6, _), (8, _), (10, _)] Y (AW2_cond Y (fun h5 => ?_) (fun h5 => ?_)))))
   ·replace H := ite_then h5 H
    refine sg [0,1,2] Y (rp Y (u_bld Y in_88 one_88 zc_88 pl_88 Y Y) (rq Y (u_sw Y Y Y Y Y in_88 (Gkinds_sort.len Gkinds_sort.zero) (Gkinds_sort.len Gkinds_sort.zero) Y) (ra Y (rz [(6, .q 6 (0)), (7, .i (2 : Int))] [(6, .pure (Gkinds_sort.cs Gkinds_sort.zero))] Y (AW2_ret ?_)))))
    obtain rfl := se H
    exact ⟨Y, ⟨rcw U88 Y in_88 Y (Gkinds_sort.len Gkinds_sort.zero), rt, trivial⟩, trivial⟩
   replace H := ite_else (ne_true h5) H
   refine as2 [(0, .i kind0), (6, .q 6 (0)), (8, .q 8 (0)), (10, .q 10 (0)), (14, .p (Gkinds_sort.ls (List.take t3.toNat t2.toList))), (15, .i ((List.take t3.toNat t2.toList).length : Int)), (16, .i t16_0)] [(6, .pure (Gkinds_sort.cs Gkinds_sort.zero)), (8, .pure (Gkinds_sort.cs s8_0)), (10, .pure (Gkinds_sort.cs (lrd (List.take t3.toNat t2.toList) t16_0.toNat)))] Y (AW2_skip (AW2_mid (⟨[(0, .i kind0), (6, .q 6 (0)), (8, .q 8 (0)), (14, .p (Gkinds_sort.ls (List.take t3.toNat t2.toList))), (15, .i ((List.take t3.toNat t2.toList).length : Int)), (16, .i t16_0)], [(6, .pure (Gkinds_sort.cs Gkinds_sort.zero)), (8, .pure (Gkinds_sort.cs ((Gkinds_sort.w1 s8_0 (decide ((s8_0.null_ = true) ∨ (((lrd (List.take t3.toNat t2.toList) t16_0.toNat).null_) = true)))))))], 34⟩ : TS) ?_ ?_))
   ·refine AW2_reg [0,1,2,3,4,5,6,7] Y (rf Y U88 Y in_4 Y Y (Gkinds_sort.len s8_0) (rp Y (u_ld Y Y U4 Y Y (Gkinds_sort.sub1 s8_0)) (rm Y ?_)))
    refine (Classical.em (s8_0.null_ = true)).elim (fun h6 => ?_) (fun h6 => ?_)
    ·exact rO Y h6 Y (rO Y h6 Y (rp Y (p_pkt Y Y h6 (tb (dT (p := (s8_0.null_ = true) ∨ (((lrd (List.take t3.toNat t2.toList) t16_0.toNat).null_) = true)) (Or.inl h6)).symm)) (rf Y U88 Y in_4 Y Y (Gkinds_sort.len s8_0) (rq Y (u_st Y Y Y Y Y in_4 Y (nl (Gkinds_sort.len s8_0)) (Upd.trans (Sub.refl _) (Gkinds_sort.upd1 s8_0 (decide ((s8_0.null_ = true) ∨ (((lrd (List.take t3.toNat t2.toList) t16_0.toNat).null_) = true)))) (Upd.refl ((Gkinds_sort.len ((Gkinds_sort.w1 s8_0 (decide ((s8_0.null_ = true) ∨ (((lrd (List.take t3.toNat t2.toList) t16_0.toNat).null_) = true)))))).trans (Gkinds_sort.len s8_0).symm)))) (rend Y Y)))))
    exact rn Y (bfalse h6) Y (u_fa Y Y U88 Y in_4 nz Y Y (nl (Gkinds_sort.len (lrd (List.take t3.toNat t2.toList) t16_0.toNat)))) (rn Y (bfalse h6) Y (u_ld Y Y U4 Y Y (Gkinds_sort.sub1 (lrd (List.take t3.toNat t2.toList) t16_0.toNat))) (rp Y (p_pkf Y Y (bfalse h6) (tb ((bdec _).trans (or_l (p := s8_0.null_ = true) (q := ((lrd (List.take t3.toNat t2.toList) t16_0.toNat).null_) = true) h6)))) (rf Y U88 Y in_4 Y Y (Gkinds_sort.len s8_0) (rq Y (u_st Y Y Y Y Y in_4 Y (nl (Gkinds_sort.len s8_0)) (Upd.trans (Sub.refl _) (Gkinds_sort.upd1 s8_0 (decide ((s8_0.null_ = true) ∨ (((lrd (List.take t3.toNat t2.toList) t16_0.toNat).null_) = true)))) (Upd.refl ((Gkinds_sort.len ((Gkinds_sort.w1 s8_0 (decide ((s8_0.null_ = true) ∨ (((lrd (List.take t3.toNat t2.toList) t16_0.toNat).null_) = true)))))).trans (Gkinds_sort.len s8_0).symm)))) (rend Y Y)))))
   refine gen1 (fun s8'2 => (⟨[(0, .i kind0), (6, .q 6 (0)), (8, .q 8 (0)), (14, .p (Gkinds_sort.ls (List.take t3.toNat t2.toList))), (15, .i ((List.take t3.toNat t2.toList).length : Int)), (16, .i t16_0)], [(6, .pure (Gkinds_sort.cs Gkinds_sort.zero)), (8, .pure (Gkinds_sort.cs s8'2))], 34⟩ : TS)) H ?_
   intro s8'2 H
   refine AW2_reg [0,1] Y (rp Y (p_bin Y Y Y Y) (rm Y (rz [(0, .i kind0), (6, .q 6 (0)), (8, .q 8 (0)), (14, .p (Gkinds_sort.ls (List.take t3.toNat t2.toList))), (15, .i ((List.take t3.toNat t2.toList).length : Int)), (16, .i (w64 (t16_0 + (1 : Int))))] [(6, .pure (Gkinds_sort.cs Gkinds_sort.zero)), (8, .pure (Gkinds_sort.cs s8'2))] Y ?_)))
   obtain rfl := se H
   exact ⟨Y, Y⟩
  refine as2 [(6, _), (8, _)] [(6, _), (8, _)] Y (AW2_exit (thenQ2_exit ?_))
  obtain rfl := se H
  exact ⟨Y, Y⟩
 rcases o'6 with y'7 | y'8
 ·obtain ⟨rfl, hs⟩ := hs
  refine ⟨by simp, ?_⟩
  obtain rfl := se H
  exact ⟨hs.1, hs.2⟩
 obtain ⟨rfl, rfl⟩ := hs
 refine ⟨by simp, ?_⟩
 refine blockQ2_exit (sg [0,1,2] Y (rp Y (u_lda Y Y U88 Y in_88 Y np (Sub.refl _) (Gkinds_sort.len y'8)) (rq Y (u_sw Y Y Y Y Y in_88 (Gkinds_sort.len y'8) (Gkinds_sort.len Gkinds_sort.zero) Y) (ra Y (rz [(6, .q 6 (0)), (7, .i (0 : Int))] [(6, .pure (Gkinds_sort.cs y'8))] Y (AW2_ret ?_))))))
 obtain rfl := se H
 exact ⟨⟨rcw U88 Y in_88 Y (Gkinds_sort.len y'8), rt, trivial⟩, trivial⟩
noncomputable def g_kinds_joined (op0 : Int) (n1 : Int) (l2 : Vector Gkinds_sort 2) : Option (Gkinds_sort × Int) :=
  ((if op0 = (3 : Int) then some (decide (op0 = (3 : Int))) else (if op0 = (5 : Int) then some (decide (op0 = (5 : Int))) else (if op0 = (6 : Int) then some (decide (op0 = (6 : Int))) else (if op0 = (7 : Int) then some (decide (op0 = (7 : Int))) else some (decide (op0 = (8 : Int)))))))).bind fun j'1 => (if j'1 = true then (g_kinds_joined_1_i0 (2 : Int) (2 : Int) l2 n1).bind fun r'2 => some (r'2.1, r'2.2) else ((if op0 = (4 : Int) then some (decide (op0 = (4 : Int))) else (if op0 = (15 : Int) then some (decide (op0 = (15 : Int))) else some (decide (op0 = (16 : Int)))))).bind fun j'3 => (if j'3 = true then (g_kinds_joined_1_i0 (1 : Int) (1 : Int) l2 n1).bind fun r'4 => some (r'4.1, r'4.2) else (if op0 = (18 : Int) then (g_kinds_joined_1_i0 (4 : Int) (2 : Int) l2 n1).bind fun r'5 => some (r'5.1, r'5.2) else (if op0 = (19 : Int) then (g_kinds_joined_1_i0 (4 : Int) (4 : Int) l2 n1).bind fun r'6 => some (r'6.1, r'6.2) else (if op0 = (17 : Int) then some ({ { Gkinds_sort.zero with kind_ := (1 : Int) } with null_ := false }, (0 : Int)) else (g_kinds_sort_with (vrd l2 0) (vrd l2 1)).bind fun r'7 => ((g_kinds_sort_fits (vrd l2 0) r'7.kind_).bind fun r'10 => (if (!r'10) = true then some true else (g_kinds_sort_fits (vrd l2 1) r'7.kind_).bind fun r'11 => some (!r'11))).bind fun g'12 => (if g'12 = true then some (Gkinds_sort.zero, (2 : Int)) else (if op0 = (20 : Int) then letO ({ { Gkinds_sort.zero with kind_ := r'7.kind_ } with null_ := (decide ((((vrd l2 0).null_) = true) ∧ (((vrd l2 1).null_) = true))) }) fun t6'13 => some (t6'13, (0 : Int)) else letO ({ { Gkinds_sort.zero with kind_ := (1 : Int) } with null_ := r'7.null_ }) fun t6'14 => some (t6'14, (0 : Int)))))))))
set_option maxHeartbeats 4000000 in
set_option maxRecDepth 100000 in
theorem g_kinds_joined_ac {op0 : Int} {n1 : Int} {l2 : Vector Gkinds_sort 2} {r : Gkinds_sort × Int} (H : g_kinds_joined op0 n1 l2 = some r) : ACp Tryd.prog 76 [(AV.int op0), (AV.int n1), (.agg (l2.toList.flatMap Gkinds_sort.cs))] (.tup [(.agg (Gkinds_sort.cs r.1)), (AV.int r.2)]) := by
 refine ACp_of (AC2_of_body (vs := [.g (Gkinds_sort.cs r.1), .i r.2]) Tryd.func76 Y Y (lb Y) Y ?_) (fun _ => .same _)
 unfold g_kinds_joined at H
 refine as2 [(0, .i op0), (1, .i n1), (2, .g (l2.toList.flatMap Gkinds_sort.cs))] [] Y (sg [0,1,2,3] Y (rq Y (MakeD.opD (n_box 4 Y Y) Y Y Y Y) (rq Y (MakeD.opD (n_box 5 Y Y) Y Y Y Y) (rq Y (MakeD.opD (u_alloc 6 Y in_88 one_88 zc_88) Y Y Y Y) (ra Y (rz [(0, _), (4, .q 4 (0)), (5, .q 5 (0)), (6, .q 6 (0))] [(4, .pure ([(AV.int n1)])), (5, .pure (l2.toList.flatMap Gkinds_sort.cs)), (6, .pure (Gkinds_sort.cs Gkinds_sort.zero))] Y ?_))))))
 refine sg [0,1] Y (rp Y (p_mkfn (caps := [(.ptr 5 (0)), (.ptr 4 (0))]) Y ⟨⟨Y, Y⟩, ⟨Y, Y⟩, trivial⟩) (ra Y (RunW_st [(0, .i op0), (5, .q 5 (0)), (6, .q 6 (0)), (8, .clo 79 [(.ptr 5 (0)), (.ptr 4 (0))])] [(4, .pure ([(AV.int n1)])), (5, .pure (l2.toList.flatMap Gkinds_sort.cs)), (6, .pure (Gkinds_sort.cs Gkinds_sort.zero))] Y ⟨TLes.same _, TLes.same _, TLes.same _, (fun _ => .same _), trivial⟩ ⟨Y, Y, Y, trivial⟩ (RunW_nil (AW2_seq (sg [0] Y ?_))))))
 refine rm Y (RunW_st [(0, .i op0), (5, .q 5 (0)), (6, .q 6 (0)), (8, .clo 79 [(.ptr 5 (0)), (.ptr 4 (0))]), (11, .i op0)] [(4, .pure ([(AV.int n1)])), (5, .pure (l2.toList.flatMap Gkinds_sort.cs)), (6, .pure (Gkinds_sort.cs Gkinds_sort.zero))] Y ⟨TLes.same _, TLes.same _, TLes.same _, (fun _ => .same _), TLes.same _, trivial⟩ ⟨Y, Y, Y, trivial⟩ (RunW_nil (AW2_block (AW2_seq (bindK H fun j'1 h1 H => AW2_mid (⟨[(0, .i op0), (5, .q 5 (0)), (6, .q 6 (0)), (8, .clo 79 [(.ptr 5 (0)), (.ptr 4 (0))]), (11, .i op0), (12, .b j'1)], [(4, .pure ([(AV.int n1)])), (5, .pure (l2.toList.flatMap Gkinds_sort.cs)), (6, .pure (Gkinds_sort.cs Gkinds_sort.zero))], 81⟩ : TS) ?_ ?_)))))
 ·clear H
  have H := h1
  clear h1
  refine sg [0,1] Y (rp Y (p_ieq Y Y Y) (ra Y (RunW_st [(0, .i op0), (5, .q 5 (0)), (6, .q 6 (0)), (8, .clo 79 [(.ptr 5 (0)), (.ptr 4 (0))]), (11, .i op0), (12, .b (decide (op0 = (3 : Int))))] [(4, .pure ([(AV.int n1)])), (5, .pure (l2.toList.flatMap Gkinds_sort.cs)), (6, .pure (Gkinds_sort.cs Gkinds_sort.zero))] Y ⟨TLes.same _, TLes.same _, TLes.same _, (fun _ => .same _), TLes.same _, TLes.same _, trivial⟩ ⟨Y, Y, Y, trivial⟩ (RunW_nil (if2 H Y (fun h2 H => ?_) (fun h2 H => ?_))))))
  ·refine AW2_skip ?_
   obtain rfl := se H
   exact rfl
  refine sg [0,1] Y (rp Y (p_ieq Y Y Y) (ra Y (RunW_st [(0, .i op0), (5, .q 5 (0)), (6, .q 6 (0)), (8, .clo 79 [(.ptr 5 (0)), (.ptr 4 (0))]), (11, .i op0), (12, .b (decide (op0 = (5 : Int))))] [(4, .pure ([(AV.int n1)])), (5, .pure (l2.toList.flatMap Gkinds_sort.cs)), (6, .pure (Gkinds_sort.cs Gkinds_sort.zero))] Y ⟨TLes.same _, TLes.same _, TLes.same _, (fun _ => .same _), TLes.same _, TLes.same _, trivial⟩ ⟨Y, Y, Y, trivial⟩ (RunW_nil (if2 H Y (fun h3 H => ?_) (fun h3 H => ?_))))))
  ·refine AW2_skip ?_
   obtain rfl := se H
   exact rfl
  refine sg [0,1] Y (rp Y (p_ieq Y Y Y) (ra Y (RunW_st [(0, .i op0), (5, .q 5 (0)), (6, .q 6 (0)), (8, .clo 79 [(.ptr 5 (0)), (.ptr 4 (0))]), (11, .i op0), (12, .b (decide (op0 = (6 : Int))))] [(4, .pure ([(AV.int n1)])), (5, .pure (l2.toList.flatMap Gkinds_sort.cs)), (6, .pure (Gkinds_sort.cs Gkinds_sort.zero))] Y ⟨TLes.same _, TLes.same _, TLes.same _, (fun _ => .same _), TLes.same _, TLes.same _, trivial⟩ ⟨Y, Y, Y, trivial⟩ (RunW_nil (if2 H Y (fun h4 H => ?_) (fun h4 H => ?_))))))
  ·refine AW2_skip ?_
   obtain rfl := se H
   exact rfl
  refine sg [0,1] Y (rp Y (p_ieq Y Y Y) (ra Y (RunW_st [(0, .i op0), (5, .q 5 (0)), (6, .q 6 (0)), (8, .clo 79 [(.ptr 5 (0)), (.ptr 4 (0))]), (11, .i op0), (12, .b (decide (op0 = (7 : Int))))] [(4, .pure ([(AV.int n1)])), (5, .pure (l2.toList.flatMap Gkinds_sort.cs)), (6, .pure (Gkinds_sort.cs Gkinds_sort.zero))] Y ⟨TLes.same _, TLes.same _, TLes.same _, (fun _ => .same _), TLes.same _, TLes.same _, trivial⟩ ⟨Y, Y, Y, trivial⟩ (RunW_nil (if2 H Y (fun h5 H => ?_) (fun h5 H => ?_))))))
  ·refine AW2_skip ?_
   obtain rfl := se H
   exact rfl
  refine AW2_reg [0,1] Y (rp Y (p_ieq Y Y Y) (ra Y (RunW_st [(0, .i op0), (5, .q 5 (0)), (6, .q 6 (0)), (8, .clo 79 [(.ptr 5 (0)), (.ptr 4 (0))]), (11, .i op0), (12, .b (decide (op0 = (8 : Int))))] [(4, .pure ([(AV.int n1)])), (5, .pure (l2.toList.flatMap Gkinds_sort.cs)), (6, .pure (Gkinds_sort.cs Gkinds_sort.zero))] Y ⟨TLes.same _, TLes.same _, TLes.same _, (fun _ => .same _), TLes.same _, TLes.same _, trivial⟩ ⟨Y, Y, Y, trivial⟩ (RunW_nil ?_))))
  obtain rfl := se H
  exact rfl
 refine AW2_cond Y (fun h6 => ?_) (fun h6 => ?_)
 ·replace H := ite_then h6 H
  refine sg [0,1,2,3,4,5] Y (rm Y (bindK H fun r'2 h7 H => rp Y (p_callc Y Y Y Tryd.func79 Y Y (g_kinds_joined_1_i0_ac h7) (nlT (Gkinds_sort.nl r'2.1) (nlT Y Y)) ⟨lend_p Y, lend_p Y, lendc_ptr Y (nl (vfm_len (fun x => (Gkinds_sort.len x)) l2)), lendc_ptr Y (List.cons_ne_nil _ _), trivial⟩) (rp Y (p_ext Y Y Y Y) (rp Y (p_ext Y Y Y Y) (rq Y (u_sw Y Y Y Y Y in_88 (Gkinds_sort.len r'2.1) (Gkinds_sort.len Gkinds_sort.zero) Y) ?_)))))
  refine ra Y (rz [(6, .q 6 (0)), (7, .i r'2.2)] [(6, .pure (Gkinds_sort.cs r'2.1))] Y (AW2_ret ?_))
  obtain rfl := se H
  exact ⟨⟨rcw U88 Y in_88 Y (Gkinds_sort.len r'2.1), rt, trivial⟩, trivial⟩
 replace H := ite_else (ne_true h6) H
 refine AW2_seq (bindK H fun j'3 h8 H => AW2_mid (⟨[(0, .i op0), (5, .q 5 (0)), (6, .q 6 (0)), (8, .clo 79 [(.ptr 5 (0)), (.ptr 4 (0))]), (11, .i op0), (22, .b j'3)], [(4, .pure ([(AV.int n1)])), (5, .pure (l2.toList.flatMap Gkinds_sort.cs)), (6, .pure (Gkinds_sort.cs Gkinds_sort.zero))], 81⟩ : TS) ?_ ?_)
 ·clear H
  have H := h8
  clear h8
  refine sg [0,1] Y (rp Y (p_ieq Y Y Y) (ra Y (RunW_st [(0, .i op0), (5, .q 5 (0)), (6, .q 6 (0)), (8, .clo 79 [(.ptr 5 (0)), (.ptr 4 (0))]), (11, .i op0), (22, .b (decide (op0 = (4 : Int))))] [(4, .pure ([(AV.int n1)])), (5, .pure (l2.toList.flatMap Gkinds_sort.cs)), (6, .pure (Gkinds_sort.cs Gkinds_sort.zero))] Y ⟨TLes.same _, TLes.same _, TLes.same _, (fun _ => .same _), TLes.same _, TLes.same _, trivial⟩ ⟨Y, Y, Y, trivial⟩ (RunW_nil (if2 H Y (fun h9 H => ?_) (fun h9 H => ?_))))))
  ·refine AW2_skip ?_
   obtain rfl := se H
   exact rfl
  refine sg [0,1] Y (rp Y (p_ieq Y Y Y) (ra Y (RunW_st [(0, .i op0), (5, .q 5 (0)), (6, .q 6 (0)), (8, .clo 79 [(.ptr 5 (0)), (.ptr 4 (0))]), (11, .i op0), (22, .b (decide (op0 = (15 : Int))))] [(4, .pure ([(AV.int n1)])), (5, .pure (l2.toList.flatMap Gkinds_sort.cs)), (6, .pure (Gkinds_sort.cs Gkinds_sort.zero))] Y ⟨TLes.same _, TLes.same _, TLes.same _, (fun _ => .same _), TLes.same _, TLes.same _, trivial⟩ ⟨Y, Y, Y, trivial⟩ (RunW_nil (if2 H Y (fun h10 H => ?_) (fun h10 H => ?_))))))
  ·refine AW2_skip ?_
   obtain rfl := se H
   exact rfl
  refine AW2_reg [0,1] Y (rp Y (p_ieq Y Y Y) (ra Y (RunW_st [(0, .i op0), (5, .q 5 (0)), (6, .q 6 (0)), (8, .clo 79 [(.ptr 5 (0)), (.ptr 4 (0))]), (11, .i op0), (22, .b (decide (op0 = (16 : Int))))] [(4, .pure ([(AV.int n1)])), (5, .pure (l2.toList.flatMap Gkinds_sort.cs)), (6, .pure (Gkinds_sort.cs Gkinds_sort.zero))] Y ⟨TLes.same _, TLes.same _, TLes.same _, (fun _ => .same _), TLes.same _, TLes.same _, trivial⟩ ⟨Y, Y, Y, trivial⟩ (RunW_nil ?_))))
  obtain rfl := se H
  exact rfl
 refine AW2_cond Y (fun h11 => ?_) (fun h11 => ?_)
 ·replace H := ite_then h11 H
  refine sg [0,1,2,3,4,5] Y (rm Y (bindK H fun r'4 h12 H => rp Y (p_callc Y Y Y Tryd.func79 Y Y (g_kinds_joined_1_i0_ac h12) (nlT (Gkinds_sort.nl r'4.1) (nlT Y Y)) ⟨lend_p Y, lend_p Y, lendc_ptr Y (nl (vfm_len (fun x => (Gkinds_sort.len x)) l2)), lendc_ptr Y (List.cons_ne_nil _ _), trivial⟩) (rp Y (p_ext Y Y Y Y) (rp Y (p_ext Y Y Y Y) (rq Y (u_sw Y Y Y Y Y in_88 (Gkinds_sort.len r'4.1) (Gkinds_sort.len Gkinds_sort.zero) Y) ?_)))))
  refine ra Y (rz [(6, .q 6 (0)), (7, .i r'4.2)] [(6, .pure (Gkinds_sort.cs r'4.1))] Y (AW2_ret ?_))
  obtain rfl := se H
  exact ⟨⟨rcw U88 Y in_88 Y (Gkinds_sort.len r'4.1), rt, trivial⟩, trivial⟩
 replace H := ite_else (ne_true h11) H
 refine sg [0,1] Y (rp Y (p_ieq Y Y Y) (ra Y (RunW_st [(0, .i op0), (5, .q 5 (0)), (6, .q 6 (0)), (8, .clo 79 [(.ptr 5 (0)), (.ptr 4 (0))]), (11, .i op0), (30, .b (decide (op0 = (18 : Int))))] [(4, .pure ([(AV.int n1)])), (5, .pure (l2.toList.flatMap Gkinds_sort.cs)), (6, .pure (Gkinds_sort.cs Gkinds_sort.zero))] Y ⟨TLes.same _, TLes.same _, TLes.same _, (fun _ => .same _), TLes.same _, TLes.same _, trivial⟩ ⟨Y, Y, Y, trivial⟩ (RunW_nil (if2 H Y (fun h13 H => ?_) (fun h13 H => ?_))))))
 ·refine sg [0,1,2,3,4,5] Y (rm Y (bindK H fun r'5 h14 H => rp Y (p_callc Y Y Y Tryd.func79 Y Y (g_kinds_joined_1_i0_ac h14) (nlT (Gkinds_sort.nl r'5.1) (nlT Y Y)) ⟨lend_p Y, lend_p Y, lendc_ptr Y (nl (vfm_len (fun x => (Gkinds_sort.len x)) l2)), lendc_ptr Y (List.cons_ne_nil _ _), trivial⟩) (rp Y (p_ext Y Y Y Y) (rp Y (p_ext Y Y Y Y) (rq Y (u_sw Y Y Y Y Y in_88 (Gkinds_sort.len r'5.1) (Gkinds_sort.len Gkinds_sort.zero) Y) ?_)))))
  refine ra Y (rz [(6, .q 6 (0)), (7, .i r'5.2)] [(6, .pure (Gkinds_sort.cs r'5.1))] Y (AW2_ret ?_))
  obtain rfl := se H
  exact ⟨⟨rcw U88 Y in_88 Y (Gkinds_sort.len r'5.1), rt, trivial⟩, trivial⟩
 refine sg [0,1] Y (rp Y (p_ieq Y Y Y) (ra Y (RunW_st [(0, .i op0), (5, .q 5 (0)), (6, .q 6 (0)), (8, .clo 79 [(.ptr 5 (0)), (.ptr 4 (0))]), (11, .i op0), (36, .b (decide (op0 = (19 : Int))))] [(4, .pure ([(AV.int n1)])), (5, .pure (l2.toList.flatMap Gkinds_sort.cs)), (6, .pure (Gkinds_sort.cs Gkinds_sort.zero))] Y ⟨TLes.same _, TLes.same _, TLes.same _, (fun _ => .same _), TLes.same _, TLes.same _, trivial⟩ ⟨Y, Y, Y, trivial⟩ (RunW_nil (if2 H Y (fun h15 H => ?_) (fun h15 H => ?_))))))
 ·refine sg [0,1,2,3,4,5] Y (rm Y (bindK H fun r'6 h16 H => rp Y (p_callc Y Y Y Tryd.func79 Y Y (g_kinds_joined_1_i0_ac h16) (nlT (Gkinds_sort.nl r'6.1) (nlT Y Y)) ⟨lend_p Y, lend_p Y, lendc_ptr Y (nl (vfm_len (fun x => (Gkinds_sort.len x)) l2)), lendc_ptr Y (List.cons_ne_nil _ _), trivial⟩) (rp Y (p_ext Y Y Y Y) (rp Y (p_ext Y Y Y Y) (rq Y (u_sw Y Y Y Y Y in_88 (Gkinds_sort.len r'6.1) (Gkinds_sort.len Gkinds_sort.zero) Y) ?_)))))
  refine ra Y (rz [(6, .q 6 (0)), (7, .i r'6.2)] [(6, .pure (Gkinds_sort.cs r'6.1))] Y (AW2_ret ?_))
  obtain rfl := se H
  exact ⟨⟨rcw U88 Y in_88 Y (Gkinds_sort.len r'6.1), rt, trivial⟩, trivial⟩
 refine sg [0,1] Y (rp Y (p_ieq Y Y Y) (ra Y (rz [(0, .i op0), (5, .q 5 (0)), (6, .q 6 (0)), (42, .b (decide (op0 = (17 : Int))))] [(5, .pure (l2.toList.flatMap Gkinds_sort.cs)), (6, .pure (Gkinds_sort.cs Gkinds_sort.zero))] Y (if2 H Y (fun h17 H => ?_) (fun h17 H => ?_)))))
 ·refine sg [0,1,2] Y (rp Y (u_bld Y in_88 one_88 zc_88 pl_88 Y (af_cons Y Y (Gkinds_sort.upd0 Gkinds_sort.zero (1 : Int)) (af_cons Y Y (Gkinds_sort.upd1 ((Gkinds_sort.w0 Gkinds_sort.zero (1 : Int))) false) Y))) (rq Y (u_sw Y Y Y Y Y in_88 (Gkinds_sort.len ((Gkinds_sort.w1 (Gkinds_sort.w0 Gkinds_sort.zero (1 : Int)) false))) (Gkinds_sort.len Gkinds_sort.zero) Y) (ra Y (rz [(6, _), (7, .i (0 : Int))] [(6, .pure (Gkinds_sort.cs ((Gkinds_sort.w1 (Gkinds_sort.w0 Gkinds_sort.zero (1 : Int)) false))))] Y (AW2_ret ?_)))))
  obtain rfl := se H
  exact ⟨⟨rcw U88 Y in_88 Y (Gkinds_sort.len ((Gkinds_sort.w1 (Gkinds_sort.w0 Gkinds_sort.zero (1 : Int)) false))), rt, trivial⟩, trivial⟩
 refine as2 [(0, _), (5, _), (6, _)] [(5, _), (6, _)] Y (AW2_skip (sg [0,1,2,3,4,5,6] Y (rp Y (u_ixp Y Y U112 in_88 Y Y (nl (vfm_len (fun x => (Gkinds_sort.len x)) l2)) Y Y (by decide)) (rp Y (u_lda Y Y U88 Y in_88 Y np ((Sub.refl _).trans (Sub.vfm (fun x => (Gkinds_sort.len x)) (by decide))) (Gkinds_sort.len (vrd l2 0))) (rp Y (u_ixp Y Y U112 in_88 Y Y (nl (vfm_len (fun x => (Gkinds_sort.len x)) l2)) Y Y (by decide)) (rp Y (u_lda Y Y U88 Y in_88 Y np ((Sub.refl _).trans (Sub.vfm (fun x => (Gkinds_sort.len x)) (by decide))) (Gkinds_sort.len (vrd l2 1))) ?_))))))
 refine bindK H fun r'7 h18 H => rp Y (p_callp Y Y Y Tryd.func81 Y Y (g_kinds_sort_with_ac h18) ⟨Y, Y, trivial⟩) (rq Y (MakeD.opD (u_alloc 9 Y in_88 one_88 zc_88) Y Y Y Y) (rq Y (u_sw Y Y Y Y Y in_88 (Gkinds_sort.len r'7) (Gkinds_sort.len Gkinds_sort.zero) Y) (rz [(0, _), (5, _), (6, _), (9, .q 9 (0))] [(5, .pure (l2.toList.flatMap Gkinds_sort.cs)), (6, .pure (Gkinds_sort.cs Gkinds_sort.zero)), (9, .pure (Gkinds_sort.cs r'7))] Y (AW2_seq (AW2_seq ?_)))))
 refine bindK H fun g'12 h24 H => AW2_mid (⟨[(0, .i op0), (5, .q 5 (0)), (6, .q 6 (0)), (9, .q 9 (0)), (63, .b g'12)], [(5, .pure (l2.toList.flatMap Gkinds_sort.cs)), (6, .pure (Gkinds_sort.cs Gkinds_sort.zero)), (9, .pure (Gkinds_sort.cs r'7))], 81⟩ : TS) ?_ ?_
 ·clear H
  have H := h24
  clear h24
  refine AW2_reg [0,1,2,3,4,5,6,7,8,9,10,11,12,13] Y (rp Y (u_ixp Y Y U112 in_88 Y Y (nl (vfm_len (fun x => (Gkinds_sort.len x)) l2)) Y Y (by decide)) (rp Y (u_lda Y Y U88 Y in_88 Y np ((Sub.refl _).trans (Sub.vfm (fun x => (Gkinds_sort.len x)) (by decide))) (Gkinds_sort.len (vrd l2 0))) (rf Y U88 Y in_3 Y Y (Gkinds_sort.len r'7) (rp Y (u_ld Y Y U3 Y Y (Gkinds_sort.sub0 r'7)) (bindK H fun r'10 h21 H => rp Y (p_callp Y Y Y Tryd.func80 Y Y (g_kinds_sort_fits_ac h21) ⟨Y, Y, trivial⟩) ?_)))))
  refine rp Y (p_not Y Y) (rm Y (em2 H (fun h22 H => ?_) (fun h22 H => ?_)))
  ·refine rO Y h22 Y (rO Y h22 Y (rO Y h22 Y (rO Y h22 Y (rO Y h22 Y (rO Y h22 Y (rp Y (p_pkt Y Y h22 (.same _)) ?_))))))
   refine rs [(0, .i op0), (5, .q 5 (0)), (6, .q 6 (0)), (9, .q 9 (0)), (63, .b true)] [(5, .pure (l2.toList.flatMap Gkinds_sort.cs)), (6, .pure (Gkinds_sort.cs Gkinds_sort.zero)), (9, .pure (Gkinds_sort.cs r'7))] Y ?_
   obtain rfl := se H
   exact RunW_nil rfl
  refine rn Y (bfalse h22) Y (u_ixp Y Y U112 in_88 Y Y (nl (vfm_len (fun x => (Gkinds_sort.len x)) l2)) Y Y (by decide)) (rn Y (bfalse h22) Y (u_lda Y Y U88 Y in_88 Y np ((Sub.refl _).trans (Sub.vfm (fun x => (Gkinds_sort.len x)) (by decide))) (Gkinds_sort.len (vrd l2 1))) (rn Y (bfalse h22) Y (u_fa Y Y U88 Y in_3 nz Y Y (nl (Gkinds_sort.len r'7))) (rn Y (bfalse h22) Y (u_ld Y Y U3 Y Y (Gkinds_sort.sub0 r'7)) (bindK H fun r'11 h23 H => rn Y (bfalse h22) Y (p_callp Y Y Y Tryd.func80 Y Y (g_kinds_sort_fits_ac h23) ⟨Y, Y, trivial⟩) (rn Y (bfalse h22) Y (p_not Y Y) ?_)))))
  refine rp Y (p_pkf Y Y (bfalse h22) (.same _)) (rs [(0, .i op0), (5, .q 5 (0)), (6, .q 6 (0)), (9, .q 9 (0)), (63, .b (!r'11))] [(5, .pure (l2.toList.flatMap Gkinds_sort.cs)), (6, .pure (Gkinds_sort.cs Gkinds_sort.zero)), (9, .pure (Gkinds_sort.cs r'7))] Y ?_)
  obtain rfl := se H
  exact RunW_nil rfl
 refine AW2_cond Y (fun h25 => ?_) (fun h25 => ?_)
 ·replace H := ite_then h25 H
  refine sg [0,1,2] Y (rp Y (u_bld Y in_88 one_88 zc_88 pl_88 Y Y) (rq Y (u_sw Y Y Y Y Y in_88 (Gkinds_sort.len Gkinds_sort.zero) (Gkinds_sort.len Gkinds_sort.zero) Y) (ra Y (rz [(6, .q 6 (0)), (7, .i (2 : Int))] [(6, .pure (Gkinds_sort.cs Gkinds_sort.zero))] Y (AW2_ret ?_)))))
  obtain rfl := se H
  exact ⟨⟨rcw U88 Y in_88 Y (Gkinds_sort.len Gkinds_sort.zero), rt, trivial⟩, trivial⟩
 replace H := ite_else (ne_true h25) H
 refine as2 [(0, .i op0), (5, .q 5 (0)), (6, .q 6 (0)), (9, .q 9 (0))] [(5, .pure (l2.toList.flatMap Gkinds_sort.cs)), (6, .pure (Gkinds_sort.cs Gkinds_sort.zero)), (9, .pure (Gkinds_sort.cs r'7))] Y (AW2_skip (AW2_seq (sg [0,1] Y (rm Y (rp Y (p_ieq Y Y Y) (rz [(5, _), (6, _), (9, _), (66, .b (decide (op0 = (20 : Int))))] [(5, _), (6, _), (9, _)] Y ?_))))))
 refine if2 H Y (fun h26 H => ?_) (fun h26 H => ?_)
 ·refine AW2_seq (AW2_mid (⟨[(6, .q 6 (0)), (7, .i (0 : Int))], [(6, .pure (Gkinds_sort.cs ((Gkinds_sort.w1 (Gkinds_sort.w0 Gkinds_sort.zero r'7.kind_) (decide ((((vrd l2 0).null_) = true) ∧ (((vrd l2 1).null_) = true)))))))], 81⟩ : TS) ?_ ?_)
  ·refine AW2_reg [0,1,2,3,4,5,6,7,8,9,10,11,12] Y (rf Y U88 Y in_3 Y Y (Gkinds_sort.len r'7) (rp Y (u_ld Y Y U3 Y Y (Gkinds_sort.sub0 r'7)) (rp Y (u_ixp Y Y U112 in_88 Y Y (nl (vfm_len (fun x => (Gkinds_sort.len x)) l2)) Y Y (by decide)) (rf Y U88 Y in_4 Y Y (vfm_len (fun x => (Gkinds_sort.len x)) l2) (rp Y (u_ld Y Y U4 Y Y (((Sub.refl _).trans (Sub.vfm (fun x => (Gkinds_sort.len x)) (by decide))).trans (Gkinds_sort.sub1 (vrd l2 0)))) (rm Y ?_))))))
   refine (Classical.em (((vrd l2 0).null_) = true)).elim (fun h27 => ?_) (fun h27 => ?_)
   ·refine rn Y h27 Y (u_ixp Y Y U112 in_88 Y Y (nl (vfm_len (fun x => (Gkinds_sort.len x)) l2)) Y Y (by decide)) (rn Y h27 Y (u_fa Y Y U88 Y in_4 nz Y Y (nl (vfm_len (fun x => (Gkinds_sort.len x)) l2))) (rn Y h27 Y (u_ld Y Y U4 Y Y (((Sub.refl _).trans (Sub.vfm (fun x => (Gkinds_sort.len x)) (by decide))).trans (Gkinds_sort.sub1 (vrd l2 1)))) (rp Y (p_pkt Y Y h27 (tb ((bdec _).trans (and_l (p := ((vrd l2 0).null_) = true) (q := ((vrd l2 1).null_) = true) h27)))) (rp Y (u_bld Y in_88 one_88 zc_88 pl_88 Y (af_cons Y Y (Gkinds_sort.upd0 Gkinds_sort.zero r'7.kind_) (af_cons Y Y (Gkinds_sort.upd1 ((Gkinds_sort.w0 Gkinds_sort.zero r'7.kind_)) (decide ((((vrd l2 0).null_) = true) ∧ (((vrd l2 1).null_) = true)))) Y))) (rq Y (u_sw Y Y Y Y Y in_88 (Gkinds_sort.len ((Gkinds_sort.w1 (Gkinds_sort.w0 Gkinds_sort.zero r'7.kind_) (decide ((((vrd l2 0).null_) = true) ∧ (((vrd l2 1).null_) = true)))))) (Gkinds_sort.len Gkinds_sort.zero) Y) (ra Y ?_))))))
    exact rend Y Y
   refine rO Y (bfalse h27) Y (rO Y (bfalse h27) Y (rO Y (bfalse h27) Y (rp Y (p_pkf Y Y (bfalse h27) (tb (dF (p := (((vrd l2 0).null_) = true) ∧ (((vrd l2 1).null_) = true)) (fun x => h27 x.1)).symm)) (rp Y (u_bld Y in_88 one_88 zc_88 pl_88 Y (af_cons Y Y (Gkinds_sort.upd0 Gkinds_sort.zero r'7.kind_) (af_cons Y Y (Gkinds_sort.upd1 ((Gkinds_sort.w0 Gkinds_sort.zero r'7.kind_)) (decide ((((vrd l2 0).null_) = true) ∧ (((vrd l2 1).null_) = true)))) Y))) (rq Y (u_sw Y Y Y Y Y in_88 (Gkinds_sort.len ((Gkinds_sort.w1 (Gkinds_sort.w0 Gkinds_sort.zero r'7.kind_) (decide ((((vrd l2 0).null_) = true) ∧ (((vrd l2 1).null_) = true)))))) (Gkinds_sort.len Gkinds_sort.zero) Y) (ra Y ?_))))))
   exact rend Y Y
  refine gen1 (fun t6'13 => (⟨[(6, .q 6 (0)), (7, .i (0 : Int))], [(6, .pure (Gkinds_sort.cs t6'13))], 81⟩ : TS)) H ?_
  intro t6'13 H
  refine AW2_ret ?_
  obtain rfl := se H
  exact ⟨⟨rcw U88 Y in_88 Y (Gkinds_sort.len t6'13), rt, trivial⟩, trivial⟩
 refine as2 [(6, _), (9, _)] [(6, _), (9, _)] Y (AW2_skip (sg [0,1,2,3,4] Y (rf Y U88 Y in_4 Y Y (Gkinds_sort.len r'7) (rp Y (u_ld Y Y U4 Y Y (Gkinds_sort.sub1 r'7)) (rp Y (u_bld Y in_88 one_88 zc_88 pl_88 Y (af_cons Y Y (Gkinds_sort.upd0 Gkinds_sort.zero (1 : Int)) (af_cons Y Y (Gkinds_sort.upd1 ((Gkinds_sort.w0 Gkinds_sort.zero (1 : Int))) r'7.null_) Y))) (rq Y (u_sw Y Y Y Y Y in_88 (Gkinds_sort.len ((Gkinds_sort.w1 (Gkinds_sort.w0 Gkinds_sort.zero (1 : Int)) r'7.null_))) (Gkinds_sort.len Gkinds_sort.zero) Y) ?_))))))
 refine ra Y (rz [(6, _), (7, .i (0 : Int))] [(6, .pure (Gkinds_sort.cs ((Gkinds_sort.w1 (Gkinds_sort.w0 Gkinds_sort.zero (1 : Int)) r'7.null_))))] Y (gen1 (fun t6'14 => (⟨[(6, .q 6 (0)), (7, .i (0 : Int))], [(6, .pure (Gkinds_sort.cs t6'14))], 81⟩ : TS)) H ?_))
 intro t6'14 H
 refine AW2_ret ?_
 obtain rfl := se H
 exact ⟨⟨rcw U88 Y in_88 Y (Gkinds_sort.len t6'14), rt, trivial⟩, trivial⟩
noncomputable def g_kinds_of_l0 (e0 : GExpr) (cols1 : List GColumn) : Int → Option (Int ⊕ ((Gkinds_sort × Int) ⊕ Unit))
  | t29_0 => (if t29_0 < (cols1.length : Int) then if 0 ≤ t29_0 ∧ t29_0 < (cols1.length : Int) then (if (lrd cols1 t29_0.toNat).Name = e0.Name then letO ({ { Gkinds_sort.zero with kind_ := (lrd cols1 t29_0.toNat).Kind } with null_ := (lrd cols1 t29_0.toNat).Null }) fun t4'2 => some (.inr (.inl (t4'2, (0 : Int)))) else some (.inl (w64 (t29_0 + (1 : Int))))) else none else some (.inr (.inr ())))
noncomputable def g_kinds_of_l1 (e0 : GExpr) (cols1 : List GColumn) (R' : GExpr → (List GColumn) → Option (Gkinds_sort × Int)) : Int × (Vector Gkinds_sort 2) → Option ((Int × (Vector Gkinds_sort 2)) ⊕ ((Gkinds_sort × Int) ⊕ ((Vector Gkinds_sort 2))))
  | (t48_1, l8_1) => (if t48_1 < (e0.Args.length : Int) then if 0 ≤ t48_1 ∧ t48_1 < (e0.Args.length : Int) then (R' (lrd e0.Args t48_1.toNat) cols1).bind fun r'9 => (if r'9.2 ≠ (0 : Int) then some (.inr (.inl (Gkinds_sort.zero, r'9.2))) else if 0 ≤ t48_1 ∧ t48_1 < (2 : Int) then some (.inl (w64 (t48_1 + (1 : Int)), (vwr l8_1 t48_1.toNat r'9.1))) else none) else none else some (.inr (.inr l8_1)))
noncomputable def g_kinds_of_b (R' : GExpr → (List GColumn) → Option (Gkinds_sort × Int)) (e0 : GExpr) (cols1 : List GColumn) : Option (Gkinds_sort × Int) :=
  (if e0.Op = (1 : Int) then letO ({ { Gkinds_sort.zero with kind_ := e0.Value.Kind } with null_ := (decide (e0.Value.Kind = (0 : Int))) }) fun t4'1 => some (t4'1, (0 : Int)) else (if e0.Op = (2 : Int) then (loopO (g_kinds_of_l0 e0 cols1) (0 : Int)).bind fun o'6 => match o'6 with | .inl y'7 => some y'7 | .inr (y'8) => some (Gkinds_sort.zero, (5 : Int)) else (loopO (g_kinds_of_l1 e0 cols1 R') ((0 : Int), (Vector.replicate 2 Gkinds_sort.zero))).bind fun o'13 => match o'13 with | .inl y'14 => some y'14 | .inr (y'15) => (g_kinds_joined e0.Op (e0.Args.length : Int) y'15).bind fun r'16 => some (r'16.1, r'16.2)))
noncomputable def g_kinds_of : Nat → GExpr → (List GColumn) → Option (Gkinds_sort × Int)
  | 0, _, _ => none
  | fu + 1, e0, cols1 => g_kinds_of_b (g_kinds_of fu) e0 cols1
set_option maxHeartbeats 4000000 in
set_option maxRecDepth 100000 in
theorem g_kinds_of_ac0 {R' : GExpr → (List GColumn) → Option (Gkinds_sort × Int)} (hR : ∀ {e0 : GExpr} {cols1 : List GColumn} {r : Gkinds_sort × Int}, R' e0 cols1 = some r → ACp Tryd.prog 53 [(.agg (GExpr.cs e0)), (GColumn.ls cols1)] (.tup [(.agg (Gkinds_sort.cs r.1)), (AV.int r.2)])) {e0 : GExpr} {cols1 : List GColumn} {r : Gkinds_sort × Int} (H : g_kinds_of_b R' e0 cols1 = some r) : ACp Tryd.prog 53 [(.agg (GExpr.cs e0)), (GColumn.ls cols1)] (.tup [(.agg (Gkinds_sort.cs r.1)), (AV.int r.2)]) := by
 refine ACp_of (AC2_of_body (vs := [.g (Gkinds_sort.cs r.1), .i r.2]) Tryd.func53 Y Y (lb Y) Y ?_) (fun _ => .same _)
 unfold g_kinds_of_b at H
 refine as2 [(0, .g (GExpr.cs e0)), (1, .p (GColumn.ls cols1))] [] Y (sg [0,1,2] Y (rq Y (MakeD.opD (n_box 2 Y Y) Y Y Y Y) (rq Y (MakeD.opD (u_alloc 4 Y in_88 one_88 zc_88) Y Y Y Y) (ra Y (rz [(1, _), (2, .q 2 (0)), (4, .q 4 (0))] [(2, .pure (GExpr.cs e0)), (4, .pure (Gkinds_sort.cs Gkinds_sort.zero))] Y (AW2_seq ?_))))))
 refine sg [0,1] Y (rf Y U27 Y in_3 Y Y (GExpr.len e0) (rp Y (u_ld Y Y U3 Y Y (GExpr.sub0 e0)) (rz [(1, _), (2, _), (4, _), (14, .i e0.Op)] [(2, _), (4, _)] Y (AW2_block (sg [0,1] Y (rp Y (p_ieq Y Y Y) ?_))))))
 refine ra Y (rz [(1, _), (2, _), (4, _), (14, _), (15, .b (decide (e0.Op = (1 : Int))))] [(2, _), (4, _)] Y (if2 H Y (fun h1 H => ?_) (fun h1 H => ?_)))
 ·refine sg [0,1,2,3,4,5,6,7,8,9] Y (rf Y U27 Y in_24 Y Y (GExpr.len e0) (rf Y U24 Y in_3 Y Y (GExpr.len e0) (rp Y (u_ld Y Y U3 Y Y ((GExpr.sub1 e0).trans (GValue.sub0 e0.Value))) (rf Y U27 Y in_24 Y Y (GExpr.len e0) (rf Y U24 Y in_3 Y Y (GExpr.len e0) (rp Y (u_ld Y Y U3 Y Y ((GExpr.sub1 e0).trans (GValue.sub0 e0.Value))) ?_))))))
  refine rp Y (p_ieq Y Y Y) (rp Y (u_bld Y in_88 one_88 zc_88 pl_88 Y (af_cons Y Y (Gkinds_sort.upd0 Gkinds_sort.zero e0.Value.Kind) (af_cons Y Y (Gkinds_sort.upd1 ((Gkinds_sort.w0 Gkinds_sort.zero e0.Value.Kind)) (decide (e0.Value.Kind = (0 : Int)))) Y))) (rq Y (u_sw Y Y Y Y Y in_88 (Gkinds_sort.len ((Gkinds_sort.w1 (Gkinds_sort.w0 Gkinds_sort.zero e0.Value.Kind) (decide (e0.Value.Kind = (0 : Int)))))) (Gkinds_sort.len Gkinds_sort.zero) Y) (ra Y (rz [(4, _), (5, .i (0 : Int))] [(4, .pure (Gkinds_sort.cs ((Gkinds_sort.w1 (Gkinds_sort.w0 Gkinds_sort.zero e0.Value.Kind) (decide (e0.Value.Kind = (0 : Int)))))))] Y (gen1 (fun t4'1 => (⟨[(4, .q 4 (0)), (5, .i (0 : Int))], [(4, .pure (Gkinds_sort.cs t4'1))], 76⟩ : TS)) H ?_)))))
  intro t4'1 H
  refine AW2_ret ?_
  obtain rfl := se H
  exact ⟨⟨rcw U88 Y in_88 Y (Gkinds_sort.len t4'1), rt, trivial⟩, trivial⟩
 refine sg [0,1] Y (rp Y (p_ieq Y Y Y) (ra Y (rz [(1, _), (2, _), (4, _), (25, .b (decide (e0.Op = (2 : Int))))] [(2, _), (4, _)] Y (if2 H Y (fun h2 H => ?_) (fun h2 H => ?_)))))
 ·refine AW2_seq (sg [0,1,2] Y (rm Y (rp Y (p_lenl Y U28 Y Y) (rm Y (rz [(2, _), (4, _), (27, .p (GColumn.ls cols1)), (28, .i (cols1.length : Int)), (29, .i (0 : Int))] [(2, _), (4, _)] Y (AW2_block ?_))))))
  refine as2 [(2, _), (4, _), (27, _), (28, _), (29, _)] [(2, _), (4, _)] Y (bindK H fun o'6 h6 H => AW2_loopO (fun a'3 : Int => (⟨[(2, .q 2 (0)), (4, .q 4 (0)), (27, .p (GColumn.ls cols1)), (28, .i (cols1.length : Int)), (29, .i a'3)], [(2, .pure (GExpr.cs e0)), (4, .pure (Gkinds_sort.cs Gkinds_sort.zero))], 76⟩ : TS)) (fun (o : (Gkinds_sort × Int) ⊕ Unit) e s' => match o with | .inl y'4 => e = Go.Exit.ret ∧ ResAll Tryd.prog s' [ResultVar.cell 4 88, ResultVar.tmp 5] [.g (Gkinds_sort.cs y'4.1), .i y'4.2] ∧ HFits s' [] | .inr (y'5) => e = Go.Exit.exit 1 ∧ s' = (⟨[(4, .q 4 (0))], [(4, .pure (Gkinds_sort.cs Gkinds_sort.zero))], 76⟩ : TS)) h6 Y (fun t29_0 x hx => ?_) (fun e s' hs => ?_))
  ·clear H
   have H := hx
   clear hx
   unfold g_kinds_of_l0 at H
   refine sg [0] Y (rp Y (p_bin Y Y Y Y) (rz [(2, .q 2 (0)), (4, .q 4 (0)), (27, .p (GColumn.ls cols1)), (28, .i (cols1.length : Int)), (29, .i t29_0), (30, .b (decide (t29_0 < (cols1.length : Int))))] [(2, .pure (GExpr.cs e0)), (4, .pure (Gkinds_sort.cs Gkinds_sort.zero))] Y (AW2_seq (if2 H Y (fun h3 H => ?_) (fun h3 H => ?_)))))
   ·refine as2 [(2, _), (4, _), (27, _), (28, _), (29, _)] [(2, _), (4, _)] Y (AW2_skip (AW2_seq (AW2_block (sg [0,1,2,3] Y (chkK H fun h4 H => rp Y (u_ixl Y Y U28 in_59 Y Y (ixe h4) (ixn h4) (fne (fun x => (GColumn.len x)) (by decide) (ixn h4))) ?_)))))
    refine rp Y (u_lda Y Y U59 Y in_59 Y np (Sub.fm default (fun x => (GColumn.len x)) (ixn h4)) (GColumn.len (lrd cols1 t29_0.toNat))) (rq Y (MakeD.opD (u_alloc 7 Y in_59 one_59 zc_59) Y Y Y Y) (rq Y (u_sw Y Y Y Y Y in_59 (GColumn.len (lrd cols1 t29_0.toNat)) (GColumn.len GColumn.zero) Y) (rz [(2, _), (4, _), (7, .q 7 (0)), (27, _), (28, _), (29, _)] [(2, .pure (GExpr.cs e0)), (4, .pure (Gkinds_sort.cs Gkinds_sort.zero)), (7, .pure (GColumn.cs (lrd cols1 t29_0.toNat)))] Y (sg [0,1,2,3,4] Y (rf Y U59 Y in_9 Y Y (GColumn.len (lrd cols1 t29_0.toNat)) (rp Y (u_ld Y Y U9 Y Y (GColumn.sub0 (lrd cols1 t29_0.toNat))) ?_))))))
    refine rf Y U27 Y in_9 Y Y (GExpr.len e0) (rp Y (u_ld Y Y U9 Y Y (GExpr.sub2 e0)) (rp Y (p_seq Y Y Y) (rz [(2, _), (4, _), (7, _), (27, _), (28, _), (29, _), (37, .b (decide ((lrd cols1 t29_0.toNat).Name = e0.Name)))] [(2, _), (4, _), (7, _)] Y (if2 H Y (fun h5 H => ?_) (fun h5 H => ?_)))))
    ·refine sg [0,1,2,3,4,5,6] Y (rf Y U59 Y in_3 Y Y (GColumn.len (lrd cols1 t29_0.toNat)) (rp Y (u_ld Y Y U3 Y Y (GColumn.sub1 (lrd cols1 t29_0.toNat))) (rf Y U59 Y in_4 Y Y (GColumn.len (lrd cols1 t29_0.toNat)) (rp Y (u_ld Y Y U4 Y Y (GColumn.sub2 (lrd cols1 t29_0.toNat))) (rp Y (u_bld Y in_88 one_88 zc_88 pl_88 Y (af_cons Y Y (Gkinds_sort.upd0 Gkinds_sort.zero ((lrd cols1 t29_0.toNat).Kind)) (af_cons Y Y (Gkinds_sort.upd1 ((Gkinds_sort.w0 Gkinds_sort.zero ((lrd cols1 t29_0.toNat).Kind))) ((lrd cols1 t29_0.toNat).Null)) Y))) (rq Y (u_sw Y Y Y Y Y in_88 (Gkinds_sort.len ((Gkinds_sort.w1 (Gkinds_sort.w0 Gkinds_sort.zero ((lrd cols1 t29_0.toNat).Kind)) ((lrd cols1 t29_0.toNat).Null)))) (Gkinds_sort.len Gkinds_sort.zero) Y) ?_))))))
     refine ra Y (rz [(4, _), (5, .i (0 : Int))] [(4, .pure (Gkinds_sort.cs ((Gkinds_sort.w1 (Gkinds_sort.w0 Gkinds_sort.zero ((lrd cols1 t29_0.toNat).Kind)) ((lrd cols1 t29_0.toNat).Null)))))] Y (gen1 (fun t4'2 => (⟨[(4, .q 4 (0)), (5, .i (0 : Int))], [(4, .pure (Gkinds_sort.cs t4'2))], 76⟩ : TS)) H ?_))
     intro t4'2 H
     refine AW2_ret ?_
     obtain rfl := se H
     exact ⟨Y, ⟨rcw U88 Y in_88 Y (Gkinds_sort.len t4'2), rt, trivial⟩, trivial⟩
    refine as2 [(2, _), (4, _), (27, _), (28, _), (29, _)] [(2, _), (4, _)] Y (AW2_skip (AW2_reg [0,1] Y (rp Y (p_bin Y Y Y Y) (rm Y (rz [(2, _), (4, _), (27, _), (28, _), (29, .i (w64 (t29_0 + (1 : Int))))] [(2, _), (4, _)] Y ?_)))))
    obtain rfl := se H
    exact ⟨Y, Y⟩
   refine as2 [(4, _)] [(4, _)] Y (AW2_exit (thenQ2_exit ?_))
   obtain rfl := se H
   exact ⟨Y, Y⟩
  rcases o'6 with y'7 | y'8
  ·obtain ⟨rfl, hs⟩ := hs
   refine ⟨by simp, ?_⟩
   obtain rfl := se H
   exact ⟨hs.1, hs.2⟩
  obtain ⟨rfl, rfl⟩ := hs
  refine ⟨by simp, ?_⟩
  refine blockQ2_exit (sg [0,1,2] Y (rp Y (u_bld Y in_88 one_88 zc_88 pl_88 Y Y) (rq Y (u_sw Y Y Y Y Y in_88 (Gkinds_sort.len Gkinds_sort.zero) (Gkinds_sort.len Gkinds_sort.zero) Y) (ra Y (rz [(4, .q 4 (0)), (5, .i (5 : Int))] [(4, .pure (Gkinds_sort.cs Gkinds_sort.zero))] Y (AW2_ret ?_))))))
  obtain rfl := se H
  exact ⟨⟨rcw U88 Y in_88 Y (Gkinds_sort.len Gkinds_sort.zero), rt, trivial⟩, trivial⟩
 refine as2 [(1, _), (2, _), (4, _)] [(2, _), (4, _)] Y (AW2_skip (sg [0] Y (rq Y (MakeD.opD (u_alloc 8 Y in_112 one_112 zc_112) Y Y Y Y) (rz [(1, _), (2, _), (4, _), (8, .q 8 (0))] [(2, .pure (GExpr.cs e0)), (4, .pure (Gkinds_sort.cs Gkinds_sort.zero)), (8, .pure (((Vector.replicate 2 Gkinds_sort.zero).toList).flatMap Gkinds_sort.cs))] Y (AW2_seq (sg [0,1,2,3] Y ?_))))))
 refine rf Y U27 Y in_25 Y Y (GExpr.len e0) (rp Y (u_ld Y Y U25 Y Y (GExpr.sub3 e0)) (rp Y (p_lenl Y U25 Y Y) (rm Y (rz [(1, _), (2, _), (4, _), (8, _), (46, .p (GExpr.ls e0.Args)), (47, .i (e0.Args.length : Int)), (48, .i (0 : Int))] [(2, _), (4, _), (8, _)] Y (AW2_block (as2 [(1, _), (2, _), (4, _), (8, _), (46, _), (47, _), (48, _)] [(2, _), (4, _), (8, _)] Y ?_))))))
 refine bindK H fun o'13 h12 H => AW2_loopO (fun a'10 : Int × (Vector Gkinds_sort 2) => (⟨[(1, .p (GColumn.ls cols1)), (2, .q 2 (0)), (4, .q 4 (0)), (8, .q 8 (0)), (46, .p (GExpr.ls e0.Args)), (47, .i (e0.Args.length : Int)), (48, .i a'10.1)], [(2, .pure (GExpr.cs e0)), (4, .pure (Gkinds_sort.cs Gkinds_sort.zero)), (8, .pure (a'10.2.toList.flatMap Gkinds_sort.cs))], 76⟩ : TS)) (fun (o : (Gkinds_sort × Int) ⊕ ((Vector Gkinds_sort 2))) e s' => match o with | .inl y'11 => e = Go.Exit.ret ∧ ResAll Tryd.prog s' [ResultVar.cell 4 88, ResultVar.tmp 5] [.g (Gkinds_sort.cs y'11.1), .i y'11.2] ∧ HFits s' [] | .inr (y'12) => e = Go.Exit.exit 3 ∧ s' = (⟨[(2, .q 2 (0)), (4, .q 4 (0)), (8, .q 8 (0))], [(2, .pure (GExpr.cs e0)), (4, .pure (Gkinds_sort.cs Gkinds_sort.zero)), (8, .pure (y'12.toList.flatMap Gkinds_sort.cs))], 76⟩ : TS)) h12 Y (fun a x hx => ?_) (fun e s' hs => ?_)
 ·clear H
  obtain ⟨t48_1, l8_1⟩ := a
  have H := hx
  clear hx
  unfold g_kinds_of_l1 at H
  refine sg [0] Y (rp Y (p_bin Y Y Y Y) (rz [(1, .p (GColumn.ls cols1)), (2, .q 2 (0)), (4, .q 4 (0)), (8, .q 8 (0)), (46, .p (GExpr.ls e0.Args)), (47, .i (e0.Args.length : Int)), (48, .i t48_1), (49, .b (decide (t48_1 < (e0.Args.length : Int))))] [(2, .pure (GExpr.cs e0)), (4, .pure (Gkinds_sort.cs Gkinds_sort.zero)), (8, .pure (l8_1.toList.flatMap Gkinds_sort.cs))] Y (AW2_seq (if2 H Y (fun h7 H => ?_) (fun h7 H => ?_)))))
  ·refine as2 [(1, _), (2, _), (4, _), (8, _), (46, _), (47, _), (48, _)] [(2, _), (4, _), (8, _)] Y (AW2_skip (AW2_seq (AW2_block (sg [0,1,2,3,4,5] Y (rm Y (chkK H fun h8 H => ?_))))))
   refine rp Y (u_ixl Y Y U25 in_27 Y Y (ixe h8) (ixn h8) (fne (fun x => (GExpr.len x)) (by decide) (ixn h8))) (rp Y (u_lda Y Y U27 Y in_27 Y np (Sub.fm default (fun x => (GExpr.len x)) (ixn h8)) (GExpr.len (lrd e0.Args t48_1.toNat))) (rq Y (MakeD.opD (u_alloc 10 Y in_27 one_27 zc_27) Y Y Y Y) (ra Y (rq Y (u_sw Y Y Y Y Y in_27 (GExpr.len (lrd e0.Args t48_1.toNat)) (GExpr.len GExpr.zero) Y) (rz [(1, _), (2, _), (4, _), (8, _), (9, .i t48_1), (10, .q 10 (0)), (46, _), (47, _), (48, _)] [(2, .pure (GExpr.cs e0)), (4, .pure (Gkinds_sort.cs Gkinds_sort.zero)), (8, .pure (l8_1.toList.flatMap Gkinds_sort.cs)), (10, .pure (GExpr.cs (lrd e0.Args t48_1.toNat)))] Y (sg [0,1,2,3,4,5,6,7,8] Y ?_))))))
   refine rp Y (u_lda Y Y U27 Y in_27 Y np (Sub.refl _) (GExpr.len (lrd e0.Args t48_1.toNat))) (rm Y (bindK H fun r'9 h9 H => rp Y (p_callp Y Y Y Tryd.func53 Y Y (hR h9) ⟨Y, Y, trivial⟩) (rm Y (rp Y (p_ext Y Y Y Y) (rp Y (p_ext Y Y Y Y) ?_)))))
   refine rq Y (MakeD.opD (u_alloc 11 Y in_88 one_88 zc_88) Y Y Y Y) (rq Y (u_sw Y Y Y Y Y in_88 (Gkinds_sort.len r'9.1) (Gkinds_sort.len Gkinds_sort.zero) Y) (ra Y (rz [(1, _), (2, _), (4, _), (8, _), (9, _), (11, .q 11 (0)), (12, .i r'9.2), (46, _), (47, _), (48, _)] [(2, .pure (GExpr.cs e0)), (4, .pure (Gkinds_sort.cs Gkinds_sort.zero)), (8, .pure (l8_1.toList.flatMap Gkinds_sort.cs)), (11, .pure (Gkinds_sort.cs r'9.1))] Y (AW2_seq (sg [0,1] Y (rm Y ?_))))))
   refine rp Y (p_ine Y Y Y) (rz [(1, _), (2, _), (4, _), (8, _), (9, _), (11, _), (12, _), (46, _), (47, _), (48, _), (60, .b (decide (r'9.2 ≠ (0 : Int))))] [(2, _), (4, _), (8, _), (11, _)] Y (if2 H Y (fun h10 H => ?_) (fun h10 H => ?_)))
   ·refine sg [0,1,2,3] Y (rp Y (u_bld Y in_88 one_88 zc_88 pl_88 Y Y) (rm Y (rq Y (u_sw Y Y Y Y Y in_88 (Gkinds_sort.len Gkinds_sort.zero) (Gkinds_sort.len Gkinds_sort.zero) Y) (ra Y (rz [(4, _), (5, .i r'9.2)] [(4, .pure (Gkinds_sort.cs Gkinds_sort.zero))] Y (AW2_ret ?_))))))
    obtain rfl := se H
    exact ⟨Y, ⟨rcw U88 Y in_88 Y (Gkinds_sort.len Gkinds_sort.zero), rt, trivial⟩, trivial⟩
   refine as2 [(1, _), (2, _), (4, _), (8, _), (9, _), (11, _), (46, _), (47, _), (48, _)] [(2, _), (4, _), (8, _), (11, _)] Y (AW2_skip (AW2_reg [0,1,2,3] Y (rm Y (rp Y (u_lda Y Y U88 Y in_88 Y np (Sub.refl _) (Gkinds_sort.len r'9.1)) (chkK H fun h11 H => rp Y (u_ixp Y Y U112 in_88 Y Y (nl (vfm_len (fun x => (Gkinds_sort.len x)) l8_1)) Y (ixe h11) (ixn h11)) ?_)))))
   refine rq Y (u_st Y Y Y Y Y in_88 (Gkinds_sort.len r'9.1) (nl (vfm_len (fun x => (Gkinds_sort.len x)) l8_1)) (Upd.trans (Sub.refl _) (Upd.vfm (fun x => (Gkinds_sort.len x)) (ixn h11)) (Upd.refl ((vfm_len (fun x => (Gkinds_sort.len x)) (vwr l8_1 t48_1.toNat r'9.1)).trans (vfm_len (fun x => (Gkinds_sort.len x)) l8_1).symm)))) (rz [(1, _), (2, _), (4, _), (8, _), (46, _), (47, _), (48, _)] [(2, .pure (GExpr.cs e0)), (4, .pure (Gkinds_sort.cs Gkinds_sort.zero)), (8, .pure (((vwr l8_1 t48_1.toNat r'9.1).toList).flatMap Gkinds_sort.cs))] Y (AW2_reg [0,1] Y (rp Y (p_bin Y Y Y Y) (rm Y (rz [(1, _), (2, _), (4, _), (8, _), (46, _), (47, _), (48, .i (w64 (t48_1 + (1 : Int))))] [(2, _), (4, _), (8, _)] Y ?_)))))
   obtain rfl := se H
   exact ⟨Y, Y⟩
  refine as2 [(2, _), (4, _), (8, _)] [(2, _), (4, _), (8, _)] Y (AW2_exit (thenQ2_exit ?_))
  obtain rfl := se H
  exact ⟨Y, Y⟩
 rcases o'13 with y'14 | y'15
 ·obtain ⟨rfl, hs⟩ := hs
  refine ⟨by simp, ?_⟩
  obtain rfl := se H
  exact ⟨hs.1, hs.2⟩
 obtain ⟨rfl, rfl⟩ := hs
 refine ⟨by simp, ?_⟩
 refine blockQ2_exit (sg [0,1,2,3,4,5,6,7,8,9,10] Y (rf Y U27 Y in_3 Y Y (GExpr.len e0) (rp Y (u_ld Y Y U3 Y Y (GExpr.sub0 e0)) (rf Y U27 Y in_25 Y Y (GExpr.len e0) (rp Y (u_ld Y Y U25 Y Y (GExpr.sub3 e0)) (rp Y (p_lenl Y U25 Y Y) ?_))))))
 refine rp Y (u_lda Y Y U112 Y in_112 Y np (Sub.refl _) (vfm_len (fun x => (Gkinds_sort.len x)) y'15)) (bindK H fun r'16 h13 H => rp Y (p_callp Y Y Y Tryd.func76 Y Y (g_kinds_joined_ac h13) ⟨Y, Y, Y, trivial⟩) (rp Y (p_ext Y Y Y Y) (rp Y (p_ext Y Y Y Y) (rq Y (u_sw Y Y Y Y Y in_88 (Gkinds_sort.len r'16.1) (Gkinds_sort.len Gkinds_sort.zero) Y) (ra Y ?_)))))
 refine rz [(4, .q 4 (0)), (5, .i r'16.2)] [(4, .pure (Gkinds_sort.cs r'16.1))] Y (AW2_ret ?_)
 obtain rfl := se H
 exact ⟨⟨rcw U88 Y in_88 Y (Gkinds_sort.len r'16.1), rt, trivial⟩, trivial⟩
theorem g_kinds_of_acN : ∀ (fu : Nat) {e0 : GExpr} {cols1 : List GColumn} {r : Gkinds_sort × Int}, g_kinds_of fu e0 cols1 = some r → ACp Tryd.prog 53 [(.agg (GExpr.cs e0)), (GColumn.ls cols1)] (.tup [(.agg (Gkinds_sort.cs r.1)), (AV.int r.2)])
 | 0, _, _, _, H => (by cases H)
 | fu + 1, _, _, _, H => g_kinds_of_ac0 (g_kinds_of_acN fu) H
theorem g_kinds_of_ac {e0 : GExpr} {cols1 : List GColumn} {r : Gkinds_sort × Int} (H : g_kinds_of 100000 e0 cols1 = some r) : ACp Tryd.prog 53 [(.agg (GExpr.cs e0)), (GColumn.ls cols1)] (.tup [(.agg (Gkinds_sort.cs r.1)), (AV.int r.2)]) := g_kinds_of_acN 100000 H
def g_kinds_Of_r10 : List (List (Nat × Option Nat)) := [[(9, none)], [(29, some 0)], [(9, none)], [(31, some 2)], [(30, some 1)]]
def g_kinds_Of_r10c : List (List Nat) := [[], [0], [], [2], [0, 1], [0, 1, 2, 3, 4], [0, 1, 2, 3, 4, 5]]
noncomputable def g_kinds_Of (e0 : GExpr) (cols1 : List GColumn) : Option (Int × Bool × Int) :=
  (g_expr_Check e0).bind fun r'1 => (if r'1 ≠ (0 : Int) then some ((0 : Int), false, r'1) else (g_kinds_Columns cols1).bind fun r'2 => (if r'2 ≠ (0 : Int) then some ((0 : Int), false, r'2) else (g_kinds_of 100000 e0 cols1).bind fun r'3 => (if r'3.2 ≠ (0 : Int) then some ((0 : Int), false, r'3.2) else some (r'3.1.kind_, r'3.1.null_, (0 : Int)))))
set_option maxHeartbeats 4000000 in
set_option maxRecDepth 100000 in
theorem g_kinds_Of_ac {e0 : GExpr} {cols1 : List GColumn} {r : Int × Bool × Int} (H : g_kinds_Of e0 cols1 = some r) : ACp Tryd.prog 37 [(.agg (GExpr.cs e0)), (GColumn.ls cols1)] (.tup [(AV.int r.1), (AV.bool r.2.1), (AV.int r.2.2)]) := by
 refine ACp_of (AC2_of_body (vs := [.i r.1, .b r.2.1, .i r.2.2]) Tryd.func37 Y Y (lb Y) Y ?_) (fun _ => .same _)
 unfold g_kinds_Of at H
 refine as2 [(0, .g (GExpr.cs e0)), (1, .p (GColumn.ls cols1))] [] Y (sg [0,1,2,3] Y (rq Y (MakeD.opD (n_box 2 Y Y) Y Y Y Y) (ra Y (ra Y (ra Y (rz [(1, _), (2, .q 2 (0))] [(2, .pure (GExpr.cs e0))] Y ?_))))))
 refine AW2_seq (sg [0,1,2] Y (rp Y (u_lda Y Y U27 Y in_27 Y np (Sub.refl _) (GExpr.len e0)) (bindK H fun r'1 h1 H => rp Y (p_callp Y Y Y Tryd.func13 Y Y (g_expr_Check_ac h1) ⟨Y, trivial⟩) (ra Y (rz [(1, _), (2, _), (7, .i r'1)] [(2, _)] Y ?_)))))
 refine sg [0,1] Y (rm Y (rp Y (p_ine Y Y Y) (rz [(1, _), (2, _), (7, _), (13, .b (decide (r'1 ≠ (0 : Int))))] [(2, _)] Y (if2 H Y (fun h2 H => ?_) (fun h2 H => ?_)))))
 ·refine sg [0,1,2,3] Y (rm Y (ra Y (ra Y (ra Y (rz [(4, .i (0 : Int)), (5, .b false), (6, .i r'1)] [] Y (AW2_ret ?_))))))
  obtain rfl := se H
  exact ⟨⟨rt, rt, rt, trivial⟩, trivial⟩
 refine as2 [(1, _), (2, _)] [(2, _)] Y (AW2_skip (AW2_seq (sg [0,1,2] Y (rm Y (bindK H fun r'2 h3 H => rp Y (p_callp Y Y Y Tryd.func36 Y Y (g_kinds_Columns_ac h3) ⟨Y, trivial⟩) ?_)))))
 refine ra Y (rz [(1, _), (2, _), (8, .i r'2)] [(2, _)] Y (sg [0,1] Y (rm Y (rp Y (p_ine Y Y Y) (rz [(1, _), (2, _), (8, _), (18, .b (decide (r'2 ≠ (0 : Int))))] [(2, _)] Y (if2 H Y (fun h4 H => ?_) (fun h4 H => ?_)))))))
 ·refine sg [0,1,2,3] Y (rm Y (ra Y (ra Y (ra Y (rz [(4, .i (0 : Int)), (5, .b false), (6, .i r'2)] [] Y (AW2_ret ?_))))))
  obtain rfl := se H
  exact ⟨⟨rt, rt, rt, trivial⟩, trivial⟩
 refine as2 [(1, _), (2, _)] [(2, _)] Y (AW2_skip (sg [0,1,2,3,4,5,6,7,8] Y (rp Y (u_lda Y Y U27 Y in_27 Y np (Sub.refl _) (GExpr.len e0)) (rm Y (bindK H fun r'3 h5 H => rp Y (p_callp Y Y Y Tryd.func53 Y Y (g_kinds_of_ac h5) ⟨Y, Y, trivial⟩) ?_)))))
 refine rm Y (rp Y (p_ext Y Y Y Y) (rp Y (p_ext Y Y Y Y) (rq Y (MakeD.opD (u_alloc 9 Y in_88 one_88 zc_88) Y Y Y Y) (rq Y (u_sw Y Y Y Y Y in_88 (Gkinds_sort.len r'3.1) (Gkinds_sort.len Gkinds_sort.zero) Y) (ra Y (rz [(6, .i r'3.2), (9, .q 9 (0))] [(9, .pure (Gkinds_sort.cs r'3.1))] Y ?_))))))
 refine AW2_seq (sg [0,1] Y (rm Y (rp Y (p_ine Y Y Y) (rz [(6, _), (9, _), (27, .b (decide (r'3.2 ≠ (0 : Int))))] [(9, _)] Y (if2 H Y (fun h6 H => ?_) (fun h6 H => ?_))))))
 ·refine sg [0,1,2,3] Y (rm Y (ra Y (ra Y (ra Y (rz [(4, .i (0 : Int)), (5, .b false), (6, _)] [] Y (AW2_ret ?_))))))
  obtain rfl := se H
  exact ⟨⟨rt, rt, rt, trivial⟩, trivial⟩
 refine as2 [(9, _)] [(9, _)] Y (AW2_skip (AW2_seq (AW2_ghoQ (AW2_draw 5 [5,6] (fun k => ([.q 9 (0 + 0), .i r'3.1.kind_, .q 9 (0 + 1), .b r'3.1.null_, .i r'3.1.kind_] : List TV).getD k TV.any) (fun k => g_kinds_Of_r10.getD k []) [(4, some 4), (32, some 3)] [] (fun k => g_kinds_Of_r10c.getD k []) mixed (by kernel_rfl) Y Y (a_op (g_x Y (x_p Y (u_fa Y Y U88 Y in_3 nz Y Y (nl (Gkinds_sort.len r'3.1))) Y)) (a_op (g_x Y (x_p Y (u_ld Y Y U3 Y Y (Gkinds_sort.sub0 r'3.1)) Y)) (a_op (g_x Y (x_p Y (u_fa Y Y U88 Y in_4 nz Y Y (nl (Gkinds_sort.len r'3.1))) Y)) (a_op (g_x Y (x_p Y (u_ld Y Y U4 Y Y (Gkinds_sort.sub1 r'3.1)) Y)) (a_op (g_x Y (x_p Y (p_asg Y Y) Y)) (a_nil)))))) (t_op Y Y (PureD.opD (p_asg Y Y)) (t_op Y Y (PureD.opD (p_asg Y Y)) ?_))))))
 refine t_gho (Gho_st (L := [(4, .i r'3.1.kind_), (5, .b r'3.1.null_), (6, .i (0 : Int))]) (H := []) (N := 33) Y ⟨TLes.same _, TLes.same _, TLes.same _, trivial⟩ trivial) (AW2_ret ?_)
 obtain rfl := se H
 exact ⟨⟨rt, rt, rt, trivial⟩, trivial⟩
noncomputable def g_table_Condition (e0 : GExpr) (cols1 : List GColumn) : Option (Int) :=
  (g_table_none e0).bind fun r'1 => (if r'1 = true then (g_kinds_Columns cols1).bind fun r'2 => some r'2 else (g_kinds_Of e0 cols1).bind fun r'3 => (if ((r'3.2.2 = (0 : Int)) ∧ (r'3.1 ≠ (1 : Int))) ∧ (r'3.1 ≠ (0 : Int)) then some (2 : Int) else some r'3.2.2))
set_option maxHeartbeats 4000000 in
set_option maxRecDepth 100000 in
theorem g_table_Condition_ac {e0 : GExpr} {cols1 : List GColumn} {r : Int} (H : g_table_Condition e0 cols1 = some r) : ACp Tryd.prog 21 [(.agg (GExpr.cs e0)), (GColumn.ls cols1)] (AV.int r) := by
 refine ACp_of (AC2_of_body (vs := [.i r]) Tryd.func21 Y Y (lb Y) Y ?_) (fun _ => .same _)
 unfold g_table_Condition at H
 refine as2 [(0, .g (GExpr.cs e0)), (1, .p (GColumn.ls cols1))] [] Y (sg [0,1] Y (rq Y (MakeD.opD (n_box 2 Y Y) Y Y Y Y) (ra Y (rz [(1, _), (2, .q 2 (0))] [(2, .pure (GExpr.cs e0))] Y (AW2_seq (sg [0,1] Y ?_))))))
 refine rp Y (u_lda Y Y U27 Y in_27 Y np (Sub.refl _) (GExpr.len e0)) (bindK H fun r'1 h1 H => rp Y (p_callp Y Y Y Tryd.func22 Y Y (g_table_none_ac h1) ⟨Y, trivial⟩) (rz [(1, _), (2, _), (9, .b r'1)] [(2, _)] Y (AW2_cond Y (fun h2 => ?_) (fun h2 => ?_))))
 ·replace H := ite_then h2 H
  refine sg [0,1,2] Y (rm Y (bindK H fun r'2 h3 H => rp Y (p_callp Y Y Y Tryd.func36 Y Y (g_kinds_Columns_ac h3) ⟨Y, trivial⟩) (ra Y (rz [(4, .i r'2)] [] Y (AW2_ret ?_)))))
  obtain rfl := se H
  exact ⟨⟨rt, trivial⟩, trivial⟩
 replace H := ite_else (ne_true h2) H
 refine as2 [(1, .p (GColumn.ls cols1)), (2, .q 2 (0))] [(2, .pure (GExpr.cs e0))] Y (AW2_skip (sg [0,1,2,3,4,5,6,7,8,9] Y (rp Y (u_lda Y Y U27 Y in_27 Y np (Sub.refl _) (GExpr.len e0)) (rm Y (bindK H fun r'3 h4 H => rp Y (p_callp Y Y Y Tryd.func37 Y Y (g_kinds_Of_ac h4) ⟨Y, Y, trivial⟩) ?_)))))
 refine rm Y (rp Y (p_ext Y Y Y Y) (rp Y (p_ext Y Y Y Y) (rp Y (p_ext Y Y Y Y) (ra Y (ra Y (ra Y ?_))))))
 refine rz [(5, .i r'3.1), (7, .i r'3.2.2)] [] Y (AW2_seq (AW2_seq (AW2_mid (⟨[(7, .i r'3.2.2), (28, .b (decide (((r'3.2.2 = (0 : Int)) ∧ (r'3.1 ≠ (1 : Int))) ∧ (r'3.1 ≠ (0 : Int)))))], [], 30⟩ : TS) ?_ ?_)))
 ·refine AW2_reg [0,1,2,3,4,5,6,7,8,9] Y (rm Y (rp Y (p_ieq Y Y Y) (rm Y ?_)))
  refine (Classical.em (r'3.2.2 = (0 : Int))).elim (fun h5 => ?_) (fun h5 => ?_)
  ·refine rn Y (dT h5) Y (p_move Y Y) (rn Y (dT h5) Y (p_ine Y Y Y) (rp Y (p_pkt Y Y (dT h5) (tb ((and_l (p := r'3.2.2 = (0 : Int)) (q := r'3.1 ≠ (1 : Int)) h5)))) (rm Y ?_)))
   refine (Classical.em (r'3.1 ≠ (1 : Int))).elim (fun h6 => ?_) (fun h6 => ?_)
   ·exact rn Y (dT (p := (r'3.2.2 = (0 : Int)) ∧ (r'3.1 ≠ (1 : Int))) ⟨h5, h6⟩) Y (p_move Y Y) (rn Y (dT (p := (r'3.2.2 = (0 : Int)) ∧ (r'3.1 ≠ (1 : Int))) ⟨h5, h6⟩) Y (p_ine Y Y Y) (rp Y (p_pkt Y Y (dT (p := (r'3.2.2 = (0 : Int)) ∧ (r'3.1 ≠ (1 : Int))) ⟨h5, h6⟩) (tb ((and_l (p := (r'3.2.2 = (0 : Int)) ∧ (r'3.1 ≠ (1 : Int))) (q := r'3.1 ≠ (0 : Int)) ⟨h5, h6⟩)))) (rend Y Y)))
   exact rO Y (dF (p := (r'3.2.2 = (0 : Int)) ∧ (r'3.1 ≠ (1 : Int))) (fun h => h6 h.2)) Y (rO Y (dF (p := (r'3.2.2 = (0 : Int)) ∧ (r'3.1 ≠ (1 : Int))) (fun h => h6 h.2)) Y (rp Y (p_pkf Y Y (dF (p := (r'3.2.2 = (0 : Int)) ∧ (r'3.1 ≠ (1 : Int))) (fun h => h6 h.2)) (tb (dF (p := ((r'3.2.2 = (0 : Int)) ∧ (r'3.1 ≠ (1 : Int))) ∧ (r'3.1 ≠ (0 : Int))) (fun x => (fun h => h6 h.2) x.1)).symm)) (rend Y Y)))
  refine rO Y (dF h5) Y (rO Y (dF h5) Y (rp Y (p_pkf Y Y (dF h5) (tb (dF (p := (r'3.2.2 = (0 : Int)) ∧ (r'3.1 ≠ (1 : Int))) (fun x => h5 x.1)).symm)) (rm Y (rO Y (dF (p := (r'3.2.2 = (0 : Int)) ∧ (r'3.1 ≠ (1 : Int))) (fun h => h5 h.1)) Y (rO Y (dF (p := (r'3.2.2 = (0 : Int)) ∧ (r'3.1 ≠ (1 : Int))) (fun h => h5 h.1)) Y (rp Y (p_pkf Y Y (dF (p := (r'3.2.2 = (0 : Int)) ∧ (r'3.1 ≠ (1 : Int))) (fun h => h5 h.1)) (tb (dF (p := ((r'3.2.2 = (0 : Int)) ∧ (r'3.1 ≠ (1 : Int))) ∧ (r'3.1 ≠ (0 : Int))) (fun x => (fun h => h5 h.1) x.1)).symm)) ?_))))))
  exact rend Y Y
 refine if2 H Y (fun h7 H => ?_) (fun h7 H => ?_)
 ·refine sg [0] Y (ra Y (rz [(4, .i (2 : Int))] [] Y (AW2_ret ?_)))
  obtain rfl := se H
  exact ⟨⟨rt, trivial⟩, trivial⟩
 refine as2 [(7, _)] [] Y (AW2_skip (sg [0,1] Y (rm Y (ra Y (rz [(4, .i r'3.2.2)] [] Y (AW2_ret ?_))))))
 obtain rfl := se H
 exact ⟨⟨rt, trivial⟩, trivial⟩
noncomputable def g_table_Holds (e0 : GExpr) (cols1 : List GColumn) (r2 : List GValue) : Option (Bool × Int) :=
  (g_table_Condition e0 cols1).bind fun r'1 => (if r'1 ≠ (0 : Int) then some (false, r'1) else (g_kinds_Row r2 cols1).bind fun r'2 => (if r'2 ≠ (0 : Int) then some (false, r'2) else (g_table_none e0).bind fun r'3 => (if r'3 = true then some (true, (0 : Int)) else (g_eval_Eval e0 cols1 r2).bind fun r'4 => some ((decide (r'4.1.Int_ = (1 : Int))), r'4.2))))
set_option maxHeartbeats 4000000 in
set_option maxRecDepth 100000 in
theorem g_table_Holds_ac {e0 : GExpr} {cols1 : List GColumn} {r2 : List GValue} {r : Bool × Int} (H : g_table_Holds e0 cols1 r2 = some r) : ACp Tryd.prog 11 [(.agg (GExpr.cs e0)), (GColumn.ls cols1), (GValue.ls r2)] (.tup [(AV.bool r.1), (AV.int r.2)]) := by
 refine ACp_of (AC2_of_body (vs := [.b r.1, .i r.2]) Tryd.func11 Y Y (lb Y) Y ?_) (fun _ => .same _)
 unfold g_table_Holds at H
 refine as2 [(0, .g (GExpr.cs e0)), (1, .p (GColumn.ls cols1)), (2, .p (GValue.ls r2))] [] Y (sg [0,1,2] Y (rq Y (MakeD.opD (n_box 3 Y Y) Y Y Y Y) (ra Y (ra Y (rz [(1, _), (2, _), (3, .q 3 (0))] [(3, .pure (GExpr.cs e0))] Y (AW2_seq ?_))))))
 refine sg [0,1,2,3] Y (rp Y (u_lda Y Y U27 Y in_27 Y np (Sub.refl _) (GExpr.len e0)) (rm Y (bindK H fun r'1 h1 H => rp Y (p_callp Y Y Y Tryd.func21 Y Y (g_table_Condition_ac h1) ⟨Y, Y, trivial⟩) (ra Y (rz [(1, _), (2, _), (3, _), (8, .i r'1)] [(3, _)] Y ?_)))))
 refine sg [0,1] Y (rm Y (rp Y (p_ine Y Y Y) (rz [(1, _), (2, _), (3, _), (8, _), (16, .b (decide (r'1 ≠ (0 : Int))))] [(3, _)] Y (if2 H Y (fun h2 H => ?_) (fun h2 H => ?_)))))
 ·refine sg [0,1,2] Y (rm Y (ra Y (ra Y (rz [(6, .b false), (7, .i r'1)] [] Y (AW2_ret ?_)))))
  obtain rfl := se H
  exact ⟨⟨rt, rt, trivial⟩, trivial⟩
 refine as2 [(1, _), (2, _), (3, _)] [(3, _)] Y (AW2_skip (AW2_seq (sg [0,1,2,3] Y (rm Y (rm Y (bindK H fun r'2 h3 H => ?_))))))
 refine rp Y (p_callp Y Y Y Tryd.func14 Y Y (g_kinds_Row_ac h3) ⟨Y, Y, trivial⟩) (ra Y (rz [(1, _), (2, _), (3, _), (9, .i r'2)] [(3, _)] Y (sg [0,1] Y (rm Y (rp Y (p_ine Y Y Y) (rz [(1, _), (2, _), (3, _), (9, _), (22, .b (decide (r'2 ≠ (0 : Int))))] [(3, _)] Y ?_))))))
 refine if2 H Y (fun h4 H => ?_) (fun h4 H => ?_)
 ·refine sg [0,1,2] Y (rm Y (ra Y (ra Y (rz [(6, .b false), (7, .i r'2)] [] Y (AW2_ret ?_)))))
  obtain rfl := se H
  exact ⟨⟨rt, rt, trivial⟩, trivial⟩
 refine as2 [(1, _), (2, _), (3, _)] [(3, _)] Y (AW2_skip (AW2_seq (sg [0,1] Y (rp Y (u_lda Y Y U27 Y in_27 Y np (Sub.refl _) (GExpr.len e0)) (bindK H fun r'3 h5 H => rp Y (p_callp Y Y Y Tryd.func22 Y Y (g_table_none_ac h5) ⟨Y, trivial⟩) ?_)))))
 refine rz [(1, _), (2, _), (3, _), (25, .b r'3)] [(3, _)] Y (AW2_cond Y (fun h6 => ?_) (fun h6 => ?_))
 ·replace H := ite_then h6 H
  refine sg [0,1] Y (ra Y (ra Y (rz [(6, .b true), (7, .i (0 : Int))] [] Y (AW2_ret ?_))))
  obtain rfl := se H
  exact ⟨⟨rt, rt, trivial⟩, trivial⟩
 replace H := ite_else (ne_true h6) H
 refine as2 [(1, .p (GColumn.ls cols1)), (2, .p (GValue.ls r2)), (3, .q 3 (0))] [(3, .pure (GExpr.cs e0))] Y (AW2_skip (sg [0,1,2,3,4,5,6,7,8,9] Y (rp Y (u_lda Y Y U27 Y in_27 Y np (Sub.refl _) (GExpr.len e0)) (rm Y (rm Y (bindK H fun r'4 h7 H => ?_))))))
 refine rp Y (p_callp Y Y Y Tryd.func6 Y Y (g_eval_Eval_ac h7) ⟨Y, Y, Y, trivial⟩) (rm Y (rp Y (p_ext Y Y Y Y) (rp Y (p_ext Y Y Y Y) (rq Y (MakeD.opD (u_alloc 10 Y in_24 one_24 zc_24) Y Y Y Y) (rq Y (u_sw Y Y Y Y Y in_24 (GValue.len r'4.1) (GValue.len GValue.zero) Y) (ra Y ?_))))))
 refine rz [(10, .q 10 (0)), (11, .i r'4.2)] [(10, .pure (GValue.cs r'4.1))] Y (sg [0,1,2,3,4,5] Y (rf Y U24 Y in_3 Y Y (GValue.len r'4.1) (rp Y (u_ld Y Y U3 Y Y (GValue.sub1 r'4.1)) (rp Y (p_ieq Y Y Y) (rm Y (ra Y ?_))))))
 refine ra Y (rz [(6, .b (decide (r'4.1.Int_ = (1 : Int)))), (7, .i r'4.2)] [] Y (AW2_ret ?_))
 obtain rfl := se H
 exact ⟨⟨rt, rt, trivial⟩, trivial⟩
noncomputable def g_ref_noExpr (e0 : GExpr) : Option (Bool) :=
  some (decide ((((e0.Op = (0 : Int)) ∧ (e0.Value = GValue.zero)) ∧ (e0.Name = [])) ∧ ((e0.Args.length : Int) = (0 : Int))))
set_option maxHeartbeats 4000000 in
set_option maxRecDepth 100000 in
theorem g_ref_noExpr_ac {e0 : GExpr} {r : Bool} (H : g_ref_noExpr e0 = some r) : ACp Tryd.prog 24 [(.agg (GExpr.cs e0))] (AV.bool r) := by
 refine ACp_of (AC2_of_body (vs := [.b r]) Tryd.func24 Y Y (lb Y) Y ?_) (fun _ => .same _)
 unfold g_ref_noExpr at H
 refine as2 [(0, .g (GExpr.cs e0))] [] Y (sg [0,1] Y (rq Y (MakeD.opD (n_box 1 Y Y) Y Y Y Y) (ra Y (rz [(1, .q 1 (0))] [(1, .pure (GExpr.cs e0))] Y (AW2_seq (AW2_mid (⟨[(2, .b (decide ((((e0.Op = (0 : Int)) ∧ (e0.Value = GValue.zero)) ∧ (e0.Name = [])) ∧ ((e0.Args.length : Int) = (0 : Int)))))], [], 23⟩ : TS) ?_ ?_))))))
 ·refine AW2_reg [0,1,2,3,4,5,6,7,8,9,10,11,12,13,14,15,16,17,18,19,20] Y (rf Y U27 Y in_3 Y Y (GExpr.len e0) (rp Y (u_ld Y Y U3 Y Y (GExpr.sub0 e0)) (rp Y (p_ieq Y Y Y) (rm Y ?_))))
  refine (Classical.em (e0.Op = (0 : Int))).elim (fun h1 => ?_) (fun h1 => ?_)
  ·refine rn Y (dT h1) Y (u_fa Y Y U27 Y in_24 nz Y Y (nl (GExpr.len e0))) (rn Y (dT h1) Y (u_lda Y Y U24 Y in_24 Y np (GExpr.sub1 e0) (GValue.len e0.Value)) (rn Y (dT h1) Y (u_bld Y in_24 one_24 zc_24 pl_24 Y Y) (rn Y (dT h1) Y (p_eqa (a := e0.Value) (b := GValue.zero) Y eq_24 Y (by kernel_rfl) Y Y) (rp Y (p_pkt Y Y (dT h1) (tb ((and_l (p := e0.Op = (0 : Int)) (q := e0.Value = GValue.zero) h1)))) (rm Y ?_)))))
   refine (Classical.em (e0.Value = GValue.zero)).elim (fun h2 => ?_) (fun h2 => ?_)
   ·refine rn Y (dT (p := (e0.Op = (0 : Int)) ∧ (e0.Value = GValue.zero)) ⟨h1, h2⟩) Y (u_fa Y Y U27 Y in_9 nz Y Y (nl (GExpr.len e0))) (rn Y (dT (p := (e0.Op = (0 : Int)) ∧ (e0.Value = GValue.zero)) ⟨h1, h2⟩) Y (u_ld Y Y U9 Y Y (GExpr.sub2 e0)) (rn Y (dT (p := (e0.Op = (0 : Int)) ∧ (e0.Value = GValue.zero)) ⟨h1, h2⟩) Y (p_seq Y Y Y) (rp Y (p_pkt Y Y (dT (p := (e0.Op = (0 : Int)) ∧ (e0.Value = GValue.zero)) ⟨h1, h2⟩) (tb ((and_l (p := (e0.Op = (0 : Int)) ∧ (e0.Value = GValue.zero)) (q := e0.Name = []) ⟨h1, h2⟩)))) (rm Y ?_))))
    refine (Classical.em (e0.Name = [])).elim (fun h3 => ?_) (fun h3 => ?_)
    ·exact rn Y (dT (p := ((e0.Op = (0 : Int)) ∧ (e0.Value = GValue.zero)) ∧ (e0.Name = [])) ⟨⟨h1, h2⟩, h3⟩) Y (u_fa Y Y U27 Y in_25 nz Y Y (nl (GExpr.len e0))) (rn Y (dT (p := ((e0.Op = (0 : Int)) ∧ (e0.Value = GValue.zero)) ∧ (e0.Name = [])) ⟨⟨h1, h2⟩, h3⟩) Y (u_ld Y Y U25 Y Y (GExpr.sub3 e0)) (rn Y (dT (p := ((e0.Op = (0 : Int)) ∧ (e0.Value = GValue.zero)) ∧ (e0.Name = [])) ⟨⟨h1, h2⟩, h3⟩) Y (p_lenl Y U25 Y Y) (rn Y (dT (p := ((e0.Op = (0 : Int)) ∧ (e0.Value = GValue.zero)) ∧ (e0.Name = [])) ⟨⟨h1, h2⟩, h3⟩) Y (p_ieq Y Y Y) (rp Y (p_pkt Y Y (dT (p := ((e0.Op = (0 : Int)) ∧ (e0.Value = GValue.zero)) ∧ (e0.Name = [])) ⟨⟨h1, h2⟩, h3⟩) (tb ((and_l (p := ((e0.Op = (0 : Int)) ∧ (e0.Value = GValue.zero)) ∧ (e0.Name = [])) (q := (e0.Args.length : Int) = (0 : Int)) ⟨⟨h1, h2⟩, h3⟩)))) (ra Y (rend Y Y))))))
    exact rO Y (dF (p := ((e0.Op = (0 : Int)) ∧ (e0.Value = GValue.zero)) ∧ (e0.Name = [])) (fun h => h3 h.2)) Y (rO Y (dF (p := ((e0.Op = (0 : Int)) ∧ (e0.Value = GValue.zero)) ∧ (e0.Name = [])) (fun h => h3 h.2)) Y (rO Y (dF (p := ((e0.Op = (0 : Int)) ∧ (e0.Value = GValue.zero)) ∧ (e0.Name = [])) (fun h => h3 h.2)) Y (rO Y (dF (p := ((e0.Op = (0 : Int)) ∧ (e0.Value = GValue.zero)) ∧ (e0.Name = [])) (fun h => h3 h.2)) Y (rp Y (p_pkf Y Y (dF (p := ((e0.Op = (0 : Int)) ∧ (e0.Value = GValue.zero)) ∧ (e0.Name = [])) (fun h => h3 h.2)) (tb (dF (p := (((e0.Op = (0 : Int)) ∧ (e0.Value = GValue.zero)) ∧ (e0.Name = [])) ∧ ((e0.Args.length : Int) = (0 : Int))) (fun x => (fun h => h3 h.2) x.1)).symm)) (ra Y (rend Y Y))))))
   refine rO Y (dF (p := (e0.Op = (0 : Int)) ∧ (e0.Value = GValue.zero)) (fun h => h2 h.2)) Y (rO Y (dF (p := (e0.Op = (0 : Int)) ∧ (e0.Value = GValue.zero)) (fun h => h2 h.2)) Y (rO Y (dF (p := (e0.Op = (0 : Int)) ∧ (e0.Value = GValue.zero)) (fun h => h2 h.2)) Y (rp Y (p_pkf Y Y (dF (p := (e0.Op = (0 : Int)) ∧ (e0.Value = GValue.zero)) (fun h => h2 h.2)) (tb (dF (p := ((e0.Op = (0 : Int)) ∧ (e0.Value = GValue.zero)) ∧ (e0.Name = [])) (fun x => (fun h => h2 h.2) x.1)).symm)) (rm Y (rO Y (dF (p := ((e0.Op = (0 : Int)) ∧ (e0.Value = GValue.zero)) ∧ (e0.Name = [])) (fun h => (fun h => h2 h.2) h.1)) Y (rO Y (dF (p := ((e0.Op = (0 : Int)) ∧ (e0.Value = GValue.zero)) ∧ (e0.Name = [])) (fun h => (fun h => h2 h.2) h.1)) Y ?_))))))
   exact rO Y (dF (p := ((e0.Op = (0 : Int)) ∧ (e0.Value = GValue.zero)) ∧ (e0.Name = [])) (fun h => (fun h => h2 h.2) h.1)) Y (rO Y (dF (p := ((e0.Op = (0 : Int)) ∧ (e0.Value = GValue.zero)) ∧ (e0.Name = [])) (fun h => (fun h => h2 h.2) h.1)) Y (rp Y (p_pkf Y Y (dF (p := ((e0.Op = (0 : Int)) ∧ (e0.Value = GValue.zero)) ∧ (e0.Name = [])) (fun h => (fun h => h2 h.2) h.1)) (tb (dF (p := (((e0.Op = (0 : Int)) ∧ (e0.Value = GValue.zero)) ∧ (e0.Name = [])) ∧ ((e0.Args.length : Int) = (0 : Int))) (fun x => (fun h => (fun h => h2 h.2) h.1) x.1)).symm)) (ra Y (rend Y Y))))
  refine rO Y (dF h1) Y (rO Y (dF h1) Y (rO Y (dF h1) Y (rO Y (dF h1) Y (rp Y (p_pkf Y Y (dF h1) (tb (dF (p := (e0.Op = (0 : Int)) ∧ (e0.Value = GValue.zero)) (fun x => h1 x.1)).symm)) (rm Y (rO Y (dF (p := (e0.Op = (0 : Int)) ∧ (e0.Value = GValue.zero)) (fun h => h1 h.1)) Y ?_))))))
  refine rO Y (dF (p := (e0.Op = (0 : Int)) ∧ (e0.Value = GValue.zero)) (fun h => h1 h.1)) Y (rO Y (dF (p := (e0.Op = (0 : Int)) ∧ (e0.Value = GValue.zero)) (fun h => h1 h.1)) Y (rp Y (p_pkf Y Y (dF (p := (e0.Op = (0 : Int)) ∧ (e0.Value = GValue.zero)) (fun h => h1 h.1)) (tb (dF (p := ((e0.Op = (0 : Int)) ∧ (e0.Value = GValue.zero)) ∧ (e0.Name = [])) (fun x => (fun h => h1 h.1) x.1)).symm)) (rm Y (rO Y (dF (p := ((e0.Op = (0 : Int)) ∧ (e0.Value = GValue.zero)) ∧ (e0.Name = [])) (fun h => (fun h => h1 h.1) h.1)) Y (rO Y (dF (p := ((e0.Op = (0 : Int)) ∧ (e0.Value = GValue.zero)) ∧ (e0.Name = [])) (fun h => (fun h => h1 h.1) h.1)) Y (rO Y (dF (p := ((e0.Op = (0 : Int)) ∧ (e0.Value = GValue.zero)) ∧ (e0.Name = [])) (fun h => (fun h => h1 h.1) h.1)) Y ?_))))))
  exact rO Y (dF (p := ((e0.Op = (0 : Int)) ∧ (e0.Value = GValue.zero)) ∧ (e0.Name = [])) (fun h => (fun h => h1 h.1) h.1)) Y (rp Y (p_pkf Y Y (dF (p := ((e0.Op = (0 : Int)) ∧ (e0.Value = GValue.zero)) ∧ (e0.Name = [])) (fun h => (fun h => h1 h.1) h.1)) (tb (dF (p := (((e0.Op = (0 : Int)) ∧ (e0.Value = GValue.zero)) ∧ (e0.Name = [])) ∧ ((e0.Args.length : Int) = (0 : Int))) (fun x => (fun h => (fun h => h1 h.1) h.1) x.1)).symm)) (ra Y (rend Y Y)))
 refine AW2_ret ?_
 obtain rfl := se H
 exact ⟨⟨rt, trivial⟩, trivial⟩
def g_ref_kindOf_r2 : List (List (Nat × Option Nat)) := [[(2, none)], [(21, some 0)], [(22, some 1)], [(2, none)], [(24, some 3)], [(25, some 4)], [(26, some 5)], [(23, some 2)]]
def g_ref_kindOf_r2c : List (List Nat) := [[], [0], [0, 1], [], [3], [3, 4], [3, 4, 5], [0, 1, 2], [0, 1, 2, 3, 4, 5, 6, 7], [0, 1, 2, 3, 4, 5, 6, 7, 8]]
def g_ref_kindOf_r7 : List (List (Nat × Option Nat)) := [[(1, none)], [(7, none)], [(37, some 0), (38, some 1)], [(39, some 2)], [(40, some 3)], [(1, none)], [(7, none)], [(42, some 5), (43, some 6)], [(44, some 7)], [(45, some 8)], [(41, some 4)]]
def g_ref_kindOf_r7c : List (List Nat) := [[], [], [0, 1], [0, 1, 2], [0, 1, 2, 3], [], [], [5, 6], [5, 6, 7], [5, 6, 7, 8], [0, 1, 2, 3, 4], [0, 1, 2, 3, 4, 5, 6, 7, 8, 9, 10], [0, 1, 2, 3, 4, 5, 6, 7, 8, 9, 10, 11]]
noncomputable def g_ref_kindOf_l0 (e0 : GExpr) (cols1 : List GColumn) (R' : GExpr → (List GColumn) → Option (Int × Bool × Int)) : Bool × Bool × Int × Bool × Int → Option ((Bool × Bool × Int × Bool × Int) ⊕ ((Int × Bool × Int) ⊕ (Bool × Bool × Int × Bool)))
  | (some8_0, all9_0, asks10_0, clash12_0, t56_0) => (if t56_0 < (e0.Args.length : Int) then (show Option ((Int × Bool × Int) ⊕ (Bool × Bool × Int × Bool)) from if 0 ≤ t56_0 ∧ t56_0 < (e0.Args.length : Int) then (R' (lrd e0.Args t56_0.toNat) cols1).bind fun r'4 => (if r'4.2.2 ≠ (0 : Int) then some (.inl ((0 : Int), false, r'4.2.2)) else (if (e0.Op = (17 : Int)) ∨ (r'4.1 = (0 : Int)) then some (.inr ((decide ((some8_0 = true) ∨ (r'4.2.1 = true))), (decide ((all9_0 = true) ∧ (r'4.2.1 = true))), asks10_0, clash12_0)) else ((if asks10_0 = (0 : Int) then some r'4.1 else some asks10_0)).bind fun j'5 => some (.inr ((decide ((some8_0 = true) ∨ (r'4.2.1 = true))), (decide ((all9_0 = true) ∧ (r'4.2.1 = true))), j'5, (decide ((clash12_0 = true) ∨ (r'4.1 ≠ j'5))))))) else none).bind fun o'7 => match o'7 with | .inl y'6 => some (.inr (.inl y'6)) | .inr j'3 => some (.inl (j'3.1, j'3.2.1, j'3.2.2.1, j'3.2.2.2, w64 (t56_0 + (1 : Int)))) else some (.inr (.inr (some8_0, all9_0, asks10_0, clash12_0))))
noncomputable def g_ref_kindOf_b (R' : GExpr → (List GColumn) → Option (Int × Bool × Int)) (e0 : GExpr) (cols1 : List GColumn) : Option (Int × Bool × Int) :=
  (if e0.Op = (1 : Int) then some (e0.Value.Kind, (decide (e0.Value.Kind = (0 : Int))), (0 : Int)) else (if e0.Op = (2 : Int) then (g_ref_columnAt cols1 e0.Name).bind fun r'1 => (if r'1 < (0 : Int) then some ((0 : Int), false, (5 : Int)) else if 0 ≤ r'1 ∧ r'1 < (cols1.length : Int) then if 0 ≤ r'1 ∧ r'1 < (cols1.length : Int) then some ((lrd cols1 r'1.toNat).Kind, (lrd cols1 r'1.toNat).Null, (0 : Int)) else none else none) else (g_ref_asksFor e0.Op).bind fun r'2 => (loopO (g_ref_kindOf_l0 e0 cols1 R') (false, true, r'2.1, false, (0 : Int))).bind fun o'11 => match o'11 with | .inl y'12 => some y'12 | .inr (y'13) => (if y'13.2.2.2 = true then some ((0 : Int), false, (2 : Int)) else (if e0.Op = (17 : Int) then some ((1 : Int), false, (0 : Int)) else (if e0.Op = (20 : Int) then some (y'13.2.2.1, y'13.2.1, (0 : Int)) else some (r'2.2, y'13.1, (0 : Int)))))))
noncomputable def g_ref_kindOf : Nat → GExpr → (List GColumn) → Option (Int × Bool × Int)
  | 0, _, _ => none
  | fu + 1, e0, cols1 => g_ref_kindOf_b (g_ref_kindOf fu) e0 cols1
set_option maxHeartbeats 4000000 in
set_option maxRecDepth 100000 in
theorem g_ref_kindOf_ac0 {R' : GExpr → (List GColumn) → Option (Int × Bool × Int)} (hR : ∀ {e0 : GExpr} {cols1 : List GColumn} {r : Int × Bool × Int}, R' e0 cols1 = some r → ACp Tryd.prog 54 [(.agg (GExpr.cs e0)), (GColumn.ls cols1)] (.tup [(AV.int r.1), (AV.bool r.2.1), (AV.int r.2.2)])) {e0 : GExpr} {cols1 : List GColumn} {r : Int × Bool × Int} (H : g_ref_kindOf_b R' e0 cols1 = some r) : ACp Tryd.prog 54 [(.agg (GExpr.cs e0)), (GColumn.ls cols1)] (.tup [(AV.int r.1), (AV.bool r.2.1), (AV.int r.2.2)]) := by
 refine ACp_of (AC2_of_body (vs := [.i r.1, .b r.2.1, .i r.2.2]) Tryd.func54 Y Y (lb Y) Y ?_) (fun _ => .same _)
 unfold g_ref_kindOf_b at H
 refine as2 [(0, .g (GExpr.cs e0)), (1, .p (GColumn.ls cols1))] [] Y (sg [0,1,2,3] Y (rq Y (MakeD.opD (n_box 2 Y Y) Y Y Y Y) (ra Y (ra Y (ra Y (rz [(1, _), (2, .q 2 (0))] [(2, .pure (GExpr.cs e0))] Y ?_))))))
 refine AW2_seq (sg [0,1,2] Y (rf Y U27 Y in_3 Y Y (GExpr.len e0) (rp Y (u_ld Y Y U3 Y Y (GExpr.sub0 e0)) (rp Y (p_ieq Y Y Y) (rz [(1, _), (2, _), (20, .b (decide (e0.Op = (1 : Int))))] [(2, _)] Y (if2 H Y (fun h1 H => ?_) (fun h1 H => ?_)))))))
 ·refine AW2_seq (AW2_ghoQ (AW2_draw 8 [8,9] (fun k => ([.q 2 (0 + 1), .q 2 (0 + 1 + 0), .i e0.Value.Kind, .q 2 (0 + 1), .q 2 (0 + 1 + 0), .i e0.Value.Kind, .b (decide (e0.Value.Kind = (0 : Int))), .i e0.Value.Kind] : List TV).getD k TV.any) (fun k => g_ref_kindOf_r2.getD k []) [(4, some 7), (27, some 6)] [] (fun k => g_ref_kindOf_r2c.getD k []) mixed (by kernel_rfl) Y Y (a_op (g_x Y (x_p Y (u_fa Y Y U27 Y in_24 nz Y Y (nl (GExpr.len e0))) Y)) (a_op (g_x Y (x_p Y (u_fa Y Y U24 Y in_3 nz Y Y (nl (GExpr.len e0))) Y)) (a_op (g_x Y (x_p Y (u_ld Y Y U3 Y Y ((GExpr.sub1 e0).trans (GValue.sub0 e0.Value))) Y)) (a_op (g_x Y (x_p Y (u_fa Y Y U27 Y in_24 nz Y Y (nl (GExpr.len e0))) Y)) (a_op (g_x Y (x_p Y (u_fa Y Y U24 Y in_3 nz Y Y (nl (GExpr.len e0))) Y)) (a_op (g_x Y (x_p Y (u_ld Y Y U3 Y Y ((GExpr.sub1 e0).trans (GValue.sub0 e0.Value))) Y)) (a_op (g_x Y (x_p Y (p_ieq Y Y Y) Y)) (a_op (g_x Y (x_p Y (p_asg Y Y) Y)) (a_nil))))))))) (t_op Y Y (PureD.opD (p_asg Y Y)) (t_op Y Y (PureD.opD (p_asg Y Y)) (t_gho (Gho_st (L := [(4, .i e0.Value.Kind), (5, .b (decide (e0.Value.Kind = (0 : Int)))), (6, .i (0 : Int))]) (H := []) (N := 109) Y ⟨TLes.same _, TLes.same _, TLes.same _, trivial⟩ trivial) (AW2_ret ?_))))))
  obtain rfl := se H
  exact ⟨⟨rt, rt, rt, trivial⟩, trivial⟩
 refine as2 [(1, _), (2, _)] [(2, _)] Y (AW2_skip (AW2_seq (sg [0,1,2] Y (rf Y U27 Y in_3 Y Y (GExpr.len e0) (rp Y (u_ld Y Y U3 Y Y (GExpr.sub0 e0)) (rp Y (p_ieq Y Y Y) ?_))))))
 refine rz [(1, _), (2, _), (30, .b (decide (e0.Op = (2 : Int))))] [(2, _)] Y (if2 H Y (fun h2 H => ?_) (fun h2 H => ?_))
 ·refine sg [0,1,2,3,4] Y (rm Y (rf Y U27 Y in_9 Y Y (GExpr.len e0) (rp Y (u_ld Y Y U9 Y Y (GExpr.sub2 e0)) (bindK H fun r'1 h3 H => rp Y (p_callp Y Y Y Tryd.func33 Y Y (g_ref_columnAt_ac h3) ⟨Y, Y, trivial⟩) (ra Y ?_)))))
  refine rz [(1, _), (7, .i r'1)] [] Y (AW2_seq (sg [0,1] Y (rm Y (rp Y (p_bin Y Y Y Y) (rz [(1, _), (7, _), (36, .b (decide (r'1 < (0 : Int))))] [] Y (if2 H Y (fun h4 H => ?_) (fun h4 H => ?_)))))))
  ·refine sg [0,1,2] Y (ra Y (ra Y (ra Y (rz [(4, .i (0 : Int)), (5, .b false), (6, .i (5 : Int))] [] Y (AW2_ret ?_)))))
   obtain rfl := se H
   exact ⟨⟨rt, rt, rt, trivial⟩, trivial⟩
  refine as2 [(1, _), (7, _)] [] Y (AW2_skip (AW2_seq (chkK H fun h5 H => chkK H fun h6 H => AW2_ghoQ (AW2_draw 11 [11,12] (fun k => ([.p (GColumn.ls cols1), .i r'1, .p (.rptr (cols1.flatMap GColumn.cs) (r'1.toNat * 3)), .p (.rptr (cols1.flatMap GColumn.cs) (r'1.toNat * 3 + 1)), .i ((lrd cols1 r'1.toNat).Kind), .p (GColumn.ls cols1), .i r'1, .p (.rptr (cols1.flatMap GColumn.cs) (r'1.toNat * 3)), .p (.rptr (cols1.flatMap GColumn.cs) (r'1.toNat * 3 + 2)), .b ((lrd cols1 r'1.toNat).Null), .i ((lrd cols1 r'1.toNat).Kind)] : List TV).getD k TV.any) (fun k => g_ref_kindOf_r7.getD k []) [(4, some 10), (46, some 9)] [] (fun k => g_ref_kindOf_r7c.getD k []) mixed (by kernel_rfl) Y Y (a_op (g_x Y (x_p Y (p_move Y Y) Y)) (a_op (g_x Y (x_p Y (p_move Y Y) Y)) (a_op (g_x Y (x_p Y (u_ixl Y Y U28 in_59 Y Y (ixe h5) (ixn h5) (fne (fun x => (GColumn.len x)) (by decide) (ixn h5))) Y)) (a_op (g_x Y (x_p Y (u_far Y Y U59 Y in_3 nz Y) Y)) (a_op (g_x Y (x_p Y (u_ld Y Y U3 Y Y ((Sub.fm default (fun x => (GColumn.len x)) (ixn h5)).trans (GColumn.sub1 (lrd cols1 r'1.toNat)))) Y)) (a_op (g_x Y (x_p Y (p_move Y Y) Y)) (a_op (g_x Y (x_p Y (p_move Y Y) Y)) (a_op (g_x Y (x_p Y (u_ixl Y Y U28 in_59 Y Y (ixe h6) (ixn h6) (fne (fun x => (GColumn.len x)) (by decide) (ixn h6))) Y)) (a_op (g_x Y (x_p Y (u_far Y Y U59 Y in_4 nz Y) Y)) (a_op (g_x Y (x_p Y (u_ld Y Y U4 Y Y ((Sub.fm default (fun x => (GColumn.len x)) (ixn h6)).trans (GColumn.sub2 (lrd cols1 r'1.toNat)))) Y)) (a_op (g_x Y (x_p Y (p_asg Y Y) Y)) (a_nil)))))))))))) ?_))))
  refine t_op Y Y (PureD.opD (p_asg Y Y)) (t_op Y Y (PureD.opD (p_asg Y Y)) (t_gho (Gho_st (L := [(4, .i ((lrd cols1 r'1.toNat).Kind)), (5, .b ((lrd cols1 r'1.toNat).Null)), (6, .i (0 : Int))]) (H := []) (N := 109) Y ⟨TLes.same _, TLes.same _, TLes.same _, trivial⟩ trivial) (AW2_ret ?_)))
  obtain rfl := se H
  exact ⟨⟨rt, rt, rt, trivial⟩, trivial⟩
 refine as2 [(1, _), (2, _)] [(2, _)] Y (AW2_skip (sg [0,1] Y (ra Y (ra Y (rz [(1, _), (2, _), (8, .b false), (9, .b true)] [(2, _)] Y (sg [0,1,2,3,4,5,6,7] Y ?_))))))
 refine rf Y U27 Y in_3 Y Y (GExpr.len e0) (rp Y (u_ld Y Y U3 Y Y (GExpr.sub0 e0)) (bindK H fun r'2 h7 H => rp Y (p_callp Y Y Y Tryd.func44 Y Y (g_ref_asksFor_ac h7) ⟨Y, trivial⟩) (rm Y (rp Y (p_ext Y Y Y Y) (rp Y (p_ext Y Y Y Y) ?_)))))
 refine ra Y (ra Y (rz [(1, _), (2, _), (8, _), (9, _), (10, .i r'2.1), (11, .i r'2.2)] [(2, _)] Y (sg [0] Y (ra Y (rz [(1, _), (2, _), (8, _), (9, _), (10, _), (11, _), (12, .b false)] [(2, _)] Y (AW2_seq ?_))))))
 refine sg [0,1,2,3] Y (rf Y U27 Y in_25 Y Y (GExpr.len e0) (rp Y (u_ld Y Y U25 Y Y (GExpr.sub3 e0)) (rp Y (p_lenl Y U25 Y Y) (rm Y (rz [(1, _), (2, _), (8, _), (9, _), (10, _), (11, _), (12, _), (54, .p (GExpr.ls e0.Args)), (55, .i (e0.Args.length : Int)), (56, .i (0 : Int))] [(2, _)] Y (AW2_block ?_))))))
 refine as2 [(1, _), (2, _), (8, _), (9, _), (10, _), (11, _), (12, _), (54, _), (55, _), (56, _)] [(2, _)] Y (bindK H fun o'11 h21 H => AW2_loopO (fun a'8 : Bool × Bool × Int × Bool × Int => (⟨[(1, .p (GColumn.ls cols1)), (2, .q 2 (0)), (8, .b a'8.1), (9, .b a'8.2.1), (10, .i a'8.2.2.1), (11, .i r'2.2), (12, .b a'8.2.2.2.1), (54, .p (GExpr.ls e0.Args)), (55, .i (e0.Args.length : Int)), (56, .i a'8.2.2.2.2)], [(2, .pure (GExpr.cs e0))], 109⟩ : TS)) (fun (o : (Int × Bool × Int) ⊕ (Bool × Bool × Int × Bool)) e s' => match o with | .inl y'9 => e = Go.Exit.ret ∧ ResAll Tryd.prog s' [ResultVar.tmp 4, ResultVar.tmp 5, ResultVar.tmp 6] [.i y'9.1, .b y'9.2.1, .i y'9.2.2] ∧ HFits s' [] | .inr (y'10) => e = Go.Exit.exit 0 ∧ s' = (⟨[(2, .q 2 (0)), (8, .b y'10.1), (9, .b y'10.2.1), (10, .i y'10.2.2.1), (11, .i r'2.2), (12, .b y'10.2.2.2)], [(2, .pure (GExpr.cs e0))], 109⟩ : TS)) h21 Y (fun a x hx => ?_) (fun e s' hs => ?_))
 ·clear H
  obtain ⟨some8_0, all9_0, asks10_0, clash12_0, t56_0⟩ := a
  have H := hx
  clear hx
  unfold g_ref_kindOf_l0 at H
  refine sg [0] Y (rp Y (p_bin Y Y Y Y) (rz [(1, .p (GColumn.ls cols1)), (2, .q 2 (0)), (8, .b some8_0), (9, .b all9_0), (10, .i asks10_0), (11, .i r'2.2), (12, .b clash12_0), (54, .p (GExpr.ls e0.Args)), (55, .i (e0.Args.length : Int)), (56, .i t56_0), (57, .b (decide (t56_0 < (e0.Args.length : Int))))] [(2, .pure (GExpr.cs e0))] Y (AW2_seq (if2 H Y (fun h8 H => ?_) (fun h8 H => ?_)))))
  ·refine as2 [(1, _), (2, _), (8, _), (9, _), (10, _), (11, _), (12, _), (54, _), (55, _), (56, _)] [(2, _)] Y (AW2_skip (AW2_seq (bindK H fun o'7 h9 H => AW2_join (fun j'3 : Bool × Bool × Int × Bool => (⟨[(1, .p (GColumn.ls cols1)), (2, .q 2 (0)), (8, .b j'3.1), (9, .b j'3.2.1), (10, .i j'3.2.2.1), (11, .i r'2.2), (12, .b j'3.2.2.2), (54, .p (GExpr.ls e0.Args)), (55, .i (e0.Args.length : Int)), (56, .i t56_0)], [(2, .pure (GExpr.cs e0))], 109⟩ : TS)) (fun r e s' => e = Go.Exit.ret ∧ ResAll Tryd.prog s' [ResultVar.tmp 4, ResultVar.tmp 5, ResultVar.tmp 6] [.i r.1, .b r.2.1, .i r.2.2] ∧ HFits s' []) (x := o'7) ?_ (fun j'3 hy => ?_) (fun y'6 e s' hy hs => ?_))))
   ·clear H
    have H := h9
    clear h9
    refine AW2_block (sg [0,1,2,3] Y (chkK H fun h10 H => rp Y (u_ixl Y Y U25 in_27 Y Y (ixe h10) (ixn h10) (fne (fun x => (GExpr.len x)) (by decide) (ixn h10))) (rp Y (u_lda Y Y U27 Y in_27 Y np (Sub.fm default (fun x => (GExpr.len x)) (ixn h10)) (GExpr.len (lrd e0.Args t56_0.toNat))) (rq Y (MakeD.opD (u_alloc 14 Y in_27 one_27 zc_27) Y Y Y Y) (rq Y (u_sw Y Y Y Y Y in_27 (GExpr.len (lrd e0.Args t56_0.toNat)) (GExpr.len GExpr.zero) Y) ?_)))))
    refine rz [(1, .p (GColumn.ls cols1)), (2, .q 2 (0)), (8, .b some8_0), (9, .b all9_0), (10, .i asks10_0), (11, .i r'2.2), (12, .b clash12_0), (14, .q 14 (0)), (54, .p (GExpr.ls e0.Args)), (55, .i (e0.Args.length : Int)), (56, .i t56_0)] [(2, .pure (GExpr.cs e0)), (14, .pure (GExpr.cs (lrd e0.Args t56_0.toNat)))] Y (sg [0,1,2,3,4,5,6,7,8,9] Y (rp Y (u_lda Y Y U27 Y in_27 Y np (Sub.refl _) (GExpr.len (lrd e0.Args t56_0.toNat))) (rm Y (bindK H fun r'4 h11 H => rp Y (p_callp Y Y Y Tryd.func54 Y Y (hR h11) ⟨Y, Y, trivial⟩) (rm Y ?_)))))
    refine rp Y (p_ext Y Y Y Y) (rp Y (p_ext Y Y Y Y) (rp Y (p_ext Y Y Y Y) (ra Y (ra Y (ra Y (rz [(1, _), (2, _), (8, _), (9, _), (10, _), (11, _), (12, _), (15, .i r'4.1), (16, .b r'4.2.1), (17, .i r'4.2.2), (54, _), (55, _), (56, _)] [(2, _)] Y ?_))))))
    refine AW2_seq (sg [0,1] Y (rm Y (rp Y (p_ine Y Y Y) (rz [(1, _), (2, _), (8, _), (9, _), (10, _), (11, _), (12, _), (15, _), (16, _), (17, _), (54, _), (55, _), (56, _), (68, .b (decide (r'4.2.2 ≠ (0 : Int))))] [(2, _)] Y (if2 H Y (fun h12 H => ?_) (fun h12 H => ?_))))))
    ·refine sg [0,1,2,3] Y (rm Y (ra Y (ra Y (ra Y (rz [(4, .i (0 : Int)), (5, .b false), (6, .i r'4.2.2)] [] Y (AW2_ret ?_))))))
     obtain rfl := se H
     exact ⟨Y, ⟨rt, rt, rt, trivial⟩, trivial⟩
    refine as2 [(1, _), (2, _), (8, _), (9, _), (10, _), (11, _), (12, _), (15, _), (16, _), (54, _), (55, _), (56, _)] [(2, _)] Y (AW2_skip (AW2_seq (AW2_mid (⟨[(1, .p (GColumn.ls cols1)), (2, .q 2 (0)), (8, .b (decide ((some8_0 = true) ∨ (r'4.2.1 = true)))), (9, .b (decide ((all9_0 = true) ∧ (r'4.2.1 = true)))), (10, .i asks10_0), (11, .i r'2.2), (12, .b clash12_0), (15, .i r'4.1), (54, .p (GExpr.ls e0.Args)), (55, .i (e0.Args.length : Int)), (56, .i t56_0)], [(2, .pure (GExpr.cs e0))], 109⟩ : TS) ?_ ?_)))
    ·refine AW2_reg [0,1,2,3,4,5,6,7,8,9] Y (rm Y (rm Y ?_))
     refine (Classical.em (some8_0 = true)).elim (fun h13 => ?_) (fun h13 => ?_)
     ·refine rO Y h13 Y (rp Y (p_pkt Y Y h13 (tb (dT (p := (some8_0 = true) ∨ (r'4.2.1 = true)) (Or.inl h13)).symm)) (rm Y (rm Y ?_)))
      refine (Classical.em (all9_0 = true)).elim (fun h14 => ?_) (fun h14 => ?_)
      ·exact rn Y h14 Y (p_move Y Y) (rp Y (p_pkt Y Y h14 (tb ((bdec _).trans (and_l (p := all9_0 = true) (q := r'4.2.1 = true) h14)))) (ra Y (ra Y (rend Y Y))))
      exact rO Y (bfalse h14) Y (rp Y (p_pkf Y Y (bfalse h14) (tb (dF (p := (all9_0 = true) ∧ (r'4.2.1 = true)) (fun x => h14 x.1)).symm)) (ra Y (ra Y (rend Y Y))))
     refine rn Y (bfalse h13) Y (p_move Y Y) (rp Y (p_pkf Y Y (bfalse h13) (tb ((bdec _).trans (or_l (p := some8_0 = true) (q := r'4.2.1 = true) h13)))) (rm Y (rm Y ?_)))
     refine (Classical.em (all9_0 = true)).elim (fun h15 => ?_) (fun h15 => ?_)
     ·exact rn Y h15 Y (p_move Y Y) (rp Y (p_pkt Y Y h15 (tb ((bdec _).trans (and_l (p := all9_0 = true) (q := r'4.2.1 = true) h15)))) (ra Y (ra Y (rend Y Y))))
     exact rO Y (bfalse h15) Y (rp Y (p_pkf Y Y (bfalse h15) (tb (dF (p := (all9_0 = true) ∧ (r'4.2.1 = true)) (fun x => h15 x.1)).symm)) (ra Y (ra Y (rend Y Y))))
    refine AW2_seq (AW2_seq (AW2_mid (⟨[(1, .p (GColumn.ls cols1)), (2, .q 2 (0)), (8, .b (decide ((some8_0 = true) ∨ (r'4.2.1 = true)))), (9, .b (decide ((all9_0 = true) ∧ (r'4.2.1 = true)))), (10, .i asks10_0), (11, .i r'2.2), (12, .b clash12_0), (15, .i r'4.1), (54, .p (GExpr.ls e0.Args)), (55, .i (e0.Args.length : Int)), (56, .i t56_0), (84, .b (decide ((e0.Op = (17 : Int)) ∨ (r'4.1 = (0 : Int)))))], [(2, .pure (GExpr.cs e0))], 109⟩ : TS) ?_ ?_))
    ·refine AW2_reg [0,1,2,3,4,5,6] Y (rf Y U27 Y in_3 Y Y (GExpr.len e0) (rp Y (u_ld Y Y U3 Y Y (GExpr.sub0 e0)) (rp Y (p_ieq Y Y Y) (rm Y ?_))))
     refine (Classical.em (e0.Op = (17 : Int))).elim (fun h16 => ?_) (fun h16 => ?_)
     ·iterate 2 (refine rO Y (dT h16) Y ?_)
      exact rp Y (p_pkt Y Y (dT h16) (tb (dT (p := (e0.Op = (17 : Int)) ∨ (r'4.1 = (0 : Int))) (Or.inl h16)).symm)) (rend Y Y)
     exact rn Y (dF h16) Y (p_move Y Y) (rn Y (dF h16) Y (p_ieq Y Y Y) (rp Y (p_pkf Y Y (dF h16) (tb ((or_l (p := e0.Op = (17 : Int)) (q := r'4.1 = (0 : Int)) h16)))) (rend Y Y)))
    refine if2 H Y (fun h17 H => ?_) (fun h17 H => ?_)
    ·refine as2 [(1, _), (2, _), (8, _), (9, _), (10, _), (11, _), (12, _), (54, _), (55, _), (56, _)] [(2, _)] Y (AW2_exit (thenQ2_exit (blockQ2_exit ?_)))
     obtain rfl := se H
     exact ⟨Y, Y⟩
    refine as2 [(1, _), (2, _), (8, _), (9, _), (10, _), (11, _), (12, _), (15, _), (54, _), (55, _), (56, _)] [(2, _)] Y (AW2_skip (AW2_seq (bindK H fun j'5 h18 H => AW2_mid (⟨[(1, .p (GColumn.ls cols1)), (2, .q 2 (0)), (8, .b (decide ((some8_0 = true) ∨ (r'4.2.1 = true)))), (9, .b (decide ((all9_0 = true) ∧ (r'4.2.1 = true)))), (10, .i j'5), (11, .i r'2.2), (12, .b clash12_0), (15, .i r'4.1), (54, .p (GExpr.ls e0.Args)), (55, .i (e0.Args.length : Int)), (56, .i t56_0)], [(2, .pure (GExpr.cs e0))], 109⟩ : TS) ?_ ?_)))
    ·clear H
     have H := h18
     clear h18
     refine sg [0,1] Y (rm Y (rp Y (p_ieq Y Y Y) (rz [(1, .p (GColumn.ls cols1)), (2, .q 2 (0)), (8, .b (decide ((some8_0 = true) ∨ (r'4.2.1 = true)))), (9, .b (decide ((all9_0 = true) ∧ (r'4.2.1 = true)))), (10, .i asks10_0), (11, .i r'2.2), (12, .b clash12_0), (15, .i r'4.1), (54, .p (GExpr.ls e0.Args)), (55, .i (e0.Args.length : Int)), (56, .i t56_0), (86, .b (decide (asks10_0 = (0 : Int))))] [(2, .pure (GExpr.cs e0))] Y (if2 H Y (fun h19 H => ?_) (fun h19 H => ?_)))))
     ·refine AW2_reg [0,1] Y (rm Y (ra Y (rz [(1, _), (2, _), (8, _), (9, _), (10, .i r'4.1), (11, _), (12, _), (15, _), (54, _), (55, _), (56, _)] [(2, _)] Y ?_)))
      obtain rfl := se H
      exact rfl
     refine as2 [(1, _), (2, _), (8, _), (9, _), (10, _), (11, _), (12, _), (15, _), (54, _), (55, _), (56, _)] [(2, _)] Y (AW2_skip ?_)
     obtain rfl := se H
     exact rfl
    refine AW2_mid (⟨[(1, .p (GColumn.ls cols1)), (2, .q 2 (0)), (8, .b (decide ((some8_0 = true) ∨ (r'4.2.1 = true)))), (9, .b (decide ((all9_0 = true) ∧ (r'4.2.1 = true)))), (10, .i j'5), (11, .i r'2.2), (12, .b (decide ((clash12_0 = true) ∨ (r'4.1 ≠ j'5)))), (54, .p (GExpr.ls e0.Args)), (55, .i (e0.Args.length : Int)), (56, .i t56_0)], [(2, .pure (GExpr.cs e0))], 109⟩ : TS) ?_ ?_
    ·refine AW2_reg [0,1,2,3,4,5,6] Y (rm Y (rm Y ?_))
     refine (Classical.em (clash12_0 = true)).elim (fun h20 => ?_) (fun h20 => ?_)
     ·iterate 3 (refine rO Y h20 Y ?_)
      exact rp Y (p_pkt Y Y h20 (tb (dT (p := (clash12_0 = true) ∨ (r'4.1 ≠ j'5)) (Or.inl h20)).symm)) (ra Y (rend Y Y))
     exact rn Y (bfalse h20) Y (p_move Y Y) (rn Y (bfalse h20) Y (p_move Y Y) (rn Y (bfalse h20) Y (p_ine Y Y Y) (rp Y (p_pkf Y Y (bfalse h20) (tb ((or_l (p := clash12_0 = true) (q := r'4.1 ≠ j'5) h20)))) (ra Y (rend Y Y)))))
    obtain rfl := se H
    exact ⟨Y, Y⟩
   ·subst hy
    refine AW2_reg [0,1] Y (rp Y (p_bin Y Y Y Y) (rm Y (rz [(1, .p (GColumn.ls cols1)), (2, .q 2 (0)), (8, .b j'3.1), (9, .b j'3.2.1), (10, .i j'3.2.2.1), (11, .i r'2.2), (12, .b j'3.2.2.2), (54, .p (GExpr.ls e0.Args)), (55, .i (e0.Args.length : Int)), (56, .i (w64 (t56_0 + (1 : Int))))] [(2, .pure (GExpr.cs e0))] Y ?_)))
    obtain rfl := se H
    exact ⟨Y, Y⟩
   subst hy
   obtain ⟨rfl, hs⟩ := hs
   obtain rfl := se H
   exact ⟨Y, hs.1, hs.2⟩
  refine as2 [(2, _), (8, _), (9, _), (10, _), (11, _), (12, _)] [(2, _)] Y (AW2_exit (thenQ2_exit ?_))
  obtain rfl := se H
  exact ⟨Y, Y⟩
 rcases o'11 with y'12 | y'13
 ·obtain ⟨rfl, hs⟩ := hs
  refine ⟨by simp, ?_⟩
  obtain rfl := se H
  exact ⟨hs.1, hs.2⟩
 obtain ⟨rfl, rfl⟩ := hs
 refine ⟨by simp, ?_⟩
 refine blockQ2_exit (AW2_seq (AW2_block (sg [0,1] Y (rm Y (ra Y (rz [(2, .q 2 (0)), (8, .b y'13.1), (9, .b y'13.2.1), (10, .i y'13.2.2.1), (11, .i r'2.2), (95, .b y'13.2.2.2)] [(2, .pure (GExpr.cs e0))] Y ?_))))))
 refine AW2_cond Y (fun h22 => ?_) (fun h22 => ?_)
 ·replace H := ite_then h22 H
  refine sg [0,1,2] Y (ra Y (ra Y (ra Y (rz [(4, .i (0 : Int)), (5, .b false), (6, .i (2 : Int))] [] Y (AW2_ret ?_)))))
  obtain rfl := se H
  exact ⟨⟨rt, rt, rt, trivial⟩, trivial⟩
 replace H := ite_else (ne_true h22) H
 refine sg [0,1,2,3] Y (rf Y U27 Y in_3 Y Y (GExpr.len e0) (rp Y (u_ld Y Y U3 Y Y (GExpr.sub0 e0)) (rp Y (p_ieq Y Y Y) (ra Y (rz [(2, .q 2 (0)), (8, .b y'13.1), (9, .b y'13.2.1), (10, .i y'13.2.2.1), (11, .i r'2.2), (97, .b (decide (e0.Op = (17 : Int))))] [(2, .pure (GExpr.cs e0))] Y (if2 H Y (fun h23 H => ?_) (fun h23 H => ?_)))))))
 ·refine sg [0,1,2] Y (ra Y (ra Y (ra Y (rz [(4, .i (1 : Int)), (5, .b false), (6, .i (0 : Int))] [] Y (AW2_ret ?_)))))
  obtain rfl := se H
  exact ⟨⟨rt, rt, rt, trivial⟩, trivial⟩
 refine sg [0,1,2,3] Y (rf Y U27 Y in_3 Y Y (GExpr.len e0) (rp Y (u_ld Y Y U3 Y Y (GExpr.sub0 e0)) (rp Y (p_ieq Y Y Y) (ra Y (rz [(8, _), (9, _), (10, _), (11, _), (101, .b (decide (e0.Op = (20 : Int))))] [] Y (if2 H Y (fun h24 H => ?_) (fun h24 H => ?_)))))))
 ·refine sg [0,1,2,3,4] Y (rm Y (rm Y (ra Y (ra Y (ra Y (rz [(4, .i y'13.2.2.1), (5, .b y'13.2.1), (6, .i (0 : Int))] [] Y ?_))))))
  refine AW2_ret ?_
  obtain rfl := se H
  exact ⟨⟨rt, rt, rt, trivial⟩, trivial⟩
 refine as2 [(8, _), (11, _)] [] Y (AW2_skip (sg [0,1,2,3,4] Y (rm Y (rm Y (ra Y (ra Y ?_))))))
 refine ra Y (rz [(4, .i r'2.2), (5, .b y'13.1), (6, .i (0 : Int))] [] Y (AW2_ret ?_))
 obtain rfl := se H
 exact ⟨⟨rt, rt, rt, trivial⟩, trivial⟩
theorem g_ref_kindOf_acN : ∀ (fu : Nat) {e0 : GExpr} {cols1 : List GColumn} {r : Int × Bool × Int}, g_ref_kindOf fu e0 cols1 = some r → ACp Tryd.prog 54 [(.agg (GExpr.cs e0)), (GColumn.ls cols1)] (.tup [(AV.int r.1), (AV.bool r.2.1), (AV.int r.2.2)])
 | 0, _, _, _, H => (by cases H)
 | fu + 1, _, _, _, H => g_ref_kindOf_ac0 (g_ref_kindOf_acN fu) H
theorem g_ref_kindOf_ac {e0 : GExpr} {cols1 : List GColumn} {r : Int × Bool × Int} (H : g_ref_kindOf 100000 e0 cols1 = some r) : ACp Tryd.prog 54 [(.agg (GExpr.cs e0)), (GColumn.ls cols1)] (.tup [(AV.int r.1), (AV.bool r.2.1), (AV.int r.2.2)]) := g_ref_kindOf_acN 100000 H
noncomputable def g_ref_KindOf (e0 : GExpr) (cols1 : List GColumn) : Option (Int × Bool × Int) :=
  (g_ref_ExprFault e0).bind fun r'1 => (if r'1 ≠ (0 : Int) then some ((0 : Int), false, r'1) else (g_ref_ColumnsFault cols1).bind fun r'2 => (if r'2 ≠ (0 : Int) then some ((0 : Int), false, r'2) else (g_ref_kindOf 100000 e0 cols1).bind fun r'3 => some (r'3.1, r'3.2.1, r'3.2.2)))
set_option maxHeartbeats 4000000 in
set_option maxRecDepth 100000 in
theorem g_ref_KindOf_ac {e0 : GExpr} {cols1 : List GColumn} {r : Int × Bool × Int} (H : g_ref_KindOf e0 cols1 = some r) : ACp Tryd.prog 38 [(.agg (GExpr.cs e0)), (GColumn.ls cols1)] (.tup [(AV.int r.1), (AV.bool r.2.1), (AV.int r.2.2)]) := by
 refine ACp_of (AC2_of_body (vs := [.i r.1, .b r.2.1, .i r.2.2]) Tryd.func38 Y Y (lb Y) Y ?_) (fun _ => .same _)
 unfold g_ref_KindOf at H
 refine as2 [(0, .g (GExpr.cs e0)), (1, .p (GColumn.ls cols1))] [] Y (sg [0,1,2,3] Y (rq Y (MakeD.opD (n_box 2 Y Y) Y Y Y Y) (ra Y (ra Y (ra Y (rz [(1, _), (2, .q 2 (0))] [(2, .pure (GExpr.cs e0))] Y ?_))))))
 refine AW2_seq (sg [0,1,2] Y (rp Y (u_lda Y Y U27 Y in_27 Y np (Sub.refl _) (GExpr.len e0)) (bindK H fun r'1 h1 H => rp Y (p_callp Y Y Y Tryd.func16 Y Y (g_ref_ExprFault_ac h1) ⟨Y, trivial⟩) (ra Y (rz [(1, _), (2, _), (7, .i r'1)] [(2, _)] Y ?_)))))
 refine sg [0,1] Y (rm Y (rp Y (p_ine Y Y Y) (rz [(1, _), (2, _), (7, _), (12, .b (decide (r'1 ≠ (0 : Int))))] [(2, _)] Y (if2 H Y (fun h2 H => ?_) (fun h2 H => ?_)))))
 ·refine sg [0,1,2,3] Y (rm Y (ra Y (ra Y (ra Y (rz [(4, .i (0 : Int)), (5, .b false), (6, .i r'1)] [] Y (AW2_ret ?_))))))
  obtain rfl := se H
  exact ⟨⟨rt, rt, rt, trivial⟩, trivial⟩
 refine as2 [(1, _), (2, _)] [(2, _)] Y (AW2_skip (AW2_seq (sg [0,1,2] Y (rm Y (bindK H fun r'2 h3 H => rp Y (p_callp Y Y Y Tryd.func31 Y Y (g_ref_ColumnsFault_ac h3) ⟨Y, trivial⟩) ?_)))))
 refine ra Y (rz [(1, _), (2, _), (8, .i r'2)] [(2, _)] Y (sg [0,1] Y (rm Y (rp Y (p_ine Y Y Y) (rz [(1, _), (2, _), (8, _), (17, .b (decide (r'2 ≠ (0 : Int))))] [(2, _)] Y (if2 H Y (fun h4 H => ?_) (fun h4 H => ?_)))))))
 ·refine sg [0,1,2,3] Y (rm Y (ra Y (ra Y (ra Y (rz [(4, .i (0 : Int)), (5, .b false), (6, .i r'2)] [] Y (AW2_ret ?_))))))
  obtain rfl := se H
  exact ⟨⟨rt, rt, rt, trivial⟩, trivial⟩
 refine as2 [(1, _), (2, _)] [(2, _)] Y (AW2_skip (sg [0,1,2,3,4,5,6,7,8] Y (rp Y (u_lda Y Y U27 Y in_27 Y np (Sub.refl _) (GExpr.len e0)) (rm Y (bindK H fun r'3 h5 H => rp Y (p_callp Y Y Y Tryd.func54 Y Y (g_ref_kindOf_ac h5) ⟨Y, Y, trivial⟩) ?_)))))
 refine rp Y (p_ext Y Y Y Y) (rp Y (p_ext Y Y Y Y) (rp Y (p_ext Y Y Y Y) (ra Y (ra Y (ra Y (rz [(4, .i r'3.1), (5, .b r'3.2.1), (6, .i r'3.2.2)] [] Y ?_))))))
 refine AW2_ret ?_
 obtain rfl := se H
 exact ⟨⟨rt, rt, rt, trivial⟩, trivial⟩
noncomputable def g_ref_ConditionFault (e0 : GExpr) (cols1 : List GColumn) : Option (Int) :=
  (g_ref_noExpr e0).bind fun r'1 => (if r'1 = true then (g_ref_ColumnsFault cols1).bind fun r'2 => some r'2 else (g_ref_KindOf e0 cols1).bind fun r'3 => (if r'3.2.2 ≠ (0 : Int) then some r'3.2.2 else (if r'3.1 > (1 : Int) then some (2 : Int) else some (0 : Int))))
set_option maxHeartbeats 4000000 in
set_option maxRecDepth 100000 in
theorem g_ref_ConditionFault_ac {e0 : GExpr} {cols1 : List GColumn} {r : Int} (H : g_ref_ConditionFault e0 cols1 = some r) : ACp Tryd.prog 23 [(.agg (GExpr.cs e0)), (GColumn.ls cols1)] (AV.int r) := by
 refine ACp_of (AC2_of_body (vs := [.i r]) Tryd.func23 Y Y (lb Y) Y ?_) (fun _ => .same _)
 unfold g_ref_ConditionFault at H
 refine as2 [(0, .g (GExpr.cs e0)), (1, .p (GColumn.ls cols1))] [] Y (sg [0,1] Y (rq Y (MakeD.opD (n_box 2 Y Y) Y Y Y Y) (ra Y (rz [(1, _), (2, .q 2 (0))] [(2, .pure (GExpr.cs e0))] Y (AW2_seq (sg [0,1] Y ?_))))))
 refine rp Y (u_lda Y Y U27 Y in_27 Y np (Sub.refl _) (GExpr.len e0)) (bindK H fun r'1 h1 H => rp Y (p_callp Y Y Y Tryd.func24 Y Y (g_ref_noExpr_ac h1) ⟨Y, trivial⟩) (rz [(1, _), (2, _), (9, .b r'1)] [(2, _)] Y (AW2_cond Y (fun h2 => ?_) (fun h2 => ?_))))
 ·replace H := ite_then h2 H
  refine sg [0,1,2] Y (rm Y (bindK H fun r'2 h3 H => rp Y (p_callp Y Y Y Tryd.func31 Y Y (g_ref_ColumnsFault_ac h3) ⟨Y, trivial⟩) (ra Y (rz [(4, .i r'2)] [] Y (AW2_ret ?_)))))
  obtain rfl := se H
  exact ⟨⟨rt, trivial⟩, trivial⟩
 replace H := ite_else (ne_true h2) H
 refine as2 [(1, .p (GColumn.ls cols1)), (2, .q 2 (0))] [(2, .pure (GExpr.cs e0))] Y (AW2_skip (sg [0,1,2,3,4,5,6,7,8,9] Y (rp Y (u_lda Y Y U27 Y in_27 Y np (Sub.refl _) (GExpr.len e0)) (rm Y (bindK H fun r'3 h4 H => rp Y (p_callp Y Y Y Tryd.func38 Y Y (g_ref_KindOf_ac h4) ⟨Y, Y, trivial⟩) ?_)))))
 refine rm Y (rp Y (p_ext Y Y Y Y) (rp Y (p_ext Y Y Y Y) (rp Y (p_ext Y Y Y Y) (ra Y (ra Y (ra Y ?_))))))
 refine rz [(5, .i r'3.1), (7, .i r'3.2.2)] [] Y (AW2_seq (sg [0,1] Y (rm Y (rp Y (p_ine Y Y Y) (rz [(5, _), (7, _), (20, .b (decide (r'3.2.2 ≠ (0 : Int))))] [] Y (if2 H Y (fun h5 H => ?_) (fun h5 H => ?_)))))))
 ·refine sg [0,1] Y (rm Y (ra Y (rz [(4, .i r'3.2.2)] [] Y (AW2_ret ?_))))
  obtain rfl := se H
  exact ⟨⟨rt, trivial⟩, trivial⟩
 refine as2 [(5, _)] [] Y (AW2_skip (AW2_seq (sg [0,1] Y (rm Y (rp Y (p_bin Y Y Y Y) (rz [(23, .b (decide (r'3.1 > (1 : Int))))] [] Y ?_))))))
 refine if2 H Y (fun h6 H => ?_) (fun h6 H => ?_)
 ·refine sg [0] Y (ra Y (rz [(4, .i (2 : Int))] [] Y (AW2_ret ?_)))
  obtain rfl := se H
  exact ⟨⟨rt, trivial⟩, trivial⟩
 refine as2 [] [] Y (AW2_skip (sg [0] Y (ra Y (rz [(4, .i (0 : Int))] [] Y (AW2_ret ?_)))))
 obtain rfl := se H
 exact ⟨⟨rt, trivial⟩, trivial⟩
def g_ref_True_r12 : List (List (Nat × Option Nat)) := [[(10, none)], []]
def g_ref_True_r12c : List (List Nat) := [[], [], [0, 1], [0, 1, 2], [0, 1, 2, 3]]
noncomputable def g_ref_True (e0 : GExpr) (cols1 : List GColumn) (r2 : List GValue) : Option (Bool × Int) :=
  (g_ref_ConditionFault e0 cols1).bind fun r'1 => (if r'1 ≠ (0 : Int) then some (false, r'1) else (g_ref_RowFault r2 cols1).bind fun r'2 => (if r'2 ≠ (0 : Int) then some (false, r'2) else (g_ref_noExpr e0).bind fun r'3 => (if r'3 = true then some (true, (0 : Int)) else (g_ref_valued 100000 e0 cols1 r2).bind fun r'4 => (if r'4.2 ≠ (0 : Int) then some (false, r'4.2) else (g_ref_boolOf (2 : Int)).bind fun r'5 => some ((decide (r'4.1 = r'5)), (0 : Int))))))
set_option maxHeartbeats 4000000 in
set_option maxRecDepth 100000 in
theorem g_ref_True_ac {e0 : GExpr} {cols1 : List GColumn} {r2 : List GValue} {r : Bool × Int} (H : g_ref_True e0 cols1 r2 = some r) : ACp Tryd.prog 12 [(.agg (GExpr.cs e0)), (GColumn.ls cols1), (GValue.ls r2)] (.tup [(AV.bool r.1), (AV.int r.2)]) := by
 refine ACp_of (AC2_of_body (vs := [.b r.1, .i r.2]) Tryd.func12 Y Y (lb Y) Y ?_) (fun _ => .same _)
 unfold g_ref_True at H
 refine as2 [(0, .g (GExpr.cs e0)), (1, .p (GColumn.ls cols1)), (2, .p (GValue.ls r2))] [] Y (sg [0,1,2] Y (rq Y (MakeD.opD (n_box 3 Y Y) Y Y Y Y) (ra Y (ra Y (rz [(1, _), (2, _), (3, .q 3 (0))] [(3, .pure (GExpr.cs e0))] Y (AW2_seq ?_))))))
 refine sg [0,1,2,3] Y (rp Y (u_lda Y Y U27 Y in_27 Y np (Sub.refl _) (GExpr.len e0)) (rm Y (bindK H fun r'1 h1 H => rp Y (p_callp Y Y Y Tryd.func23 Y Y (g_ref_ConditionFault_ac h1) ⟨Y, Y, trivial⟩) (ra Y (rz [(1, _), (2, _), (3, _), (8, .i r'1)] [(3, _)] Y ?_)))))
 refine sg [0,1] Y (rm Y (rp Y (p_ine Y Y Y) (rz [(1, _), (2, _), (3, _), (8, _), (16, .b (decide (r'1 ≠ (0 : Int))))] [(3, _)] Y (if2 H Y (fun h2 H => ?_) (fun h2 H => ?_)))))
 ·refine sg [0,1,2] Y (rm Y (ra Y (ra Y (rz [(6, .b false), (7, .i r'1)] [] Y (AW2_ret ?_)))))
  obtain rfl := se H
  exact ⟨⟨rt, rt, trivial⟩, trivial⟩
 refine as2 [(1, _), (2, _), (3, _)] [(3, _)] Y (AW2_skip (AW2_seq (sg [0,1,2,3] Y (rm Y (rm Y (bindK H fun r'2 h3 H => ?_))))))
 refine rp Y (p_callp Y Y Y Tryd.func17 Y Y (g_ref_RowFault_ac h3) ⟨Y, Y, trivial⟩) (ra Y (rz [(1, _), (2, _), (3, _), (9, .i r'2)] [(3, _)] Y (sg [0,1] Y (rm Y (rp Y (p_ine Y Y Y) (rz [(1, _), (2, _), (3, _), (9, _), (22, .b (decide (r'2 ≠ (0 : Int))))] [(3, _)] Y ?_))))))
 refine if2 H Y (fun h4 H => ?_) (fun h4 H => ?_)
 ·refine sg [0,1,2] Y (rm Y (ra Y (ra Y (rz [(6, .b false), (7, .i r'2)] [] Y (AW2_ret ?_)))))
  obtain rfl := se H
  exact ⟨⟨rt, rt, trivial⟩, trivial⟩
 refine as2 [(1, _), (2, _), (3, _)] [(3, _)] Y (AW2_skip (AW2_seq (sg [0,1] Y (rp Y (u_lda Y Y U27 Y in_27 Y np (Sub.refl _) (GExpr.len e0)) (bindK H fun r'3 h5 H => rp Y (p_callp Y Y Y Tryd.func24 Y Y (g_ref_noExpr_ac h5) ⟨Y, trivial⟩) ?_)))))
 refine rz [(1, _), (2, _), (3, _), (25, .b r'3)] [(3, _)] Y (AW2_cond Y (fun h6 => ?_) (fun h6 => ?_))
 ·replace H := ite_then h6 H
  refine sg [0,1] Y (ra Y (ra Y (rz [(6, .b true), (7, .i (0 : Int))] [] Y (AW2_ret ?_))))
  obtain rfl := se H
  exact ⟨⟨rt, rt, trivial⟩, trivial⟩
 replace H := ite_else (ne_true h6) H
 refine as2 [(1, .p (GColumn.ls cols1)), (2, .p (GValue.ls r2)), (3, .q 3 (0))] [(3, .pure (GExpr.cs e0))] Y (AW2_skip (sg [0,1,2,3,4,5,6,7,8,9] Y (rp Y (u_lda Y Y U27 Y in_27 Y np (Sub.refl _) (GExpr.len e0)) (rm Y (rm Y (bindK H fun r'4 h7 H => ?_))))))
 refine rp Y (p_callp Y Y Y Tryd.func18 Y Y (g_ref_valued_ac h7) ⟨Y, Y, Y, trivial⟩) (rm Y (rp Y (p_ext Y Y Y Y) (rp Y (p_ext Y Y Y Y) (rq Y (MakeD.opD (u_alloc 10 Y in_24 one_24 zc_24) Y Y Y Y) (rq Y (u_sw Y Y Y Y Y in_24 (GValue.len r'4.1) (GValue.len GValue.zero) Y) (ra Y ?_))))))
 refine rz [(10, .q 10 (0)), (11, .i r'4.2)] [(10, .pure (GValue.cs r'4.1))] Y (AW2_seq (sg [0,1] Y (rm Y (rp Y (p_ine Y Y Y) (rz [(10, _), (11, _), (34, .b (decide (r'4.2 ≠ (0 : Int))))] [(10, _)] Y (if2 H Y (fun h8 H => ?_) (fun h8 H => ?_)))))))
 ·refine sg [0,1,2] Y (rm Y (ra Y (ra Y (rz [(6, .b false), (7, .i r'4.2)] [] Y (AW2_ret ?_)))))
  obtain rfl := se H
  exact ⟨⟨rt, rt, trivial⟩, trivial⟩
 refine as2 [(10, _)] [(10, _)] Y (AW2_skip (AW2_seq (bindK H fun r'5 h9 H => AW2_ghoQ (AW2_draw 2 [2,3,4] (fun k => ([.g (GValue.cs r'4.1), .g (GValue.cs r'5)] : List TV).getD k TV.any) (fun k => g_ref_True_r12.getD k []) [(36, some 0), (37, some 1)] [] (fun k => g_ref_True_r12c.getD k []) mixed (by kernel_rfl) Y Y (a_op (g_x Y (x_p Y (u_lda Y Y U24 Y in_24 Y np (Sub.refl _) (GValue.len r'4.1)) Y)) (a_op (g_x Y (x_p Y (p_callp Y Y Y Tryd.func25 Y Y (g_ref_boolOf_ac h9) ⟨Y, trivial⟩) Y)) (a_nil))) (t_op Y Y (PureD.opD (p_eqa (a := r'4.1) (b := r'5) Y eq_24 Y (by kernel_rfl) Y Y)) ?_)))))
 refine t_op Y Y (PureD.opD (p_asg Y Y)) (t_op Y Y (PureD.opD (p_asg Y Y)) (t_gho (Gho_st (L := [(6, .b (decide (r'4.1 = r'5))), (7, .i (0 : Int))]) (H := []) (N := 39) Y ⟨TLes.same _, TLes.same _, trivial⟩ trivial) (AW2_ret ?_)))
 obtain rfl := se H
 exact ⟨⟨rt, rt, trivial⟩, trivial⟩
noncomputable def g_law_TableHolds (x0 : GExpr) (cols1 : List GColumn) (row2 : List GValue) : Option (Bool) :=
  (g_table_Holds x0 cols1 row2).bind fun r'1 => (g_ref_True x0 cols1 row2).bind fun r'2 => some (decide ((r'1.2 = r'2.2) ∧ (r'1.1 = r'2.1)))
set_option maxHeartbeats 4000000 in
set_option maxRecDepth 100000 in
theorem g_law_TableHolds_ac {x0 : GExpr} {cols1 : List GColumn} {row2 : List GValue} {r : Bool} (H : g_law_TableHolds x0 cols1 row2 = some r) : ACp Tryd.prog 5 [(.agg (GExpr.cs x0)), (GColumn.ls cols1), (GValue.ls row2)] (AV.bool r) := by
 refine ACp_of (AC2_of_body (vs := [.b r]) Tryd.func5 Y Y (lb Y) Y ?_) (fun _ => .same _)
 unfold g_law_TableHolds at H
 refine as2 [(0, .g (GExpr.cs x0)), (1, .p (GColumn.ls cols1)), (2, .p (GValue.ls row2))] [] Y (sg [0,1] Y (rq Y (MakeD.opD (n_box 3 Y Y) Y Y Y Y) (ra Y (rz [(1, _), (2, _), (3, .q 3 (0))] [(3, .pure (GExpr.cs x0))] Y (sg [0,1,2,3,4,5,6,7,8] Y (rp Y (u_lda Y Y U27 Y in_27 Y np (Sub.refl _) (GExpr.len x0)) ?_))))))
 refine rm Y (rm Y (bindK H fun r'1 h1 H => rp Y (p_callp Y Y Y Tryd.func11 Y Y (g_table_Holds_ac h1) ⟨Y, Y, Y, trivial⟩) (rm Y (rp Y (p_ext Y Y Y Y) (rp Y (p_ext Y Y Y Y) ?_)))))
 refine ra Y (ra Y (rz [(1, _), (2, _), (3, _), (7, .b r'1.1), (8, .i r'1.2)] [(3, _)] Y (sg [0,1,2,3,4,5,6,7,8] Y (rp Y (u_lda Y Y U27 Y in_27 Y np (Sub.refl _) (GExpr.len x0)) (rm Y (rm Y ?_))))))
 refine bindK H fun r'2 h2 H => rp Y (p_callp Y Y Y Tryd.func12 Y Y (g_ref_True_ac h2) ⟨Y, Y, Y, trivial⟩) (rm Y (rp Y (p_ext Y Y Y Y) (rp Y (p_ext Y Y Y Y) (ra Y (ra Y ?_)))))
 refine rz [(7, _), (8, _), (9, .b r'2.1), (10, .i r'2.2)] [] Y (AW2_seq (AW2_mid (⟨[(6, .b (decide ((r'1.2 = r'2.2) ∧ (r'1.1 = r'2.1))))], [], 33⟩ : TS) ?_ ?_))
 ·refine AW2_reg [0,1,2,3,4,5,6,7,8] Y (rm Y (rm Y (rp Y (p_ieq Y Y Y) (rm Y ?_))))
  refine (Classical.em (r'1.2 = r'2.2)).elim (fun h3 => ?_) (fun h3 => ?_)
  ·exact rn Y (dT h3) Y (p_move Y Y) (rn Y (dT h3) Y (p_move Y Y) (rn Y (dT h3) Y (p_beqp Y U4 Y Y) (rp Y (p_pkt Y Y (dT h3) (tb ((and_l (p := r'1.2 = r'2.2) (q := r'1.1 = r'2.1) h3)))) (ra Y (rend Y Y)))))
  exact rO Y (dF h3) Y (rO Y (dF h3) Y (rO Y (dF h3) Y (rp Y (p_pkf Y Y (dF h3) (tb (dF (p := (r'1.2 = r'2.2) ∧ (r'1.1 = r'2.1)) (fun x => h3 x.1)).symm)) (ra Y (rend Y Y)))))
 refine AW2_ret ?_
 obtain rfl := se H
 exact ⟨⟨rt, trivial⟩, trivial⟩
end Go.Proofs.YthnkbagmaljjjaaDoor.VM
