/- Functions of the program, as they answer, and that their code comes to these answers. -/
import Derived.Test.YtglgdaeimfdpfaaVtEq
import Derived.Test.YtglgdaeimfdpfaaVtTyped
namespace Go.Proofs.Ytglgdaeimfdpfaa.VM
open Go Go.RowKit

structure GPut where
  At : Int
  Data : Vector UInt8 32
deriving DecidableEq, Inhabited
def GPut.zero : GPut := ⟨(0 : Int), (Vector.replicate 32 (0 : UInt8))⟩
def GPut.cs (x : GPut) : List AV := ([(AV.int x.At)]) ++ (bcells x.Data.toList)
theorem GPut.len (x : GPut) : (GPut.cs x).length = 33 := by
  simp only [GPut.cs, List.length_append]
  rw [show ([(AV.int x.At)]).length = 1 from (show ([(AV.int x.At)]).length = 1 from rfl), show (bcells x.Data.toList).length = 32 from ((bcells_length _).trans (vlen x.Data))]
theorem GPut.sub0 (x : GPut) : Sub (GPut.cs x) 0 ([(AV.int x.At)]) := Sub.head _ _
theorem GPut.upd0 (x : GPut) (y : Int) : Upd (GPut.cs x) 0 ([(AV.int y)]) (GPut.cs { x with At := y }) := Upd.head (show ([(AV.int y)]).length = ([(AV.int x.At)]).length from rfl)
theorem GPut.sub1 (x : GPut) : Sub (GPut.cs x) 1 (bcells x.Data.toList) := Sub.skip (k := 1) (show ([(AV.int x.At)]).length = 1 from rfl) (Sub.refl _)
theorem GPut.upd1 (x : GPut) (y : Vector UInt8 32) : Upd (GPut.cs x) 1 (bcells y.toList) (GPut.cs { x with Data := y }) := Upd.skip (k := 1) (show ([(AV.int x.At)]).length = 1 from rfl) (Upd.refl (((bcells_length _).trans (vlen y)).trans ((bcells_length _).trans (vlen x.Data)).symm))
structure GDisk where
  Lasts : List (Vector UInt8 32)
  Writes : List GPut
deriving DecidableEq, Inhabited
def GDisk.zero : GDisk := ⟨[], []⟩
def GDisk.cs (x : GDisk) : List AV := ([((fun q : List (Vector UInt8 32) => AV.lst (q.flatMap (fun v : Vector UInt8 32 => bcells v.toList)) q.length) x.Lasts)]) ++ ([((fun q : List GPut => AV.lst (q.flatMap GPut.cs) q.length) x.Writes)])
theorem GDisk.len (x : GDisk) : (GDisk.cs x).length = 2 := by
  simp only [GDisk.cs, List.length_append]
  rw [show ([((fun q : List (Vector UInt8 32) => AV.lst (q.flatMap (fun v : Vector UInt8 32 => bcells v.toList)) q.length) x.Lasts)]).length = 1 from (show ([((fun q : List (Vector UInt8 32) => AV.lst (q.flatMap (fun v : Vector UInt8 32 => bcells v.toList)) q.length) x.Lasts)]).length = 1 from rfl), show ([((fun q : List GPut => AV.lst (q.flatMap GPut.cs) q.length) x.Writes)]).length = 1 from (show ([((fun q : List GPut => AV.lst (q.flatMap GPut.cs) q.length) x.Writes)]).length = 1 from rfl)]
theorem GDisk.sub0 (x : GDisk) : Sub (GDisk.cs x) 0 ([((fun q : List (Vector UInt8 32) => AV.lst (q.flatMap (fun v : Vector UInt8 32 => bcells v.toList)) q.length) x.Lasts)]) := Sub.head _ _
theorem GDisk.upd0 (x : GDisk) (y : List (Vector UInt8 32)) : Upd (GDisk.cs x) 0 ([((fun q : List (Vector UInt8 32) => AV.lst (q.flatMap (fun v : Vector UInt8 32 => bcells v.toList)) q.length) y)]) (GDisk.cs { x with Lasts := y }) := Upd.head (show ([((fun q : List (Vector UInt8 32) => AV.lst (q.flatMap (fun v : Vector UInt8 32 => bcells v.toList)) q.length) y)]).length = ([((fun q : List (Vector UInt8 32) => AV.lst (q.flatMap (fun v : Vector UInt8 32 => bcells v.toList)) q.length) x.Lasts)]).length from rfl)
theorem GDisk.sub1 (x : GDisk) : Sub (GDisk.cs x) 1 ([((fun q : List GPut => AV.lst (q.flatMap GPut.cs) q.length) x.Writes)]) := Sub.skip (k := 1) (show ([((fun q : List (Vector UInt8 32) => AV.lst (q.flatMap (fun v : Vector UInt8 32 => bcells v.toList)) q.length) x.Lasts)]).length = 1 from rfl) (Sub.refl _)
theorem GDisk.upd1 (x : GDisk) (y : List GPut) : Upd (GDisk.cs x) 1 ([((fun q : List GPut => AV.lst (q.flatMap GPut.cs) q.length) y)]) (GDisk.cs { x with Writes := y }) := Upd.skip (k := 1) (show ([((fun q : List (Vector UInt8 32) => AV.lst (q.flatMap (fun v : Vector UInt8 32 => bcells v.toList)) q.length) x.Lasts)]).length = 1 from rfl) (Upd.refl (show ([((fun q : List GPut => AV.lst (q.flatMap GPut.cs) q.length) y)]).length = ([((fun q : List GPut => AV.lst (q.flatMap GPut.cs) q.length) x.Writes)]).length from rfl))
theorem in_22 : Info Try.prog 22 1 24 (.slice none 0 0) := by unfold Info; kernel_rfl
theorem one_22 : (.slice none 0 0 : Value).cells.all (·.oneCell') = true := by kernel_rfl
theorem zc_22 : ((.slice none 0 0 : Value).cells.toList.map zcell) = [((fun q : List (Vector UInt8 32) => AV.lst (q.flatMap (fun v : Vector UInt8 32 => bcells v.toList)) q.length) [])] := by rfl
theorem in_23 : Info Try.prog 23 1 24 (.slice none 0 0) := by unfold Info; kernel_rfl
theorem one_23 : (.slice none 0 0 : Value).cells.all (·.oneCell') = true := by kernel_rfl
theorem zc_23 : ((.slice none 0 0 : Value).cells.toList.map zcell) = [((fun q : List GPut => AV.lst (q.flatMap GPut.cs) q.length) [])] := by rfl
theorem in_70 : Info Try.prog 70 33 40 (.agg #[.int .i64 0, .int .u8 0, .int .u8 0, .int .u8 0, .int .u8 0, .int .u8 0, .int .u8 0, .int .u8 0, .int .u8 0, .int .u8 0, .int .u8 0, .int .u8 0, .int .u8 0, .int .u8 0, .int .u8 0, .int .u8 0, .int .u8 0, .int .u8 0, .int .u8 0, .int .u8 0, .int .u8 0, .int .u8 0, .int .u8 0, .int .u8 0, .int .u8 0, .int .u8 0, .int .u8 0, .int .u8 0, .int .u8 0, .int .u8 0, .int .u8 0, .int .u8 0, .int .u8 0]) := by unfold Info; kernel_rfl
theorem one_70 : (.agg #[.int .i64 0, .int .u8 0, .int .u8 0, .int .u8 0, .int .u8 0, .int .u8 0, .int .u8 0, .int .u8 0, .int .u8 0, .int .u8 0, .int .u8 0, .int .u8 0, .int .u8 0, .int .u8 0, .int .u8 0, .int .u8 0, .int .u8 0, .int .u8 0, .int .u8 0, .int .u8 0, .int .u8 0, .int .u8 0, .int .u8 0, .int .u8 0, .int .u8 0, .int .u8 0, .int .u8 0, .int .u8 0, .int .u8 0, .int .u8 0, .int .u8 0, .int .u8 0, .int .u8 0] : Value).cells.all (·.oneCell') = true := by kernel_rfl
theorem zc_70 : ((.agg #[.int .i64 0, .int .u8 0, .int .u8 0, .int .u8 0, .int .u8 0, .int .u8 0, .int .u8 0, .int .u8 0, .int .u8 0, .int .u8 0, .int .u8 0, .int .u8 0, .int .u8 0, .int .u8 0, .int .u8 0, .int .u8 0, .int .u8 0, .int .u8 0, .int .u8 0, .int .u8 0, .int .u8 0, .int .u8 0, .int .u8 0, .int .u8 0, .int .u8 0, .int .u8 0, .int .u8 0, .int .u8 0, .int .u8 0, .int .u8 0, .int .u8 0, .int .u8 0, .int .u8 0] : Value).cells.toList.map zcell) = GPut.cs GPut.zero := by rfl
theorem pl_70 : placesOf Try.prog 70 = some [(0, 1), (1, 32)] := by kernel_rfl
theorem in_3 : Info Try.prog 3 1 8 (.int .i64 0) := by unfold Info; kernel_rfl
theorem one_3 : (.int .i64 0 : Value).cells.all (·.oneCell') = true := by kernel_rfl
theorem zc_3 : ((.int .i64 0 : Value).cells.toList.map zcell) = [(AV.int (0 : Int))] := by rfl
theorem in_32 : Info Try.prog 32 32 32 (.agg #[.int .u8 0, .int .u8 0, .int .u8 0, .int .u8 0, .int .u8 0, .int .u8 0, .int .u8 0, .int .u8 0, .int .u8 0, .int .u8 0, .int .u8 0, .int .u8 0, .int .u8 0, .int .u8 0, .int .u8 0, .int .u8 0, .int .u8 0, .int .u8 0, .int .u8 0, .int .u8 0, .int .u8 0, .int .u8 0, .int .u8 0, .int .u8 0, .int .u8 0, .int .u8 0, .int .u8 0, .int .u8 0, .int .u8 0, .int .u8 0, .int .u8 0, .int .u8 0]) := by unfold Info; kernel_rfl
theorem one_32 : (.agg #[.int .u8 0, .int .u8 0, .int .u8 0, .int .u8 0, .int .u8 0, .int .u8 0, .int .u8 0, .int .u8 0, .int .u8 0, .int .u8 0, .int .u8 0, .int .u8 0, .int .u8 0, .int .u8 0, .int .u8 0, .int .u8 0, .int .u8 0, .int .u8 0, .int .u8 0, .int .u8 0, .int .u8 0, .int .u8 0, .int .u8 0, .int .u8 0, .int .u8 0, .int .u8 0, .int .u8 0, .int .u8 0, .int .u8 0, .int .u8 0, .int .u8 0, .int .u8 0] : Value).cells.all (·.oneCell') = true := by kernel_rfl
theorem zc_32 : ((.agg #[.int .u8 0, .int .u8 0, .int .u8 0, .int .u8 0, .int .u8 0, .int .u8 0, .int .u8 0, .int .u8 0, .int .u8 0, .int .u8 0, .int .u8 0, .int .u8 0, .int .u8 0, .int .u8 0, .int .u8 0, .int .u8 0, .int .u8 0, .int .u8 0, .int .u8 0, .int .u8 0, .int .u8 0, .int .u8 0, .int .u8 0, .int .u8 0, .int .u8 0, .int .u8 0, .int .u8 0, .int .u8 0, .int .u8 0, .int .u8 0, .int .u8 0, .int .u8 0] : Value).cells.toList.map zcell) = bcells ((Vector.replicate 32 (0 : UInt8)).toList) := by rfl
theorem in_25 : Info Try.prog 25 2 48 (.agg #[.slice none 0 0, .slice none 0 0]) := by unfold Info; kernel_rfl
theorem one_25 : (.agg #[.slice none 0 0, .slice none 0 0] : Value).cells.all (·.oneCell') = true := by kernel_rfl
theorem zc_25 : ((.agg #[.slice none 0 0, .slice none 0 0] : Value).cells.toList.map zcell) = GDisk.cs GDisk.zero := by rfl
theorem pl_25 : placesOf Try.prog 25 = some [(0, 1), (1, 1)] := by kernel_rfl
theorem in_5 : Info Try.prog 5 1 1 (.int .u8 0) := by unfold Info; kernel_rfl
theorem one_5 : (.int .u8 0 : Value).cells.all (·.oneCell') = true := by kernel_rfl
theorem zc_5 : ((.int .u8 0 : Value).cells.toList.map zcell) = [(AV.b8 (0 : UInt8))] := by rfl
theorem eq_32 : EqT Try.prog 32 2 (fun x : Vector UInt8 32 => .agg (bcells x.toList)) := eqt_arr1 Try.underlying32 in_5 (by kernel_rfl) Try.underlying5 rfl (eqt_b8 Try.underlying5)
set_option maxRecDepth 100000 in
theorem ty_5 {d : Nat} {cs : List AV} (h : Typed Try.prog (d + 1) 5 cs) : ∃ x : UInt8, cs = [(AV.b8 x)] ∧ okA x := ty_u8 Try.underlying5 h
set_option maxRecDepth 100000 in
theorem ty_32 {d : Nat} {cs : List AV} (h : Typed Try.prog (d + 2) 32 cs) : ∃ x : Vector UInt8 32, cs = bcells x.toList ∧ (okV okA) x := ty_array (f := AV.b8) Try.underlying32 (fun _ hx => ty_5 hx) h
set_option maxRecDepth 100000 in
theorem ty_22 {d : Nat} {cs : List AV} (h : Typed Try.prog (d + 3) 22 cs) : ∃ x : List (Vector UInt8 32), cs = [((fun q : List (Vector UInt8 32) => AV.lst (q.flatMap (fun v : Vector UInt8 32 => bcells v.toList)) q.length) x)] ∧ (okL 32 (okV okA)) x := ty_slicef (g := fun b : Vector UInt8 32 => bcells b.toList) Try.underlying22 (bytes_of in_32) (fun _ hx => ty_32 hx) h
set_option maxRecDepth 100000 in
theorem ty_3 {d : Nat} {cs : List AV} (h : Typed Try.prog (d + 1) 3 cs) : ∃ x : Int, cs = [(AV.int x)] ∧ okI x := ty_int Try.underlying3 h
def GPut.ok (x : GPut) : Prop := okI x.At ∧ (okV okA) x.Data
set_option maxRecDepth 100000 in
theorem ty_70 {d : Nat} {cs : List AV} (h : Typed Try.prog (d + 3) 70 cs) : ∃ x : GPut, cs = GPut.cs x ∧ GPut.ok x := by
  obtain ⟨es, rfl, hl, hf⟩ := ty_struct Try.underlying70 h
  match es, hl, hf with
  | [e0, e1], _, hf =>
    obtain ⟨x0, h0, q0⟩ := ty_3 (hf 0 _ e0 rfl rfl)
    obtain ⟨x1, h1, q1⟩ := ty_32 (hf 1 _ e1 rfl rfl)
    refine ⟨⟨x0, x1⟩, ?_, ⟨q0, q1⟩⟩
    rw [h0, h1]
    simp only [List.flatten_cons, List.flatten_nil, List.append_nil, GPut.cs]
set_option maxRecDepth 100000 in
theorem ty_23 {d : Nat} {cs : List AV} (h : Typed Try.prog (d + 4) 23 cs) : ∃ x : List GPut, cs = [((fun q : List GPut => AV.lst (q.flatMap GPut.cs) q.length) x)] ∧ (okL 40 GPut.ok) x := ty_slicef (g := fun b : GPut => GPut.cs b) Try.underlying23 (bytes_of in_70) (fun _ hx => ty_70 hx) h
def GDisk.ok (x : GDisk) : Prop := (okL 32 (okV okA)) x.Lasts ∧ (okL 40 GPut.ok) x.Writes
set_option maxRecDepth 100000 in
theorem ty_25 {d : Nat} {cs : List AV} (h : Typed Try.prog (d + 5) 25 cs) : ∃ x : GDisk, cs = GDisk.cs x ∧ GDisk.ok x := by
  obtain ⟨es, rfl, hl, hf⟩ := ty_struct Try.underlying25 h
  match es, hl, hf with
  | [e0, e1], _, hf =>
    obtain ⟨x0, h0, q0⟩ := ty_22 (hf 0 _ e0 rfl rfl)
    obtain ⟨x1, h1, q1⟩ := ty_23 (hf 1 _ e1 rfl rfl)
    refine ⟨⟨x0, x1⟩, ?_, ⟨q0, q1⟩⟩
    rw [h0, h1]
    simp only [List.flatten_cons, List.flatten_nil, List.append_nil, GDisk.cs]

/-! disk.Check -/
noncomputable def g_disk_Check_l0 (d0 : GDisk) : Int → Option (Int ⊕ (Int ⊕ Unit))
  | t24_0 => (if t24_0 < (d0.Writes.length : Int) then if 0 ≤ t24_0 ∧ t24_0 < (d0.Writes.length : Int) then (if ((lrd d0.Writes t24_0.toNat).At < (0 : Int)) ∨ ((lrd d0.Writes t24_0.toNat).At ≥ (d0.Lasts.length : Int)) then some (.inr (.inl (6 : Int))) else some (.inl (w64 (t24_0 + (1 : Int))))) else none else some (.inr (.inr ())))
noncomputable def g_disk_Check (d0 : GDisk) : Option (Int) :=
  (if (((d0.Lasts.length : Int) < (1 : Int)) ∨ ((d0.Lasts.length : Int) > (400 : Int))) ∨ ((d0.Writes.length : Int) > (60 : Int)) then some (1 : Int) else (loopO (g_disk_Check_l0 d0) (0 : Int)).bind fun o'4 => match o'4 with | .inl y'5 => some y'5 | .inr (y'6) => some (0 : Int))
set_option maxHeartbeats 4000000 in
set_option maxRecDepth 100000 in
theorem g_disk_Check_ac {d0 : GDisk} {r : Int} (H : g_disk_Check d0 = some r) : ACp Try.prog 10 [(.agg (GDisk.cs d0))] (AV.int r) := by
  refine ACp_of (AC2_of_body (vs := [.c (.p (AV.int r))]) Try.func10 rfl rfl (Nat.le_of_ble_eq_true rfl) rfl ?_) (fun _ => .same _)
  unfold g_disk_Check at H
  refine AW2_st [(0, .c (.p (.agg (GDisk.cs d0))))] [] rfl ⟨TLes.same _, trivial⟩ trivial ?_
  refine AW2_seq ?_
  refine AW2_reg [0, 1] rfl ?_
  refine r_op rfl rfl (MakeD.opD (n_box 1 rfl rfl) rfl rfl rfl rfl) ?_
  refine r_op rfl rfl (PureD.opD (p_asg rfl rfl)) ?_
  refine RunW_st [(1, .c (.ptr 1 (0)))] [(1, .pure (GDisk.cs d0))] rfl ⟨TLes.same _, trivial⟩ ⟨rfl, trivial⟩ ?_
  refine RunW_nil ?_
  refine AW2_seq ?_
  refine AW2_seq ?_
  refine AW2_mid (⟨[(1, .c (.ptr 1 (0))), (20, .c (.p (.bool (decide ((((d0.Lasts.length : Int) < (1 : Int)) ∨ ((d0.Lasts.length : Int) > (400 : Int))) ∨ ((d0.Writes.length : Int) > (60 : Int)))))))], [(1, .pure (GDisk.cs d0))], 40⟩ : TS) ?_ ?_
  · refine AW2_reg [0, 1, 2, 3, 4, 5, 6, 7, 8, 9, 10, 11, 12, 13, 14, 15] rfl ?_
    refine r_op rfl rfl (PureD.opD (u_fa rfl rfl Try.underlying25 rfl in_22 (Nat.succ_ne_zero _) rfl rfl (ne_of_lt (n := 0) (Nat.lt_of_lt_of_eq (by decide) (Eq.symm (GDisk.len d0)))))) ?_
    refine r_op rfl rfl (PureD.opD (u_ld rfl rfl Try.underlying22 rfl rfl ((Sub.refl _).trans (GDisk.sub0 d0)))) ?_
    refine r_op rfl rfl (PureD.opD (p_lenl rfl Try.underlying22 rfl rfl)) ?_
    refine r_op rfl rfl (PureD.opD (p_bin rfl rfl rfl rfl)) ?_
    refine r_op rfl rfl (PureD.opD (p_move rfl rfl)) ?_
    rcases Classical.em ((d0.Lasts.length : Int) < (1 : Int)) with h1 | h1
    · refine r_off rfl rfl rfl rfl (decide_eq_true (p := (d0.Lasts.length : Int) < (1 : Int)) h1) rfl rfl ?_
      refine r_off rfl rfl rfl rfl (decide_eq_true (p := (d0.Lasts.length : Int) < (1 : Int)) h1) rfl rfl ?_
      refine r_off rfl rfl rfl rfl (decide_eq_true (p := (d0.Lasts.length : Int) < (1 : Int)) h1) rfl rfl ?_
      refine r_off rfl rfl rfl rfl (decide_eq_true (p := (d0.Lasts.length : Int) < (1 : Int)) h1) rfl rfl ?_
      refine r_op rfl rfl (PureD.opD (p_pkt rfl rfl (decide_eq_true (p := (d0.Lasts.length : Int) < (1 : Int)) h1) (tb (decide_eq_true (p := ((d0.Lasts.length : Int) < (1 : Int)) ∨ ((d0.Lasts.length : Int) > (400 : Int))) (Or.inl h1)).symm))) ?_
      refine r_op rfl rfl (PureD.opD (p_move rfl rfl)) ?_
      refine r_off rfl rfl rfl rfl (decide_eq_true (p := ((d0.Lasts.length : Int) < (1 : Int)) ∨ ((d0.Lasts.length : Int) > (400 : Int))) (Or.inl h1)) rfl rfl ?_
      refine r_off rfl rfl rfl rfl (decide_eq_true (p := ((d0.Lasts.length : Int) < (1 : Int)) ∨ ((d0.Lasts.length : Int) > (400 : Int))) (Or.inl h1)) rfl rfl ?_
      refine r_off rfl rfl rfl rfl (decide_eq_true (p := ((d0.Lasts.length : Int) < (1 : Int)) ∨ ((d0.Lasts.length : Int) > (400 : Int))) (Or.inl h1)) rfl rfl ?_
      refine r_off rfl rfl rfl rfl (decide_eq_true (p := ((d0.Lasts.length : Int) < (1 : Int)) ∨ ((d0.Lasts.length : Int) > (400 : Int))) (Or.inl h1)) rfl rfl ?_
      refine r_op rfl rfl (PureD.opD (p_pkt rfl rfl (decide_eq_true (p := ((d0.Lasts.length : Int) < (1 : Int)) ∨ ((d0.Lasts.length : Int) > (400 : Int))) (Or.inl h1)) (tb (decide_eq_true (p := (((d0.Lasts.length : Int) < (1 : Int)) ∨ ((d0.Lasts.length : Int) > (400 : Int))) ∨ ((d0.Writes.length : Int) > (60 : Int))) (Or.inl (Or.inl h1))).symm))) ?_
      refine RunW_st [(1, .c (.ptr 1 (0))), (20, .c (.p (.bool (decide ((((d0.Lasts.length : Int) < (1 : Int)) ∨ ((d0.Lasts.length : Int) > (400 : Int))) ∨ ((d0.Writes.length : Int) > (60 : Int)))))))] [(1, .pure (GDisk.cs d0))] rfl ⟨TLes.same _, TLes.same _, trivial⟩ ⟨rfl, trivial⟩ ?_
      exact RunW_nil rfl
    · refine r_on rfl rfl rfl rfl (decide_eq_false (p := (d0.Lasts.length : Int) < (1 : Int)) h1) rfl (PureD.opD (u_fa rfl rfl Try.underlying25 rfl in_22 (Nat.succ_ne_zero _) rfl rfl (ne_of_lt (n := 0) (Nat.lt_of_lt_of_eq (by decide) (Eq.symm (GDisk.len d0)))))) ?_
      refine r_on rfl rfl rfl rfl (decide_eq_false (p := (d0.Lasts.length : Int) < (1 : Int)) h1) rfl (PureD.opD (u_ld rfl rfl Try.underlying22 rfl rfl ((Sub.refl _).trans (GDisk.sub0 d0)))) ?_
      refine r_on rfl rfl rfl rfl (decide_eq_false (p := (d0.Lasts.length : Int) < (1 : Int)) h1) rfl (PureD.opD (p_lenl rfl Try.underlying22 rfl rfl)) ?_
      refine r_on rfl rfl rfl rfl (decide_eq_false (p := (d0.Lasts.length : Int) < (1 : Int)) h1) rfl (PureD.opD (p_bin rfl rfl rfl rfl)) ?_
      refine r_op rfl rfl (PureD.opD (p_pkf rfl rfl (decide_eq_false (p := (d0.Lasts.length : Int) < (1 : Int)) h1) (tb ((or_l (p := (d0.Lasts.length : Int) < (1 : Int)) (q := (d0.Lasts.length : Int) > (400 : Int)) h1))))) ?_
      refine r_op rfl rfl (PureD.opD (p_move rfl rfl)) ?_
      rcases Classical.em ((d0.Lasts.length : Int) > (400 : Int)) with h2 | h2
      · refine r_off rfl rfl rfl rfl (decide_eq_true (p := ((d0.Lasts.length : Int) < (1 : Int)) ∨ ((d0.Lasts.length : Int) > (400 : Int))) (Or.inr h2)) rfl rfl ?_
        refine r_off rfl rfl rfl rfl (decide_eq_true (p := ((d0.Lasts.length : Int) < (1 : Int)) ∨ ((d0.Lasts.length : Int) > (400 : Int))) (Or.inr h2)) rfl rfl ?_
        refine r_off rfl rfl rfl rfl (decide_eq_true (p := ((d0.Lasts.length : Int) < (1 : Int)) ∨ ((d0.Lasts.length : Int) > (400 : Int))) (Or.inr h2)) rfl rfl ?_
        refine r_off rfl rfl rfl rfl (decide_eq_true (p := ((d0.Lasts.length : Int) < (1 : Int)) ∨ ((d0.Lasts.length : Int) > (400 : Int))) (Or.inr h2)) rfl rfl ?_
        refine r_op rfl rfl (PureD.opD (p_pkt rfl rfl (decide_eq_true (p := ((d0.Lasts.length : Int) < (1 : Int)) ∨ ((d0.Lasts.length : Int) > (400 : Int))) (Or.inr h2)) (tb (decide_eq_true (p := (((d0.Lasts.length : Int) < (1 : Int)) ∨ ((d0.Lasts.length : Int) > (400 : Int))) ∨ ((d0.Writes.length : Int) > (60 : Int))) (Or.inl (Or.inr h2))).symm))) ?_
        refine RunW_st [(1, .c (.ptr 1 (0))), (20, .c (.p (.bool (decide ((((d0.Lasts.length : Int) < (1 : Int)) ∨ ((d0.Lasts.length : Int) > (400 : Int))) ∨ ((d0.Writes.length : Int) > (60 : Int)))))))] [(1, .pure (GDisk.cs d0))] rfl ⟨TLes.same _, TLes.same _, trivial⟩ ⟨rfl, trivial⟩ ?_
        exact RunW_nil rfl
      · refine r_on rfl rfl rfl rfl (decide_eq_false (p := ((d0.Lasts.length : Int) < (1 : Int)) ∨ ((d0.Lasts.length : Int) > (400 : Int))) (not_or.2 ⟨h1, h2⟩)) rfl (PureD.opD (u_fa rfl rfl Try.underlying25 rfl in_23 (Nat.succ_ne_zero _) rfl rfl (ne_of_lt (n := 0) (Nat.lt_of_lt_of_eq (by decide) (Eq.symm (GDisk.len d0)))))) ?_
        refine r_on rfl rfl rfl rfl (decide_eq_false (p := ((d0.Lasts.length : Int) < (1 : Int)) ∨ ((d0.Lasts.length : Int) > (400 : Int))) (not_or.2 ⟨h1, h2⟩)) rfl (PureD.opD (u_ld rfl rfl Try.underlying23 rfl rfl ((Sub.refl _).trans (GDisk.sub1 d0)))) ?_
        refine r_on rfl rfl rfl rfl (decide_eq_false (p := ((d0.Lasts.length : Int) < (1 : Int)) ∨ ((d0.Lasts.length : Int) > (400 : Int))) (not_or.2 ⟨h1, h2⟩)) rfl (PureD.opD (p_lenl rfl Try.underlying23 rfl rfl)) ?_
        refine r_on rfl rfl rfl rfl (decide_eq_false (p := ((d0.Lasts.length : Int) < (1 : Int)) ∨ ((d0.Lasts.length : Int) > (400 : Int))) (not_or.2 ⟨h1, h2⟩)) rfl (PureD.opD (p_bin rfl rfl rfl rfl)) ?_
        refine r_op rfl rfl (PureD.opD (p_pkf rfl rfl (decide_eq_false (p := ((d0.Lasts.length : Int) < (1 : Int)) ∨ ((d0.Lasts.length : Int) > (400 : Int))) (not_or.2 ⟨h1, h2⟩)) (tb ((or_l (p := ((d0.Lasts.length : Int) < (1 : Int)) ∨ ((d0.Lasts.length : Int) > (400 : Int))) (q := (d0.Writes.length : Int) > (60 : Int)) (not_or.2 ⟨h1, h2⟩)))))) ?_
        refine RunW_st [(1, .c (.ptr 1 (0))), (20, .c (.p (.bool (decide ((((d0.Lasts.length : Int) < (1 : Int)) ∨ ((d0.Lasts.length : Int) > (400 : Int))) ∨ ((d0.Writes.length : Int) > (60 : Int)))))))] [(1, .pure (GDisk.cs d0))] rfl ⟨TLes.same _, TLes.same _, trivial⟩ ⟨rfl, trivial⟩ ?_
        exact RunW_nil rfl
  · refine AW2_if (p := (((d0.Lasts.length : Int) < (1 : Int)) ∨ ((d0.Lasts.length : Int) > (400 : Int))) ∨ ((d0.Writes.length : Int) > (60 : Int))) rfl (fun h3 => ?_) (fun h3 => ?_)
    · replace H := ite_then h3 H
      refine AW2_seq ?_
      refine AW2_reg [0] rfl ?_
      refine r_op rfl rfl (PureD.opD (p_asg rfl rfl)) ?_
      refine RunW_st [(2, .c (.p (AV.int (1 : Int))))] [] rfl ⟨TLes.same _, trivial⟩ trivial ?_
      refine RunW_nil ?_
      refine AW2_ret ?_
      obtain rfl := some_elim H
      exact ⟨⟨res_tmp (.same _), trivial⟩, trivial⟩
    · replace H := ite_else h3 H
      refine AW2_st [(1, .c (.ptr 1 (0)))] [(1, .pure (GDisk.cs d0))] rfl ⟨TLes.same _, trivial⟩ ⟨rfl, trivial⟩ ?_
      refine AW2_skip ?_
      refine AW2_seq ?_
      refine AW2_seq ?_
      refine AW2_reg [0, 1, 2, 3] rfl ?_
      refine r_op rfl rfl (PureD.opD (u_fa rfl rfl Try.underlying25 rfl in_23 (Nat.succ_ne_zero _) rfl rfl (ne_of_lt (n := 0) (Nat.lt_of_lt_of_eq (by decide) (Eq.symm (GDisk.len d0)))))) ?_
      refine r_op rfl rfl (PureD.opD (u_ld rfl rfl Try.underlying23 rfl rfl ((Sub.refl _).trans (GDisk.sub1 d0)))) ?_
      refine r_op rfl rfl (PureD.opD (p_lenl rfl Try.underlying23 rfl rfl)) ?_
      refine r_op rfl rfl (PureD.opD (p_move rfl rfl)) ?_
      refine RunW_st [(1, .c (.ptr 1 (0))), (22, .c (.p ((fun q : List GPut => AV.lst (q.flatMap GPut.cs) q.length) d0.Writes))), (23, .c (.p (AV.int (d0.Writes.length : Int)))), (24, .c (.p (AV.int (0 : Int))))] [(1, .pure (GDisk.cs d0))] rfl ⟨TLes.same _, TLes.same _, TLes.same _, TLes.same _, trivial⟩ ⟨rfl, trivial⟩ ?_
      refine RunW_nil ?_
      refine AW2_block ?_
      refine AW2_st [(1, .c (.ptr 1 (0))), (22, .c (.p ((fun q : List GPut => AV.lst (q.flatMap GPut.cs) q.length) d0.Writes))), (23, .c (.p (AV.int (d0.Writes.length : Int)))), (24, .c (.p (AV.int (0 : Int))))] [(1, .pure (GDisk.cs d0))] rfl ⟨TLes.same _, TLes.same _, TLes.same _, TLes.same _, trivial⟩ ⟨rfl, trivial⟩ ?_
      obtain ⟨o'4, h8, H⟩ := bind_elim H
      refine AW2_loopO (fun a'1 : Int => (⟨[(1, .c (.ptr 1 (0))), (22, .c (.p ((fun q : List GPut => AV.lst (q.flatMap GPut.cs) q.length) d0.Writes))), (23, .c (.p (AV.int (d0.Writes.length : Int)))), (24, .c (.p (AV.int a'1)))], [(1, .pure (GDisk.cs d0))], 40⟩ : TS)) (fun (o : Int ⊕ Unit) e s' => match o with | .inl y'2 => e = Go.Exit.ret ∧ ResAll Try.prog s' [ResultVar.tmp 2] [.c (.p (AV.int y'2))] ∧ HFits s' [] | .inr (y'3) => e = Go.Exit.exit 0 ∧ s' = (⟨[], [], 40⟩ : TS)) h8 rfl (fun t24_0 x hx => ?_) (fun e s' hs => ?_)
      · clear H
        have H := hx
        clear hx
        unfold g_disk_Check_l0 at H
        refine AW2_seq ?_
        refine AW2_reg [0] rfl ?_
        refine r_op rfl rfl (PureD.opD (p_bin rfl rfl rfl rfl)) ?_
        refine RunW_st [(1, .c (.ptr 1 (0))), (22, .c (.p ((fun q : List GPut => AV.lst (q.flatMap GPut.cs) q.length) d0.Writes))), (23, .c (.p (AV.int (d0.Writes.length : Int)))), (24, .c (.p (AV.int t24_0))), (25, .c (.p (.bool (decide (t24_0 < (d0.Writes.length : Int))))))] [(1, .pure (GDisk.cs d0))] rfl ⟨TLes.same _, TLes.same _, TLes.same _, TLes.same _, TLes.same _, trivial⟩ ⟨rfl, trivial⟩ ?_
        refine RunW_nil ?_
        refine AW2_seq ?_
        refine AW2_if (p := t24_0 < (d0.Writes.length : Int)) rfl (fun h4 => ?_) (fun h4 => ?_)
        · replace H := ite_then h4 H
          refine AW2_st [(1, .c (.ptr 1 (0))), (22, .c (.p ((fun q : List GPut => AV.lst (q.flatMap GPut.cs) q.length) d0.Writes))), (23, .c (.p (AV.int (d0.Writes.length : Int)))), (24, .c (.p (AV.int t24_0)))] [(1, .pure (GDisk.cs d0))] rfl ⟨TLes.same _, TLes.same _, TLes.same _, TLes.same _, trivial⟩ ⟨rfl, trivial⟩ ?_
          refine AW2_skip ?_
          refine AW2_seq ?_
          refine AW2_block ?_
          refine AW2_seq ?_
          refine AW2_reg [0, 1, 2, 3] rfl ?_
          obtain ⟨h5, H⟩ := chk_elim H
          refine r_op rfl rfl (PureD.opD (u_ixl rfl rfl Try.underlying23 in_70 rfl rfl (ixe h5) (ixn h5) (fne (fun x => (GPut.len x)) (by decide) (ixn h5)))) ?_
          refine r_op rfl rfl (PureD.opD (u_lda rfl rfl Try.underlying70 rfl in_70 rfl (Nat.succ_pos _) (Sub.fm default (fun x => (GPut.len x)) (ixn h5)) (GPut.len (lrd d0.Writes t24_0.toNat)))) ?_
          refine r_op rfl rfl (MakeD.opD (u_alloc 4 rfl in_70 one_70 zc_70) rfl rfl rfl rfl) ?_
          refine r_op rfl rfl (u_st rfl rfl rfl rfl rfl in_70 (GPut.len (lrd d0.Writes t24_0.toNat)) (ne_of_lt (n := 0) (Nat.lt_of_lt_of_eq (by decide) (Eq.symm (GPut.len GPut.zero)))) (Upd.refl ((GPut.len (lrd d0.Writes t24_0.toNat)).trans (GPut.len GPut.zero).symm))) ?_
          refine RunW_st [(1, .c (.ptr 1 (0))), (4, .c (.ptr 4 (0))), (22, .c (.p ((fun q : List GPut => AV.lst (q.flatMap GPut.cs) q.length) d0.Writes))), (23, .c (.p (AV.int (d0.Writes.length : Int)))), (24, .c (.p (AV.int t24_0)))] [(1, .pure (GDisk.cs d0)), (4, .pure (GPut.cs (lrd d0.Writes t24_0.toNat)))] rfl ⟨TLes.same _, TLes.same _, TLes.same _, TLes.same _, TLes.same _, trivial⟩ ⟨rfl, rfl, trivial⟩ ?_
          refine RunW_nil ?_
          refine AW2_seq ?_
          refine AW2_mid (⟨[(1, .c (.ptr 1 (0))), (22, .c (.p ((fun q : List GPut => AV.lst (q.flatMap GPut.cs) q.length) d0.Writes))), (23, .c (.p (AV.int (d0.Writes.length : Int)))), (24, .c (.p (AV.int t24_0))), (38, .c (.p (.bool (decide (((lrd d0.Writes t24_0.toNat).At < (0 : Int)) ∨ ((lrd d0.Writes t24_0.toNat).At ≥ (d0.Lasts.length : Int)))))))], [(1, .pure (GDisk.cs d0))], 40⟩ : TS) ?_ ?_
          · refine AW2_reg [0, 1, 2, 3, 4, 5, 6, 7, 8, 9, 10] rfl ?_
            refine r_op rfl rfl (PureD.opD (u_fa rfl rfl Try.underlying70 rfl in_3 (Nat.succ_ne_zero _) rfl rfl (ne_of_lt (n := 0) (Nat.lt_of_lt_of_eq (by decide) (Eq.symm (GPut.len (lrd d0.Writes t24_0.toNat))))))) ?_
            refine r_op rfl rfl (PureD.opD (u_ld rfl rfl Try.underlying3 rfl rfl ((Sub.refl _).trans (GPut.sub0 (lrd d0.Writes t24_0.toNat))))) ?_
            refine r_op rfl rfl (PureD.opD (p_bin rfl rfl rfl rfl)) ?_
            refine r_op rfl rfl (PureD.opD (p_move rfl rfl)) ?_
            rcases Classical.em ((lrd d0.Writes t24_0.toNat).At < (0 : Int)) with h6 | h6
            · refine r_off rfl rfl rfl rfl (decide_eq_true (p := (lrd d0.Writes t24_0.toNat).At < (0 : Int)) h6) rfl rfl ?_
              refine r_off rfl rfl rfl rfl (decide_eq_true (p := (lrd d0.Writes t24_0.toNat).At < (0 : Int)) h6) rfl rfl ?_
              refine r_off rfl rfl rfl rfl (decide_eq_true (p := (lrd d0.Writes t24_0.toNat).At < (0 : Int)) h6) rfl rfl ?_
              refine r_off rfl rfl rfl rfl (decide_eq_true (p := (lrd d0.Writes t24_0.toNat).At < (0 : Int)) h6) rfl rfl ?_
              refine r_off rfl rfl rfl rfl (decide_eq_true (p := (lrd d0.Writes t24_0.toNat).At < (0 : Int)) h6) rfl rfl ?_
              refine r_off rfl rfl rfl rfl (decide_eq_true (p := (lrd d0.Writes t24_0.toNat).At < (0 : Int)) h6) rfl rfl ?_
              refine r_op rfl rfl (PureD.opD (p_pkt rfl rfl (decide_eq_true (p := (lrd d0.Writes t24_0.toNat).At < (0 : Int)) h6) (tb (decide_eq_true (p := ((lrd d0.Writes t24_0.toNat).At < (0 : Int)) ∨ ((lrd d0.Writes t24_0.toNat).At ≥ (d0.Lasts.length : Int))) (Or.inl h6)).symm))) ?_
              refine RunW_st [(1, .c (.ptr 1 (0))), (22, .c (.p ((fun q : List GPut => AV.lst (q.flatMap GPut.cs) q.length) d0.Writes))), (23, .c (.p (AV.int (d0.Writes.length : Int)))), (24, .c (.p (AV.int t24_0))), (38, .c (.p (.bool (decide (((lrd d0.Writes t24_0.toNat).At < (0 : Int)) ∨ ((lrd d0.Writes t24_0.toNat).At ≥ (d0.Lasts.length : Int)))))))] [(1, .pure (GDisk.cs d0))] rfl ⟨TLes.same _, TLes.same _, TLes.same _, TLes.same _, TLes.same _, trivial⟩ ⟨rfl, trivial⟩ ?_
              exact RunW_nil rfl
            · refine r_on rfl rfl rfl rfl (decide_eq_false (p := (lrd d0.Writes t24_0.toNat).At < (0 : Int)) h6) rfl (PureD.opD (u_fa rfl rfl Try.underlying70 rfl in_3 (Nat.succ_ne_zero _) rfl rfl (ne_of_lt (n := 0) (Nat.lt_of_lt_of_eq (by decide) (Eq.symm (GPut.len (lrd d0.Writes t24_0.toNat))))))) ?_
              refine r_on rfl rfl rfl rfl (decide_eq_false (p := (lrd d0.Writes t24_0.toNat).At < (0 : Int)) h6) rfl (PureD.opD (u_ld rfl rfl Try.underlying3 rfl rfl ((Sub.refl _).trans (GPut.sub0 (lrd d0.Writes t24_0.toNat))))) ?_
              refine r_on rfl rfl rfl rfl (decide_eq_false (p := (lrd d0.Writes t24_0.toNat).At < (0 : Int)) h6) rfl (PureD.opD (u_fa rfl rfl Try.underlying25 rfl in_22 (Nat.succ_ne_zero _) rfl rfl (ne_of_lt (n := 0) (Nat.lt_of_lt_of_eq (by decide) (Eq.symm (GDisk.len d0)))))) ?_
              refine r_on rfl rfl rfl rfl (decide_eq_false (p := (lrd d0.Writes t24_0.toNat).At < (0 : Int)) h6) rfl (PureD.opD (u_ld rfl rfl Try.underlying22 rfl rfl ((Sub.refl _).trans (GDisk.sub0 d0)))) ?_
              refine r_on rfl rfl rfl rfl (decide_eq_false (p := (lrd d0.Writes t24_0.toNat).At < (0 : Int)) h6) rfl (PureD.opD (p_lenl rfl Try.underlying22 rfl rfl)) ?_
              refine r_on rfl rfl rfl rfl (decide_eq_false (p := (lrd d0.Writes t24_0.toNat).At < (0 : Int)) h6) rfl (PureD.opD (p_bin rfl rfl rfl rfl)) ?_
              refine r_op rfl rfl (PureD.opD (p_pkf rfl rfl (decide_eq_false (p := (lrd d0.Writes t24_0.toNat).At < (0 : Int)) h6) (tb ((or_l (p := (lrd d0.Writes t24_0.toNat).At < (0 : Int)) (q := (lrd d0.Writes t24_0.toNat).At ≥ (d0.Lasts.length : Int)) h6))))) ?_
              refine RunW_st [(1, .c (.ptr 1 (0))), (22, .c (.p ((fun q : List GPut => AV.lst (q.flatMap GPut.cs) q.length) d0.Writes))), (23, .c (.p (AV.int (d0.Writes.length : Int)))), (24, .c (.p (AV.int t24_0))), (38, .c (.p (.bool (decide (((lrd d0.Writes t24_0.toNat).At < (0 : Int)) ∨ ((lrd d0.Writes t24_0.toNat).At ≥ (d0.Lasts.length : Int)))))))] [(1, .pure (GDisk.cs d0))] rfl ⟨TLes.same _, TLes.same _, TLes.same _, TLes.same _, TLes.same _, trivial⟩ ⟨rfl, trivial⟩ ?_
              exact RunW_nil rfl
          · refine AW2_if (p := ((lrd d0.Writes t24_0.toNat).At < (0 : Int)) ∨ ((lrd d0.Writes t24_0.toNat).At ≥ (d0.Lasts.length : Int))) rfl (fun h7 => ?_) (fun h7 => ?_)
            · replace H := ite_then h7 H
              refine AW2_seq ?_
              refine AW2_reg [0] rfl ?_
              refine r_op rfl rfl (PureD.opD (p_asg rfl rfl)) ?_
              refine RunW_st [(2, .c (.p (AV.int (6 : Int))))] [] rfl ⟨TLes.same _, trivial⟩ trivial ?_
              refine RunW_nil ?_
              refine AW2_ret ?_
              obtain rfl := some_elim H
              exact ⟨rfl, ⟨res_tmp (.same _), trivial⟩, trivial⟩
            · replace H := ite_else h7 H
              refine AW2_st [(1, .c (.ptr 1 (0))), (22, .c (.p ((fun q : List GPut => AV.lst (q.flatMap GPut.cs) q.length) d0.Writes))), (23, .c (.p (AV.int (d0.Writes.length : Int)))), (24, .c (.p (AV.int t24_0)))] [(1, .pure (GDisk.cs d0))] rfl ⟨TLes.same _, TLes.same _, TLes.same _, TLes.same _, trivial⟩ ⟨rfl, trivial⟩ ?_
              refine AW2_skip ?_
              refine AW2_reg [0, 1] rfl ?_
              refine r_op rfl rfl (PureD.opD (p_bin rfl rfl rfl rfl)) ?_
              refine r_op rfl rfl (PureD.opD (p_move rfl rfl)) ?_
              refine RunW_st [(1, .c (.ptr 1 (0))), (22, .c (.p ((fun q : List GPut => AV.lst (q.flatMap GPut.cs) q.length) d0.Writes))), (23, .c (.p (AV.int (d0.Writes.length : Int)))), (24, .c (.p (AV.int (w64 (t24_0 + (1 : Int))))))] [(1, .pure (GDisk.cs d0))] rfl ⟨TLes.same _, TLes.same _, TLes.same _, TLes.same _, trivial⟩ ⟨rfl, trivial⟩ ?_
              refine RunW_nil ?_
              obtain rfl := some_elim H
              exact ⟨rfl, rfl⟩
        · replace H := ite_else h4 H
          refine AW2_st [] [] rfl trivial trivial ?_
          refine AW2_exit ?_
          obtain rfl := some_elim H
          exact ⟨rfl, rfl⟩
      · rcases o'4 with y'5 | y'6
        · obtain ⟨rfl, hs⟩ := hs
          refine ⟨by simp, ?_⟩
          obtain rfl := some_elim H
          exact ⟨hs.1, hs.2⟩
        · obtain ⟨rfl, rfl⟩ := hs
          refine ⟨by simp, ?_⟩
          refine blockQ2_exit ?_
          refine AW2_seq ?_
          refine AW2_reg [0] rfl ?_
          refine r_op rfl rfl (PureD.opD (p_asg rfl rfl)) ?_
          refine RunW_st [(2, .c (.p (AV.int (0 : Int))))] [] rfl ⟨TLes.same _, trivial⟩ trivial ?_
          refine RunW_nil ?_
          refine AW2_ret ?_
          obtain rfl := some_elim H
          exact ⟨⟨res_tmp (.same _), trivial⟩, trivial⟩

/-! disk.Read -/
noncomputable def g_disk_Read_l0 (d0 : GDisk) (i1 : Int) : Int × (Vector UInt8 32) → Option ((Int × (Vector UInt8 32)) ⊕ (((Vector UInt8 32))))
  | (t34_0, b7_0) => (if t34_0 < (d0.Writes.length : Int) then (if 0 ≤ t34_0 ∧ t34_0 < (d0.Writes.length : Int) then (if (lrd d0.Writes t34_0.toNat).At = i1 then some ((lrd d0.Writes t34_0.toNat).Data) else some b7_0) else none).bind fun j'2 => some (.inl (w64 (t34_0 + (1 : Int)), j'2)) else some (.inr b7_0))
noncomputable def g_disk_Read (d0 : GDisk) (i1 : Int) : Option ((Vector UInt8 32) × Int) :=
  (g_disk_Check d0).bind fun r'1 => (if r'1 ≠ (0 : Int) then some ((Vector.replicate 32 (0 : UInt8)), r'1) else (if (i1 < (0 : Int)) ∨ (i1 ≥ (d0.Lasts.length : Int)) then some ((Vector.replicate 32 (0 : UInt8)), (6 : Int)) else if 0 ≤ i1 ∧ i1 < (d0.Lasts.length : Int) then (loopO (g_disk_Read_l0 d0 i1) ((0 : Int), (lrd d0.Lasts i1.toNat))).bind fun y'6 => some (y'6, (0 : Int)) else none))
set_option maxHeartbeats 4000000 in
set_option maxRecDepth 100000 in
theorem g_disk_Read_ac {d0 : GDisk} {i1 : Int} {r : (Vector UInt8 32) × Int} (H : g_disk_Read d0 i1 = some r) : ACp Try.prog 14 [(.agg (GDisk.cs d0)), (AV.int i1)] (.tup [(.agg (bcells r.1.toList)), (AV.int r.2)]) := by
  refine ACp_of (AC2_of_body (vs := [.c (.p (.agg (bcells r.1.toList))), .c (.p (AV.int r.2))]) Try.func14 rfl rfl (Nat.le_of_ble_eq_true rfl) rfl ?_) (fun _ => .same _)
  unfold g_disk_Read at H
  refine AW2_st [(0, .c (.p (.agg (GDisk.cs d0)))), (1, .c (.p (AV.int i1)))] [] rfl ⟨TLes.same _, TLes.same _, trivial⟩ trivial ?_
  refine AW2_seq ?_
  refine AW2_reg [0, 1, 2] rfl ?_
  refine r_op rfl rfl (MakeD.opD (n_box 2 rfl rfl) rfl rfl rfl rfl) ?_
  refine r_op rfl rfl (MakeD.opD (u_alloc 4 rfl in_32 one_32 zc_32) rfl rfl rfl rfl) ?_
  refine r_op rfl rfl (PureD.opD (p_asg rfl rfl)) ?_
  refine RunW_st [(1, .c (.p (AV.int i1))), (2, .c (.ptr 2 (0))), (4, .c (.ptr 4 (0)))] [(2, .pure (GDisk.cs d0)), (4, .pure (bcells ((Vector.replicate 32 (0 : UInt8)).toList)))] rfl ⟨TLes.same _, TLes.same _, TLes.same _, trivial⟩ ⟨rfl, rfl, trivial⟩ ?_
  refine RunW_nil ?_
  refine AW2_seq ?_
  refine AW2_seq ?_
  refine AW2_reg [0, 1, 2] rfl ?_
  refine r_op rfl rfl (PureD.opD (u_lda rfl rfl Try.underlying25 rfl in_25 rfl (Nat.succ_pos _) (Sub.refl _) (GDisk.len d0))) ?_
  obtain ⟨r'1, h1, H⟩ := bind_elim H
  refine r_op rfl rfl (PureD.opD (p_callp rfl rfl rfl Try.func10 rfl rfl (g_disk_Check_ac h1) ⟨rfl, trivial⟩)) ?_
  refine r_op rfl rfl (PureD.opD (p_asg rfl rfl)) ?_
  refine RunW_st [(1, .c (.p (AV.int i1))), (2, .c (.ptr 2 (0))), (4, .c (.ptr 4 (0))), (6, .c (.p (AV.int r'1)))] [(2, .pure (GDisk.cs d0)), (4, .pure (bcells ((Vector.replicate 32 (0 : UInt8)).toList)))] rfl ⟨TLes.same _, TLes.same _, TLes.same _, TLes.same _, trivial⟩ ⟨rfl, rfl, trivial⟩ ?_
  refine RunW_nil ?_
  refine AW2_seq ?_
  refine AW2_reg [0, 1] rfl ?_
  refine r_op rfl rfl (PureD.opD (p_move rfl rfl)) ?_
  refine r_op rfl rfl (PureD.opD (p_ine rfl rfl rfl)) ?_
  refine RunW_st [(1, .c (.p (AV.int i1))), (2, .c (.ptr 2 (0))), (4, .c (.ptr 4 (0))), (6, .c (.p (AV.int r'1))), (13, .c (.p (.bool (decide (r'1 ≠ (0 : Int))))))] [(2, .pure (GDisk.cs d0)), (4, .pure (bcells ((Vector.replicate 32 (0 : UInt8)).toList)))] rfl ⟨TLes.same _, TLes.same _, TLes.same _, TLes.same _, TLes.same _, trivial⟩ ⟨rfl, rfl, trivial⟩ ?_
  refine RunW_nil ?_
  refine AW2_if (p := r'1 ≠ (0 : Int)) rfl (fun h2 => ?_) (fun h2 => ?_)
  · replace H := ite_then h2 H
    refine AW2_seq ?_
    refine AW2_reg [0, 1, 2, 3] rfl ?_
    refine r_op rfl rfl (PureD.opD (u_blda rfl in_32 one_32 zc_32 Try.underlying32 in_5 rfl rfl)) ?_
    refine r_op rfl rfl (PureD.opD (p_move rfl rfl)) ?_
    refine r_op rfl rfl (u_st rfl rfl rfl rfl rfl in_32 ((bcells_length _).trans (vlen (Vector.replicate 32 (0 : UInt8)))) (ne_of_lt (n := 0) (Nat.lt_of_lt_of_eq (by decide) (Eq.symm ((bcells_length _).trans (vlen (Vector.replicate 32 (0 : UInt8))))))) (Upd.refl (((bcells_length _).trans (vlen (Vector.replicate 32 (0 : UInt8)))).trans ((bcells_length _).trans (vlen (Vector.replicate 32 (0 : UInt8)))).symm))) ?_
    refine r_op rfl rfl (PureD.opD (p_asg rfl rfl)) ?_
    refine RunW_st [(4, .c (.ptr 4 (0))), (5, .c (.p (AV.int r'1)))] [(4, .pure (bcells ((Vector.replicate 32 (0 : UInt8)).toList)))] rfl ⟨TLes.same _, TLes.same _, trivial⟩ ⟨rfl, trivial⟩ ?_
    refine RunW_nil ?_
    refine AW2_ret ?_
    obtain rfl := some_elim H
    exact ⟨⟨res_cella Try.underlying32 rfl in_32.sz rfl (Sub.le (Sub.refl _) ((bcells_length _).trans (vlen (Vector.replicate 32 (0 : UInt8))))) (by decide) (Sub.take (Sub.refl _) ((bcells_length _).trans (vlen (Vector.replicate 32 (0 : UInt8))))), res_tmp (.same _), trivial⟩, trivial⟩
  · replace H := ite_else h2 H
    refine AW2_st [(1, .c (.p (AV.int i1))), (2, .c (.ptr 2 (0))), (4, .c (.ptr 4 (0)))] [(2, .pure (GDisk.cs d0)), (4, .pure (bcells ((Vector.replicate 32 (0 : UInt8)).toList)))] rfl ⟨TLes.same _, TLes.same _, TLes.same _, trivial⟩ ⟨rfl, rfl, trivial⟩ ?_
    refine AW2_skip ?_
    refine AW2_seq ?_
    refine AW2_seq ?_
    refine AW2_mid (⟨[(1, .c (.p (AV.int i1))), (2, .c (.ptr 2 (0))), (4, .c (.ptr 4 (0))), (24, .c (.p (.bool (decide ((i1 < (0 : Int)) ∨ (i1 ≥ (d0.Lasts.length : Int)))))))], [(2, .pure (GDisk.cs d0)), (4, .pure (bcells ((Vector.replicate 32 (0 : UInt8)).toList)))], 46⟩ : TS) ?_ ?_
    · refine AW2_reg [0, 1, 2, 3, 4, 5, 6, 7, 8] rfl ?_
      refine r_op rfl rfl (PureD.opD (p_move rfl rfl)) ?_
      refine r_op rfl rfl (PureD.opD (p_bin rfl rfl rfl rfl)) ?_
      refine r_op rfl rfl (PureD.opD (p_move rfl rfl)) ?_
      rcases Classical.em (i1 < (0 : Int)) with h3 | h3
      · refine r_off rfl rfl rfl rfl (decide_eq_true (p := i1 < (0 : Int)) h3) rfl rfl ?_
        refine r_off rfl rfl rfl rfl (decide_eq_true (p := i1 < (0 : Int)) h3) rfl rfl ?_
        refine r_off rfl rfl rfl rfl (decide_eq_true (p := i1 < (0 : Int)) h3) rfl rfl ?_
        refine r_off rfl rfl rfl rfl (decide_eq_true (p := i1 < (0 : Int)) h3) rfl rfl ?_
        refine r_off rfl rfl rfl rfl (decide_eq_true (p := i1 < (0 : Int)) h3) rfl rfl ?_
        refine r_op rfl rfl (PureD.opD (p_pkt rfl rfl (decide_eq_true (p := i1 < (0 : Int)) h3) (tb (decide_eq_true (p := (i1 < (0 : Int)) ∨ (i1 ≥ (d0.Lasts.length : Int))) (Or.inl h3)).symm))) ?_
        refine RunW_st [(1, .c (.p (AV.int i1))), (2, .c (.ptr 2 (0))), (4, .c (.ptr 4 (0))), (24, .c (.p (.bool (decide ((i1 < (0 : Int)) ∨ (i1 ≥ (d0.Lasts.length : Int)))))))] [(2, .pure (GDisk.cs d0)), (4, .pure (bcells ((Vector.replicate 32 (0 : UInt8)).toList)))] rfl ⟨TLes.same _, TLes.same _, TLes.same _, TLes.same _, trivial⟩ ⟨rfl, rfl, trivial⟩ ?_
        exact RunW_nil rfl
      · refine r_on rfl rfl rfl rfl (decide_eq_false (p := i1 < (0 : Int)) h3) rfl (PureD.opD (p_move rfl rfl)) ?_
        refine r_on rfl rfl rfl rfl (decide_eq_false (p := i1 < (0 : Int)) h3) rfl (PureD.opD (u_fa rfl rfl Try.underlying25 rfl in_22 (Nat.succ_ne_zero _) rfl rfl (ne_of_lt (n := 0) (Nat.lt_of_lt_of_eq (by decide) (Eq.symm (GDisk.len d0)))))) ?_
        refine r_on rfl rfl rfl rfl (decide_eq_false (p := i1 < (0 : Int)) h3) rfl (PureD.opD (u_ld rfl rfl Try.underlying22 rfl rfl ((Sub.refl _).trans (GDisk.sub0 d0)))) ?_
        refine r_on rfl rfl rfl rfl (decide_eq_false (p := i1 < (0 : Int)) h3) rfl (PureD.opD (p_lenl rfl Try.underlying22 rfl rfl)) ?_
        refine r_on rfl rfl rfl rfl (decide_eq_false (p := i1 < (0 : Int)) h3) rfl (PureD.opD (p_bin rfl rfl rfl rfl)) ?_
        refine r_op rfl rfl (PureD.opD (p_pkf rfl rfl (decide_eq_false (p := i1 < (0 : Int)) h3) (tb ((or_l (p := i1 < (0 : Int)) (q := i1 ≥ (d0.Lasts.length : Int)) h3))))) ?_
        refine RunW_st [(1, .c (.p (AV.int i1))), (2, .c (.ptr 2 (0))), (4, .c (.ptr 4 (0))), (24, .c (.p (.bool (decide ((i1 < (0 : Int)) ∨ (i1 ≥ (d0.Lasts.length : Int)))))))] [(2, .pure (GDisk.cs d0)), (4, .pure (bcells ((Vector.replicate 32 (0 : UInt8)).toList)))] rfl ⟨TLes.same _, TLes.same _, TLes.same _, TLes.same _, trivial⟩ ⟨rfl, rfl, trivial⟩ ?_
        exact RunW_nil rfl
    · refine AW2_if (p := (i1 < (0 : Int)) ∨ (i1 ≥ (d0.Lasts.length : Int))) rfl (fun h4 => ?_) (fun h4 => ?_)
      · replace H := ite_then h4 H
        refine AW2_seq ?_
        refine AW2_reg [0, 1, 2] rfl ?_
        refine r_op rfl rfl (PureD.opD (u_blda rfl in_32 one_32 zc_32 Try.underlying32 in_5 rfl rfl)) ?_
        refine r_op rfl rfl (u_st rfl rfl rfl rfl rfl in_32 ((bcells_length _).trans (vlen (Vector.replicate 32 (0 : UInt8)))) (ne_of_lt (n := 0) (Nat.lt_of_lt_of_eq (by decide) (Eq.symm ((bcells_length _).trans (vlen (Vector.replicate 32 (0 : UInt8))))))) (Upd.refl (((bcells_length _).trans (vlen (Vector.replicate 32 (0 : UInt8)))).trans ((bcells_length _).trans (vlen (Vector.replicate 32 (0 : UInt8)))).symm))) ?_
        refine r_op rfl rfl (PureD.opD (p_asg rfl rfl)) ?_
        refine RunW_st [(4, .c (.ptr 4 (0))), (5, .c (.p (AV.int (6 : Int))))] [(4, .pure (bcells ((Vector.replicate 32 (0 : UInt8)).toList)))] rfl ⟨TLes.same _, TLes.same _, trivial⟩ ⟨rfl, trivial⟩ ?_
        refine RunW_nil ?_
        refine AW2_ret ?_
        obtain rfl := some_elim H
        exact ⟨⟨res_cella Try.underlying32 rfl in_32.sz rfl (Sub.le (Sub.refl _) ((bcells_length _).trans (vlen (Vector.replicate 32 (0 : UInt8))))) (by decide) (Sub.take (Sub.refl _) ((bcells_length _).trans (vlen (Vector.replicate 32 (0 : UInt8))))), res_tmp (.same _), trivial⟩, trivial⟩
      · replace H := ite_else h4 H
        refine AW2_st [(1, .c (.p (AV.int i1))), (2, .c (.ptr 2 (0))), (4, .c (.ptr 4 (0)))] [(2, .pure (GDisk.cs d0)), (4, .pure (bcells ((Vector.replicate 32 (0 : UInt8)).toList)))] rfl ⟨TLes.same _, TLes.same _, TLes.same _, trivial⟩ ⟨rfl, rfl, trivial⟩ ?_
        refine AW2_skip ?_
        refine AW2_seq ?_
        refine AW2_reg [0, 1, 2, 3, 4, 5, 6] rfl ?_
        refine r_op rfl rfl (PureD.opD (u_fa rfl rfl Try.underlying25 rfl in_22 (Nat.succ_ne_zero _) rfl rfl (ne_of_lt (n := 0) (Nat.lt_of_lt_of_eq (by decide) (Eq.symm (GDisk.len d0)))))) ?_
        refine r_op rfl rfl (PureD.opD (u_ld rfl rfl Try.underlying22 rfl rfl ((Sub.refl _).trans (GDisk.sub0 d0)))) ?_
        refine r_op rfl rfl (PureD.opD (p_move rfl rfl)) ?_
        obtain ⟨h5, H⟩ := chk_elim H
        refine r_op rfl rfl (PureD.opD (u_ixl rfl rfl Try.underlying22 in_32 rfl rfl (ixe h5) (ixn h5) (fne (fun x => ((bcells_length _).trans (vlen x))) (by decide) (ixn h5)))) ?_
        refine r_op rfl rfl (PureD.opD (u_lda rfl rfl Try.underlying32 rfl in_32 rfl (Nat.succ_pos _) (Sub.fm default (fun x => ((bcells_length _).trans (vlen x))) (ixn h5)) ((bcells_length _).trans (vlen (lrd d0.Lasts i1.toNat))))) ?_
        refine r_op rfl rfl (MakeD.opD (u_alloc 7 rfl in_32 one_32 zc_32) rfl rfl rfl rfl) ?_
        refine r_op rfl rfl (u_st rfl rfl rfl rfl rfl in_32 ((bcells_length _).trans (vlen (lrd d0.Lasts i1.toNat))) (ne_of_lt (n := 0) (Nat.lt_of_lt_of_eq (by decide) (Eq.symm ((bcells_length _).trans (vlen (Vector.replicate 32 (0 : UInt8))))))) (Upd.refl (((bcells_length _).trans (vlen (lrd d0.Lasts i1.toNat))).trans ((bcells_length _).trans (vlen (Vector.replicate 32 (0 : UInt8)))).symm))) ?_
        refine RunW_st [(1, .c (.p (AV.int i1))), (2, .c (.ptr 2 (0))), (4, .c (.ptr 4 (0))), (7, .c (.ptr 7 (0)))] [(2, .pure (GDisk.cs d0)), (4, .pure (bcells ((Vector.replicate 32 (0 : UInt8)).toList))), (7, .pure (bcells ((lrd d0.Lasts i1.toNat).toList)))] rfl ⟨TLes.same _, TLes.same _, TLes.same _, TLes.same _, trivial⟩ ⟨rfl, rfl, rfl, trivial⟩ ?_
        refine RunW_nil ?_
        refine AW2_seq ?_
        refine AW2_seq ?_
        refine AW2_reg [0, 1, 2, 3] rfl ?_
        refine r_op rfl rfl (PureD.opD (u_fa rfl rfl Try.underlying25 rfl in_23 (Nat.succ_ne_zero _) rfl rfl (ne_of_lt (n := 0) (Nat.lt_of_lt_of_eq (by decide) (Eq.symm (GDisk.len d0)))))) ?_
        refine r_op rfl rfl (PureD.opD (u_ld rfl rfl Try.underlying23 rfl rfl ((Sub.refl _).trans (GDisk.sub1 d0)))) ?_
        refine r_op rfl rfl (PureD.opD (p_lenl rfl Try.underlying23 rfl rfl)) ?_
        refine r_op rfl rfl (PureD.opD (p_move rfl rfl)) ?_
        refine RunW_st [(1, .c (.p (AV.int i1))), (4, .c (.ptr 4 (0))), (7, .c (.ptr 7 (0))), (32, .c (.p ((fun q : List GPut => AV.lst (q.flatMap GPut.cs) q.length) d0.Writes))), (33, .c (.p (AV.int (d0.Writes.length : Int)))), (34, .c (.p (AV.int (0 : Int))))] [(4, .pure (bcells ((Vector.replicate 32 (0 : UInt8)).toList))), (7, .pure (bcells ((lrd d0.Lasts i1.toNat).toList)))] rfl ⟨TLes.same _, TLes.same _, TLes.same _, TLes.same _, TLes.same _, TLes.same _, trivial⟩ ⟨rfl, rfl, trivial⟩ ?_
        refine RunW_nil ?_
        refine AW2_block ?_
        refine AW2_st [(1, .c (.p (AV.int i1))), (4, .c (.ptr 4 (0))), (7, .c (.ptr 7 (0))), (32, .c (.p ((fun q : List GPut => AV.lst (q.flatMap GPut.cs) q.length) d0.Writes))), (33, .c (.p (AV.int (d0.Writes.length : Int)))), (34, .c (.p (AV.int (0 : Int))))] [(4, .pure (bcells ((Vector.replicate 32 (0 : UInt8)).toList))), (7, .pure (bcells ((lrd d0.Lasts i1.toNat).toList)))] rfl ⟨TLes.same _, TLes.same _, TLes.same _, TLes.same _, TLes.same _, TLes.same _, trivial⟩ ⟨rfl, rfl, trivial⟩ ?_
        obtain ⟨y'6, h10, H⟩ := bind_elim H
        refine AW2_loopO (fun a'3 : Int × (Vector UInt8 32) => (⟨[(1, .c (.p (AV.int i1))), (4, .c (.ptr 4 (0))), (7, .c (.ptr 7 (0))), (32, .c (.p ((fun q : List GPut => AV.lst (q.flatMap GPut.cs) q.length) d0.Writes))), (33, .c (.p (AV.int (d0.Writes.length : Int)))), (34, .c (.p (AV.int a'3.1)))], [(4, .pure (bcells ((Vector.replicate 32 (0 : UInt8)).toList))), (7, .pure (bcells a'3.2.toList))], 46⟩ : TS)) (fun (y'4 : ((Vector UInt8 32))) e s' => e = Go.Exit.exit 0 ∧ s' = (⟨[(4, .c (.ptr 4 (0))), (7, .c (.ptr 7 (0)))], [(4, .pure (bcells ((Vector.replicate 32 (0 : UInt8)).toList))), (7, .pure (bcells y'4.toList))], 46⟩ : TS)) h10 rfl (fun a x hx => ?_) (fun e s' hs => ?_)
        · clear H
          obtain ⟨t34_0, b7_0⟩ := a
          have H := hx
          clear hx
          unfold g_disk_Read_l0 at H
          refine AW2_seq ?_
          refine AW2_reg [0] rfl ?_
          refine r_op rfl rfl (PureD.opD (p_bin rfl rfl rfl rfl)) ?_
          refine RunW_st [(1, .c (.p (AV.int i1))), (4, .c (.ptr 4 (0))), (7, .c (.ptr 7 (0))), (32, .c (.p ((fun q : List GPut => AV.lst (q.flatMap GPut.cs) q.length) d0.Writes))), (33, .c (.p (AV.int (d0.Writes.length : Int)))), (34, .c (.p (AV.int t34_0))), (35, .c (.p (.bool (decide (t34_0 < (d0.Writes.length : Int))))))] [(4, .pure (bcells ((Vector.replicate 32 (0 : UInt8)).toList))), (7, .pure (bcells b7_0.toList))] rfl ⟨TLes.same _, TLes.same _, TLes.same _, TLes.same _, TLes.same _, TLes.same _, TLes.same _, trivial⟩ ⟨rfl, rfl, trivial⟩ ?_
          refine RunW_nil ?_
          refine AW2_seq ?_
          refine AW2_if (p := t34_0 < (d0.Writes.length : Int)) rfl (fun h6 => ?_) (fun h6 => ?_)
          · replace H := ite_then h6 H
            refine AW2_st [(1, .c (.p (AV.int i1))), (4, .c (.ptr 4 (0))), (7, .c (.ptr 7 (0))), (32, .c (.p ((fun q : List GPut => AV.lst (q.flatMap GPut.cs) q.length) d0.Writes))), (33, .c (.p (AV.int (d0.Writes.length : Int)))), (34, .c (.p (AV.int t34_0)))] [(4, .pure (bcells ((Vector.replicate 32 (0 : UInt8)).toList))), (7, .pure (bcells b7_0.toList))] rfl ⟨TLes.same _, TLes.same _, TLes.same _, TLes.same _, TLes.same _, TLes.same _, trivial⟩ ⟨rfl, rfl, trivial⟩ ?_
            refine AW2_skip ?_
            refine AW2_seq ?_
            obtain ⟨j'2, h7, H⟩ := bind_elim H
            refine AW2_mid (⟨[(1, .c (.p (AV.int i1))), (4, .c (.ptr 4 (0))), (7, .c (.ptr 7 (0))), (32, .c (.p ((fun q : List GPut => AV.lst (q.flatMap GPut.cs) q.length) d0.Writes))), (33, .c (.p (AV.int (d0.Writes.length : Int)))), (34, .c (.p (AV.int t34_0)))], [(4, .pure (bcells ((Vector.replicate 32 (0 : UInt8)).toList))), (7, .pure (bcells j'2.toList))], 46⟩ : TS) ?_ ?_
            · clear H
              have H := h7
              clear h7
              refine AW2_block ?_
              refine AW2_seq ?_
              refine AW2_reg [0, 1, 2, 3] rfl ?_
              obtain ⟨h8, H⟩ := chk_elim H
              refine r_op rfl rfl (PureD.opD (u_ixl rfl rfl Try.underlying23 in_70 rfl rfl (ixe h8) (ixn h8) (fne (fun x => (GPut.len x)) (by decide) (ixn h8)))) ?_
              refine r_op rfl rfl (PureD.opD (u_lda rfl rfl Try.underlying70 rfl in_70 rfl (Nat.succ_pos _) (Sub.fm default (fun x => (GPut.len x)) (ixn h8)) (GPut.len (lrd d0.Writes t34_0.toNat)))) ?_
              refine r_op rfl rfl (MakeD.opD (u_alloc 9 rfl in_70 one_70 zc_70) rfl rfl rfl rfl) ?_
              refine r_op rfl rfl (u_st rfl rfl rfl rfl rfl in_70 (GPut.len (lrd d0.Writes t34_0.toNat)) (ne_of_lt (n := 0) (Nat.lt_of_lt_of_eq (by decide) (Eq.symm (GPut.len GPut.zero)))) (Upd.refl ((GPut.len (lrd d0.Writes t34_0.toNat)).trans (GPut.len GPut.zero).symm))) ?_
              refine RunW_st [(1, .c (.p (AV.int i1))), (4, .c (.ptr 4 (0))), (7, .c (.ptr 7 (0))), (9, .c (.ptr 9 (0))), (32, .c (.p ((fun q : List GPut => AV.lst (q.flatMap GPut.cs) q.length) d0.Writes))), (33, .c (.p (AV.int (d0.Writes.length : Int)))), (34, .c (.p (AV.int t34_0)))] [(4, .pure (bcells ((Vector.replicate 32 (0 : UInt8)).toList))), (7, .pure (bcells b7_0.toList)), (9, .pure (GPut.cs (lrd d0.Writes t34_0.toNat)))] rfl ⟨TLes.same _, TLes.same _, TLes.same _, TLes.same _, TLes.same _, TLes.same _, TLes.same _, trivial⟩ ⟨rfl, rfl, rfl, trivial⟩ ?_
              refine RunW_nil ?_
              refine AW2_seq ?_
              refine AW2_reg [0, 1, 2, 3] rfl ?_
              refine r_op rfl rfl (PureD.opD (u_fa rfl rfl Try.underlying70 rfl in_3 (Nat.succ_ne_zero _) rfl rfl (ne_of_lt (n := 0) (Nat.lt_of_lt_of_eq (by decide) (Eq.symm (GPut.len (lrd d0.Writes t34_0.toNat))))))) ?_
              refine r_op rfl rfl (PureD.opD (u_ld rfl rfl Try.underlying3 rfl rfl ((Sub.refl _).trans (GPut.sub0 (lrd d0.Writes t34_0.toNat))))) ?_
              refine r_op rfl rfl (PureD.opD (p_move rfl rfl)) ?_
              refine r_op rfl rfl (PureD.opD (p_ieq rfl rfl rfl)) ?_
              refine RunW_st [(1, .c (.p (AV.int i1))), (4, .c (.ptr 4 (0))), (7, .c (.ptr 7 (0))), (9, .c (.ptr 9 (0))), (32, .c (.p ((fun q : List GPut => AV.lst (q.flatMap GPut.cs) q.length) d0.Writes))), (33, .c (.p (AV.int (d0.Writes.length : Int)))), (34, .c (.p (AV.int t34_0))), (41, .c (.p (.bool (decide ((lrd d0.Writes t34_0.toNat).At = i1)))))] [(4, .pure (bcells ((Vector.replicate 32 (0 : UInt8)).toList))), (7, .pure (bcells b7_0.toList)), (9, .pure (GPut.cs (lrd d0.Writes t34_0.toNat)))] rfl ⟨TLes.same _, TLes.same _, TLes.same _, TLes.same _, TLes.same _, TLes.same _, TLes.same _, TLes.same _, trivial⟩ ⟨rfl, rfl, rfl, trivial⟩ ?_
              refine RunW_nil ?_
              refine AW2_if (p := (lrd d0.Writes t34_0.toNat).At = i1) rfl (fun h9 => ?_) (fun h9 => ?_)
              · replace H := ite_then h9 H
                refine AW2_reg [0, 1, 2] rfl ?_
                refine r_op rfl rfl (PureD.opD (u_fa rfl rfl Try.underlying70 rfl in_32 (Nat.succ_ne_zero _) rfl rfl (ne_of_lt (n := 0) (Nat.lt_of_lt_of_eq (by decide) (Eq.symm (GPut.len (lrd d0.Writes t34_0.toNat))))))) ?_
                refine r_op rfl rfl (PureD.opD (u_lda rfl rfl Try.underlying32 rfl in_32 rfl (Nat.succ_pos _) ((Sub.refl _).trans (GPut.sub1 (lrd d0.Writes t34_0.toNat))) ((bcells_length _).trans (vlen ((lrd d0.Writes t34_0.toNat).Data))))) ?_
                refine r_op rfl rfl (u_st rfl rfl rfl rfl rfl in_32 ((bcells_length _).trans (vlen ((lrd d0.Writes t34_0.toNat).Data))) (ne_of_lt (n := 0) (Nat.lt_of_lt_of_eq (by decide) (Eq.symm ((bcells_length _).trans (vlen b7_0))))) (Upd.refl (((bcells_length _).trans (vlen ((lrd d0.Writes t34_0.toNat).Data))).trans ((bcells_length _).trans (vlen b7_0)).symm))) ?_
                refine RunW_st [(1, .c (.p (AV.int i1))), (4, .c (.ptr 4 (0))), (7, .c (.ptr 7 (0))), (32, .c (.p ((fun q : List GPut => AV.lst (q.flatMap GPut.cs) q.length) d0.Writes))), (33, .c (.p (AV.int (d0.Writes.length : Int)))), (34, .c (.p (AV.int t34_0)))] [(4, .pure (bcells ((Vector.replicate 32 (0 : UInt8)).toList))), (7, .pure (bcells (((lrd d0.Writes t34_0.toNat).Data).toList)))] rfl ⟨TLes.same _, TLes.same _, TLes.same _, TLes.same _, TLes.same _, TLes.same _, trivial⟩ ⟨rfl, rfl, trivial⟩ ?_
                refine RunW_nil ?_
                obtain rfl := some_elim H
                exact rfl
              · replace H := ite_else h9 H
                refine AW2_st [(1, .c (.p (AV.int i1))), (4, .c (.ptr 4 (0))), (7, .c (.ptr 7 (0))), (32, .c (.p ((fun q : List GPut => AV.lst (q.flatMap GPut.cs) q.length) d0.Writes))), (33, .c (.p (AV.int (d0.Writes.length : Int)))), (34, .c (.p (AV.int t34_0)))] [(4, .pure (bcells ((Vector.replicate 32 (0 : UInt8)).toList))), (7, .pure (bcells b7_0.toList))] rfl ⟨TLes.same _, TLes.same _, TLes.same _, TLes.same _, TLes.same _, TLes.same _, trivial⟩ ⟨rfl, rfl, trivial⟩ ?_
                refine AW2_skip ?_
                obtain rfl := some_elim H
                exact rfl
            · refine AW2_reg [0, 1] rfl ?_
              refine r_op rfl rfl (PureD.opD (p_bin rfl rfl rfl rfl)) ?_
              refine r_op rfl rfl (PureD.opD (p_move rfl rfl)) ?_
              refine RunW_st [(1, .c (.p (AV.int i1))), (4, .c (.ptr 4 (0))), (7, .c (.ptr 7 (0))), (32, .c (.p ((fun q : List GPut => AV.lst (q.flatMap GPut.cs) q.length) d0.Writes))), (33, .c (.p (AV.int (d0.Writes.length : Int)))), (34, .c (.p (AV.int (w64 (t34_0 + (1 : Int))))))] [(4, .pure (bcells ((Vector.replicate 32 (0 : UInt8)).toList))), (7, .pure (bcells j'2.toList))] rfl ⟨TLes.same _, TLes.same _, TLes.same _, TLes.same _, TLes.same _, TLes.same _, trivial⟩ ⟨rfl, rfl, trivial⟩ ?_
              refine RunW_nil ?_
              obtain rfl := some_elim H
              exact ⟨rfl, rfl⟩
          · replace H := ite_else h6 H
            refine AW2_st [(4, .c (.ptr 4 (0))), (7, .c (.ptr 7 (0)))] [(4, .pure (bcells ((Vector.replicate 32 (0 : UInt8)).toList))), (7, .pure (bcells b7_0.toList))] rfl ⟨TLes.same _, TLes.same _, trivial⟩ ⟨rfl, rfl, trivial⟩ ?_
            refine AW2_exit ?_
            obtain rfl := some_elim H
            exact ⟨rfl, rfl⟩
        · obtain ⟨rfl, rfl⟩ := hs
          refine ⟨by simp, ?_⟩
          refine blockQ2_exit ?_
          refine AW2_seq ?_
          refine AW2_reg [0, 1, 2] rfl ?_
          refine r_op rfl rfl (PureD.opD (u_lda rfl rfl Try.underlying32 rfl in_32 rfl (Nat.succ_pos _) (Sub.refl _) ((bcells_length _).trans (vlen y'6)))) ?_
          refine r_op rfl rfl (u_st rfl rfl rfl rfl rfl in_32 ((bcells_length _).trans (vlen y'6)) (ne_of_lt (n := 0) (Nat.lt_of_lt_of_eq (by decide) (Eq.symm ((bcells_length _).trans (vlen (Vector.replicate 32 (0 : UInt8))))))) (Upd.refl (((bcells_length _).trans (vlen y'6)).trans ((bcells_length _).trans (vlen (Vector.replicate 32 (0 : UInt8)))).symm))) ?_
          refine r_op rfl rfl (PureD.opD (p_asg rfl rfl)) ?_
          refine RunW_st [(4, .c (.ptr 4 (0))), (5, .c (.p (AV.int (0 : Int))))] [(4, .pure (bcells y'6.toList))] rfl ⟨TLes.same _, TLes.same _, trivial⟩ ⟨rfl, trivial⟩ ?_
          refine RunW_nil ?_
          refine AW2_ret ?_
          obtain rfl := some_elim H
          exact ⟨⟨res_cella Try.underlying32 rfl in_32.sz rfl (Sub.le (Sub.refl _) ((bcells_length _).trans (vlen y'6))) (by decide) (Sub.take (Sub.refl _) ((bcells_length _).trans (vlen y'6))), res_tmp (.same _), trivial⟩, trivial⟩

/-! chirographref.DiskFault -/
noncomputable def g_ref_DiskFault_l0 (d0 : GDisk) : Int → Option (Int ⊕ (Int ⊕ Unit))
  | t24_0 => (if t24_0 < (d0.Writes.length : Int) then if 0 ≤ t24_0 ∧ t24_0 < (d0.Writes.length : Int) then (if ((lrd d0.Writes t24_0.toNat).At < (0 : Int)) ∨ ((lrd d0.Writes t24_0.toNat).At ≥ (d0.Lasts.length : Int)) then some (.inr (.inl (6 : Int))) else some (.inl (w64 (t24_0 + (1 : Int))))) else none else some (.inr (.inr ())))
noncomputable def g_ref_DiskFault (d0 : GDisk) : Option (Int) :=
  (if (((d0.Lasts.length : Int) = (0 : Int)) ∨ ((d0.Lasts.length : Int) > (400 : Int))) ∨ ((d0.Writes.length : Int) > (60 : Int)) then some (1 : Int) else (loopO (g_ref_DiskFault_l0 d0) (0 : Int)).bind fun o'4 => match o'4 with | .inl y'5 => some y'5 | .inr (y'6) => some (0 : Int))
set_option maxHeartbeats 4000000 in
set_option maxRecDepth 100000 in
theorem g_ref_DiskFault_ac {d0 : GDisk} {r : Int} (H : g_ref_DiskFault d0 = some r) : ACp Try.prog 12 [(.agg (GDisk.cs d0))] (AV.int r) := by
  refine ACp_of (AC2_of_body (vs := [.c (.p (AV.int r))]) Try.func12 rfl rfl (Nat.le_of_ble_eq_true rfl) rfl ?_) (fun _ => .same _)
  unfold g_ref_DiskFault at H
  refine AW2_st [(0, .c (.p (.agg (GDisk.cs d0))))] [] rfl ⟨TLes.same _, trivial⟩ trivial ?_
  refine AW2_seq ?_
  refine AW2_reg [0, 1] rfl ?_
  refine r_op rfl rfl (MakeD.opD (n_box 1 rfl rfl) rfl rfl rfl rfl) ?_
  refine r_op rfl rfl (PureD.opD (p_asg rfl rfl)) ?_
  refine RunW_st [(1, .c (.ptr 1 (0)))] [(1, .pure (GDisk.cs d0))] rfl ⟨TLes.same _, trivial⟩ ⟨rfl, trivial⟩ ?_
  refine RunW_nil ?_
  refine AW2_seq ?_
  refine AW2_reg [0, 1, 2, 3] rfl ?_
  refine r_op rfl rfl (PureD.opD (u_fa rfl rfl Try.underlying25 rfl in_22 (Nat.succ_ne_zero _) rfl rfl (ne_of_lt (n := 0) (Nat.lt_of_lt_of_eq (by decide) (Eq.symm (GDisk.len d0)))))) ?_
  refine r_op rfl rfl (PureD.opD (u_ld rfl rfl Try.underlying22 rfl rfl ((Sub.refl _).trans (GDisk.sub0 d0)))) ?_
  refine r_op rfl rfl (PureD.opD (p_lenl rfl Try.underlying22 rfl rfl)) ?_
  refine r_op rfl rfl (PureD.opD (p_asg rfl rfl)) ?_
  refine RunW_st [(1, .c (.ptr 1 (0))), (3, .c (.p (AV.int (d0.Lasts.length : Int))))] [(1, .pure (GDisk.cs d0))] rfl ⟨TLes.same _, TLes.same _, trivial⟩ ⟨rfl, trivial⟩ ?_
  refine RunW_nil ?_
  refine AW2_seq ?_
  refine AW2_seq ?_
  refine AW2_mid (⟨[(1, .c (.ptr 1 (0))), (3, .c (.p (AV.int (d0.Lasts.length : Int)))), (20, .c (.p (.bool (decide ((((d0.Lasts.length : Int) = (0 : Int)) ∨ ((d0.Lasts.length : Int) > (400 : Int))) ∨ ((d0.Writes.length : Int) > (60 : Int)))))))], [(1, .pure (GDisk.cs d0))], 38⟩ : TS) ?_ ?_
  · refine AW2_reg [0, 1, 2, 3, 4, 5, 6, 7, 8, 9, 10, 11] rfl ?_
    refine r_op rfl rfl (PureD.opD (p_move rfl rfl)) ?_
    refine r_op rfl rfl (PureD.opD (p_ieq rfl rfl rfl)) ?_
    refine r_op rfl rfl (PureD.opD (p_move rfl rfl)) ?_
    rcases Classical.em ((d0.Lasts.length : Int) = (0 : Int)) with h1 | h1
    · refine r_off rfl rfl rfl rfl (decide_eq_true (p := (d0.Lasts.length : Int) = (0 : Int)) h1) rfl rfl ?_
      refine r_off rfl rfl rfl rfl (decide_eq_true (p := (d0.Lasts.length : Int) = (0 : Int)) h1) rfl rfl ?_
      refine r_op rfl rfl (PureD.opD (p_pkt rfl rfl (decide_eq_true (p := (d0.Lasts.length : Int) = (0 : Int)) h1) (tb (decide_eq_true (p := ((d0.Lasts.length : Int) = (0 : Int)) ∨ ((d0.Lasts.length : Int) > (400 : Int))) (Or.inl h1)).symm))) ?_
      refine r_op rfl rfl (PureD.opD (p_move rfl rfl)) ?_
      refine r_off rfl rfl rfl rfl (decide_eq_true (p := ((d0.Lasts.length : Int) = (0 : Int)) ∨ ((d0.Lasts.length : Int) > (400 : Int))) (Or.inl h1)) rfl rfl ?_
      refine r_off rfl rfl rfl rfl (decide_eq_true (p := ((d0.Lasts.length : Int) = (0 : Int)) ∨ ((d0.Lasts.length : Int) > (400 : Int))) (Or.inl h1)) rfl rfl ?_
      refine r_off rfl rfl rfl rfl (decide_eq_true (p := ((d0.Lasts.length : Int) = (0 : Int)) ∨ ((d0.Lasts.length : Int) > (400 : Int))) (Or.inl h1)) rfl rfl ?_
      refine r_off rfl rfl rfl rfl (decide_eq_true (p := ((d0.Lasts.length : Int) = (0 : Int)) ∨ ((d0.Lasts.length : Int) > (400 : Int))) (Or.inl h1)) rfl rfl ?_
      refine r_op rfl rfl (PureD.opD (p_pkt rfl rfl (decide_eq_true (p := ((d0.Lasts.length : Int) = (0 : Int)) ∨ ((d0.Lasts.length : Int) > (400 : Int))) (Or.inl h1)) (tb (decide_eq_true (p := (((d0.Lasts.length : Int) = (0 : Int)) ∨ ((d0.Lasts.length : Int) > (400 : Int))) ∨ ((d0.Writes.length : Int) > (60 : Int))) (Or.inl (Or.inl h1))).symm))) ?_
      refine RunW_st [(1, .c (.ptr 1 (0))), (3, .c (.p (AV.int (d0.Lasts.length : Int)))), (20, .c (.p (.bool (decide ((((d0.Lasts.length : Int) = (0 : Int)) ∨ ((d0.Lasts.length : Int) > (400 : Int))) ∨ ((d0.Writes.length : Int) > (60 : Int)))))))] [(1, .pure (GDisk.cs d0))] rfl ⟨TLes.same _, TLes.same _, TLes.same _, trivial⟩ ⟨rfl, trivial⟩ ?_
      exact RunW_nil rfl
    · refine r_on rfl rfl rfl rfl (decide_eq_false (p := (d0.Lasts.length : Int) = (0 : Int)) h1) rfl (PureD.opD (p_move rfl rfl)) ?_
      refine r_on rfl rfl rfl rfl (decide_eq_false (p := (d0.Lasts.length : Int) = (0 : Int)) h1) rfl (PureD.opD (p_bin rfl rfl rfl rfl)) ?_
      refine r_op rfl rfl (PureD.opD (p_pkf rfl rfl (decide_eq_false (p := (d0.Lasts.length : Int) = (0 : Int)) h1) (tb ((or_l (p := (d0.Lasts.length : Int) = (0 : Int)) (q := (d0.Lasts.length : Int) > (400 : Int)) h1))))) ?_
      refine r_op rfl rfl (PureD.opD (p_move rfl rfl)) ?_
      rcases Classical.em ((d0.Lasts.length : Int) > (400 : Int)) with h2 | h2
      · refine r_off rfl rfl rfl rfl (decide_eq_true (p := ((d0.Lasts.length : Int) = (0 : Int)) ∨ ((d0.Lasts.length : Int) > (400 : Int))) (Or.inr h2)) rfl rfl ?_
        refine r_off rfl rfl rfl rfl (decide_eq_true (p := ((d0.Lasts.length : Int) = (0 : Int)) ∨ ((d0.Lasts.length : Int) > (400 : Int))) (Or.inr h2)) rfl rfl ?_
        refine r_off rfl rfl rfl rfl (decide_eq_true (p := ((d0.Lasts.length : Int) = (0 : Int)) ∨ ((d0.Lasts.length : Int) > (400 : Int))) (Or.inr h2)) rfl rfl ?_
        refine r_off rfl rfl rfl rfl (decide_eq_true (p := ((d0.Lasts.length : Int) = (0 : Int)) ∨ ((d0.Lasts.length : Int) > (400 : Int))) (Or.inr h2)) rfl rfl ?_
        refine r_op rfl rfl (PureD.opD (p_pkt rfl rfl (decide_eq_true (p := ((d0.Lasts.length : Int) = (0 : Int)) ∨ ((d0.Lasts.length : Int) > (400 : Int))) (Or.inr h2)) (tb (decide_eq_true (p := (((d0.Lasts.length : Int) = (0 : Int)) ∨ ((d0.Lasts.length : Int) > (400 : Int))) ∨ ((d0.Writes.length : Int) > (60 : Int))) (Or.inl (Or.inr h2))).symm))) ?_
        refine RunW_st [(1, .c (.ptr 1 (0))), (3, .c (.p (AV.int (d0.Lasts.length : Int)))), (20, .c (.p (.bool (decide ((((d0.Lasts.length : Int) = (0 : Int)) ∨ ((d0.Lasts.length : Int) > (400 : Int))) ∨ ((d0.Writes.length : Int) > (60 : Int)))))))] [(1, .pure (GDisk.cs d0))] rfl ⟨TLes.same _, TLes.same _, TLes.same _, trivial⟩ ⟨rfl, trivial⟩ ?_
        exact RunW_nil rfl
      · refine r_on rfl rfl rfl rfl (decide_eq_false (p := ((d0.Lasts.length : Int) = (0 : Int)) ∨ ((d0.Lasts.length : Int) > (400 : Int))) (not_or.2 ⟨h1, h2⟩)) rfl (PureD.opD (u_fa rfl rfl Try.underlying25 rfl in_23 (Nat.succ_ne_zero _) rfl rfl (ne_of_lt (n := 0) (Nat.lt_of_lt_of_eq (by decide) (Eq.symm (GDisk.len d0)))))) ?_
        refine r_on rfl rfl rfl rfl (decide_eq_false (p := ((d0.Lasts.length : Int) = (0 : Int)) ∨ ((d0.Lasts.length : Int) > (400 : Int))) (not_or.2 ⟨h1, h2⟩)) rfl (PureD.opD (u_ld rfl rfl Try.underlying23 rfl rfl ((Sub.refl _).trans (GDisk.sub1 d0)))) ?_
        refine r_on rfl rfl rfl rfl (decide_eq_false (p := ((d0.Lasts.length : Int) = (0 : Int)) ∨ ((d0.Lasts.length : Int) > (400 : Int))) (not_or.2 ⟨h1, h2⟩)) rfl (PureD.opD (p_lenl rfl Try.underlying23 rfl rfl)) ?_
        refine r_on rfl rfl rfl rfl (decide_eq_false (p := ((d0.Lasts.length : Int) = (0 : Int)) ∨ ((d0.Lasts.length : Int) > (400 : Int))) (not_or.2 ⟨h1, h2⟩)) rfl (PureD.opD (p_bin rfl rfl rfl rfl)) ?_
        refine r_op rfl rfl (PureD.opD (p_pkf rfl rfl (decide_eq_false (p := ((d0.Lasts.length : Int) = (0 : Int)) ∨ ((d0.Lasts.length : Int) > (400 : Int))) (not_or.2 ⟨h1, h2⟩)) (tb ((or_l (p := ((d0.Lasts.length : Int) = (0 : Int)) ∨ ((d0.Lasts.length : Int) > (400 : Int))) (q := (d0.Writes.length : Int) > (60 : Int)) (not_or.2 ⟨h1, h2⟩)))))) ?_
        refine RunW_st [(1, .c (.ptr 1 (0))), (3, .c (.p (AV.int (d0.Lasts.length : Int)))), (20, .c (.p (.bool (decide ((((d0.Lasts.length : Int) = (0 : Int)) ∨ ((d0.Lasts.length : Int) > (400 : Int))) ∨ ((d0.Writes.length : Int) > (60 : Int)))))))] [(1, .pure (GDisk.cs d0))] rfl ⟨TLes.same _, TLes.same _, TLes.same _, trivial⟩ ⟨rfl, trivial⟩ ?_
        exact RunW_nil rfl
  · refine AW2_if (p := (((d0.Lasts.length : Int) = (0 : Int)) ∨ ((d0.Lasts.length : Int) > (400 : Int))) ∨ ((d0.Writes.length : Int) > (60 : Int))) rfl (fun h3 => ?_) (fun h3 => ?_)
    · replace H := ite_then h3 H
      refine AW2_seq ?_
      refine AW2_reg [0] rfl ?_
      refine r_op rfl rfl (PureD.opD (p_asg rfl rfl)) ?_
      refine RunW_st [(2, .c (.p (AV.int (1 : Int))))] [] rfl ⟨TLes.same _, trivial⟩ trivial ?_
      refine RunW_nil ?_
      refine AW2_ret ?_
      obtain rfl := some_elim H
      exact ⟨⟨res_tmp (.same _), trivial⟩, trivial⟩
    · replace H := ite_else h3 H
      refine AW2_st [(1, .c (.ptr 1 (0))), (3, .c (.p (AV.int (d0.Lasts.length : Int))))] [(1, .pure (GDisk.cs d0))] rfl ⟨TLes.same _, TLes.same _, trivial⟩ ⟨rfl, trivial⟩ ?_
      refine AW2_skip ?_
      refine AW2_seq ?_
      refine AW2_seq ?_
      refine AW2_reg [0, 1, 2, 3] rfl ?_
      refine r_op rfl rfl (PureD.opD (u_fa rfl rfl Try.underlying25 rfl in_23 (Nat.succ_ne_zero _) rfl rfl (ne_of_lt (n := 0) (Nat.lt_of_lt_of_eq (by decide) (Eq.symm (GDisk.len d0)))))) ?_
      refine r_op rfl rfl (PureD.opD (u_ld rfl rfl Try.underlying23 rfl rfl ((Sub.refl _).trans (GDisk.sub1 d0)))) ?_
      refine r_op rfl rfl (PureD.opD (p_lenl rfl Try.underlying23 rfl rfl)) ?_
      refine r_op rfl rfl (PureD.opD (p_move rfl rfl)) ?_
      refine RunW_st [(3, .c (.p (AV.int (d0.Lasts.length : Int)))), (22, .c (.p ((fun q : List GPut => AV.lst (q.flatMap GPut.cs) q.length) d0.Writes))), (23, .c (.p (AV.int (d0.Writes.length : Int)))), (24, .c (.p (AV.int (0 : Int))))] [] rfl ⟨TLes.same _, TLes.same _, TLes.same _, TLes.same _, trivial⟩ trivial ?_
      refine RunW_nil ?_
      refine AW2_block ?_
      refine AW2_st [(3, .c (.p (AV.int (d0.Lasts.length : Int)))), (22, .c (.p ((fun q : List GPut => AV.lst (q.flatMap GPut.cs) q.length) d0.Writes))), (23, .c (.p (AV.int (d0.Writes.length : Int)))), (24, .c (.p (AV.int (0 : Int))))] [] rfl ⟨TLes.same _, TLes.same _, TLes.same _, TLes.same _, trivial⟩ trivial ?_
      obtain ⟨o'4, h8, H⟩ := bind_elim H
      refine AW2_loopO (fun a'1 : Int => (⟨[(3, .c (.p (AV.int (d0.Lasts.length : Int)))), (22, .c (.p ((fun q : List GPut => AV.lst (q.flatMap GPut.cs) q.length) d0.Writes))), (23, .c (.p (AV.int (d0.Writes.length : Int)))), (24, .c (.p (AV.int a'1)))], [], 38⟩ : TS)) (fun (o : Int ⊕ Unit) e s' => match o with | .inl y'2 => e = Go.Exit.ret ∧ ResAll Try.prog s' [ResultVar.tmp 2] [.c (.p (AV.int y'2))] ∧ HFits s' [] | .inr (y'3) => e = Go.Exit.exit 0 ∧ s' = (⟨[], [], 38⟩ : TS)) h8 rfl (fun t24_0 x hx => ?_) (fun e s' hs => ?_)
      · clear H
        have H := hx
        clear hx
        unfold g_ref_DiskFault_l0 at H
        refine AW2_seq ?_
        refine AW2_reg [0] rfl ?_
        refine r_op rfl rfl (PureD.opD (p_bin rfl rfl rfl rfl)) ?_
        refine RunW_st [(3, .c (.p (AV.int (d0.Lasts.length : Int)))), (22, .c (.p ((fun q : List GPut => AV.lst (q.flatMap GPut.cs) q.length) d0.Writes))), (23, .c (.p (AV.int (d0.Writes.length : Int)))), (24, .c (.p (AV.int t24_0))), (25, .c (.p (.bool (decide (t24_0 < (d0.Writes.length : Int))))))] [] rfl ⟨TLes.same _, TLes.same _, TLes.same _, TLes.same _, TLes.same _, trivial⟩ trivial ?_
        refine RunW_nil ?_
        refine AW2_seq ?_
        refine AW2_if (p := t24_0 < (d0.Writes.length : Int)) rfl (fun h4 => ?_) (fun h4 => ?_)
        · replace H := ite_then h4 H
          refine AW2_st [(3, .c (.p (AV.int (d0.Lasts.length : Int)))), (22, .c (.p ((fun q : List GPut => AV.lst (q.flatMap GPut.cs) q.length) d0.Writes))), (23, .c (.p (AV.int (d0.Writes.length : Int)))), (24, .c (.p (AV.int t24_0)))] [] rfl ⟨TLes.same _, TLes.same _, TLes.same _, TLes.same _, trivial⟩ trivial ?_
          refine AW2_skip ?_
          refine AW2_seq ?_
          refine AW2_block ?_
          refine AW2_seq ?_
          refine AW2_reg [0, 1, 2, 3] rfl ?_
          obtain ⟨h5, H⟩ := chk_elim H
          refine r_op rfl rfl (PureD.opD (u_ixl rfl rfl Try.underlying23 in_70 rfl rfl (ixe h5) (ixn h5) (fne (fun x => (GPut.len x)) (by decide) (ixn h5)))) ?_
          refine r_op rfl rfl (PureD.opD (u_lda rfl rfl Try.underlying70 rfl in_70 rfl (Nat.succ_pos _) (Sub.fm default (fun x => (GPut.len x)) (ixn h5)) (GPut.len (lrd d0.Writes t24_0.toNat)))) ?_
          refine r_op rfl rfl (MakeD.opD (u_alloc 5 rfl in_70 one_70 zc_70) rfl rfl rfl rfl) ?_
          refine r_op rfl rfl (u_st rfl rfl rfl rfl rfl in_70 (GPut.len (lrd d0.Writes t24_0.toNat)) (ne_of_lt (n := 0) (Nat.lt_of_lt_of_eq (by decide) (Eq.symm (GPut.len GPut.zero)))) (Upd.refl ((GPut.len (lrd d0.Writes t24_0.toNat)).trans (GPut.len GPut.zero).symm))) ?_
          refine RunW_st [(3, .c (.p (AV.int (d0.Lasts.length : Int)))), (5, .c (.ptr 5 (0))), (22, .c (.p ((fun q : List GPut => AV.lst (q.flatMap GPut.cs) q.length) d0.Writes))), (23, .c (.p (AV.int (d0.Writes.length : Int)))), (24, .c (.p (AV.int t24_0)))] [(5, .pure (GPut.cs (lrd d0.Writes t24_0.toNat)))] rfl ⟨TLes.same _, TLes.same _, TLes.same _, TLes.same _, TLes.same _, trivial⟩ ⟨rfl, trivial⟩ ?_
          refine RunW_nil ?_
          refine AW2_seq ?_
          refine AW2_mid (⟨[(3, .c (.p (AV.int (d0.Lasts.length : Int)))), (22, .c (.p ((fun q : List GPut => AV.lst (q.flatMap GPut.cs) q.length) d0.Writes))), (23, .c (.p (AV.int (d0.Writes.length : Int)))), (24, .c (.p (AV.int t24_0))), (36, .c (.p (.bool (decide (((lrd d0.Writes t24_0.toNat).At < (0 : Int)) ∨ ((lrd d0.Writes t24_0.toNat).At ≥ (d0.Lasts.length : Int)))))))], [], 38⟩ : TS) ?_ ?_
          · refine AW2_reg [0, 1, 2, 3, 4, 5, 6, 7, 8] rfl ?_
            refine r_op rfl rfl (PureD.opD (u_fa rfl rfl Try.underlying70 rfl in_3 (Nat.succ_ne_zero _) rfl rfl (ne_of_lt (n := 0) (Nat.lt_of_lt_of_eq (by decide) (Eq.symm (GPut.len (lrd d0.Writes t24_0.toNat))))))) ?_
            refine r_op rfl rfl (PureD.opD (u_ld rfl rfl Try.underlying3 rfl rfl ((Sub.refl _).trans (GPut.sub0 (lrd d0.Writes t24_0.toNat))))) ?_
            refine r_op rfl rfl (PureD.opD (p_bin rfl rfl rfl rfl)) ?_
            refine r_op rfl rfl (PureD.opD (p_move rfl rfl)) ?_
            rcases Classical.em ((lrd d0.Writes t24_0.toNat).At < (0 : Int)) with h6 | h6
            · refine r_off rfl rfl rfl rfl (decide_eq_true (p := (lrd d0.Writes t24_0.toNat).At < (0 : Int)) h6) rfl rfl ?_
              refine r_off rfl rfl rfl rfl (decide_eq_true (p := (lrd d0.Writes t24_0.toNat).At < (0 : Int)) h6) rfl rfl ?_
              refine r_off rfl rfl rfl rfl (decide_eq_true (p := (lrd d0.Writes t24_0.toNat).At < (0 : Int)) h6) rfl rfl ?_
              refine r_off rfl rfl rfl rfl (decide_eq_true (p := (lrd d0.Writes t24_0.toNat).At < (0 : Int)) h6) rfl rfl ?_
              refine r_op rfl rfl (PureD.opD (p_pkt rfl rfl (decide_eq_true (p := (lrd d0.Writes t24_0.toNat).At < (0 : Int)) h6) (tb (decide_eq_true (p := ((lrd d0.Writes t24_0.toNat).At < (0 : Int)) ∨ ((lrd d0.Writes t24_0.toNat).At ≥ (d0.Lasts.length : Int))) (Or.inl h6)).symm))) ?_
              refine RunW_st [(3, .c (.p (AV.int (d0.Lasts.length : Int)))), (22, .c (.p ((fun q : List GPut => AV.lst (q.flatMap GPut.cs) q.length) d0.Writes))), (23, .c (.p (AV.int (d0.Writes.length : Int)))), (24, .c (.p (AV.int t24_0))), (36, .c (.p (.bool (decide (((lrd d0.Writes t24_0.toNat).At < (0 : Int)) ∨ ((lrd d0.Writes t24_0.toNat).At ≥ (d0.Lasts.length : Int)))))))] [] rfl ⟨TLes.same _, TLes.same _, TLes.same _, TLes.same _, TLes.same _, trivial⟩ trivial ?_
              exact RunW_nil rfl
            · refine r_on rfl rfl rfl rfl (decide_eq_false (p := (lrd d0.Writes t24_0.toNat).At < (0 : Int)) h6) rfl (PureD.opD (u_fa rfl rfl Try.underlying70 rfl in_3 (Nat.succ_ne_zero _) rfl rfl (ne_of_lt (n := 0) (Nat.lt_of_lt_of_eq (by decide) (Eq.symm (GPut.len (lrd d0.Writes t24_0.toNat))))))) ?_
              refine r_on rfl rfl rfl rfl (decide_eq_false (p := (lrd d0.Writes t24_0.toNat).At < (0 : Int)) h6) rfl (PureD.opD (u_ld rfl rfl Try.underlying3 rfl rfl ((Sub.refl _).trans (GPut.sub0 (lrd d0.Writes t24_0.toNat))))) ?_
              refine r_on rfl rfl rfl rfl (decide_eq_false (p := (lrd d0.Writes t24_0.toNat).At < (0 : Int)) h6) rfl (PureD.opD (p_move rfl rfl)) ?_
              refine r_on rfl rfl rfl rfl (decide_eq_false (p := (lrd d0.Writes t24_0.toNat).At < (0 : Int)) h6) rfl (PureD.opD (p_bin rfl rfl rfl rfl)) ?_
              refine r_op rfl rfl (PureD.opD (p_pkf rfl rfl (decide_eq_false (p := (lrd d0.Writes t24_0.toNat).At < (0 : Int)) h6) (tb ((or_l (p := (lrd d0.Writes t24_0.toNat).At < (0 : Int)) (q := (lrd d0.Writes t24_0.toNat).At ≥ (d0.Lasts.length : Int)) h6))))) ?_
              refine RunW_st [(3, .c (.p (AV.int (d0.Lasts.length : Int)))), (22, .c (.p ((fun q : List GPut => AV.lst (q.flatMap GPut.cs) q.length) d0.Writes))), (23, .c (.p (AV.int (d0.Writes.length : Int)))), (24, .c (.p (AV.int t24_0))), (36, .c (.p (.bool (decide (((lrd d0.Writes t24_0.toNat).At < (0 : Int)) ∨ ((lrd d0.Writes t24_0.toNat).At ≥ (d0.Lasts.length : Int)))))))] [] rfl ⟨TLes.same _, TLes.same _, TLes.same _, TLes.same _, TLes.same _, trivial⟩ trivial ?_
              exact RunW_nil rfl
          · refine AW2_if (p := ((lrd d0.Writes t24_0.toNat).At < (0 : Int)) ∨ ((lrd d0.Writes t24_0.toNat).At ≥ (d0.Lasts.length : Int))) rfl (fun h7 => ?_) (fun h7 => ?_)
            · replace H := ite_then h7 H
              refine AW2_seq ?_
              refine AW2_reg [0] rfl ?_
              refine r_op rfl rfl (PureD.opD (p_asg rfl rfl)) ?_
              refine RunW_st [(2, .c (.p (AV.int (6 : Int))))] [] rfl ⟨TLes.same _, trivial⟩ trivial ?_
              refine RunW_nil ?_
              refine AW2_ret ?_
              obtain rfl := some_elim H
              exact ⟨rfl, ⟨res_tmp (.same _), trivial⟩, trivial⟩
            · replace H := ite_else h7 H
              refine AW2_st [(3, .c (.p (AV.int (d0.Lasts.length : Int)))), (22, .c (.p ((fun q : List GPut => AV.lst (q.flatMap GPut.cs) q.length) d0.Writes))), (23, .c (.p (AV.int (d0.Writes.length : Int)))), (24, .c (.p (AV.int t24_0)))] [] rfl ⟨TLes.same _, TLes.same _, TLes.same _, TLes.same _, trivial⟩ trivial ?_
              refine AW2_skip ?_
              refine AW2_reg [0, 1] rfl ?_
              refine r_op rfl rfl (PureD.opD (p_bin rfl rfl rfl rfl)) ?_
              refine r_op rfl rfl (PureD.opD (p_move rfl rfl)) ?_
              refine RunW_st [(3, .c (.p (AV.int (d0.Lasts.length : Int)))), (22, .c (.p ((fun q : List GPut => AV.lst (q.flatMap GPut.cs) q.length) d0.Writes))), (23, .c (.p (AV.int (d0.Writes.length : Int)))), (24, .c (.p (AV.int (w64 (t24_0 + (1 : Int))))))] [] rfl ⟨TLes.same _, TLes.same _, TLes.same _, TLes.same _, trivial⟩ trivial ?_
              refine RunW_nil ?_
              obtain rfl := some_elim H
              exact ⟨rfl, rfl⟩
        · replace H := ite_else h4 H
          refine AW2_st [] [] rfl trivial trivial ?_
          refine AW2_exit ?_
          obtain rfl := some_elim H
          exact ⟨rfl, rfl⟩
      · rcases o'4 with y'5 | y'6
        · obtain ⟨rfl, hs⟩ := hs
          refine ⟨by simp, ?_⟩
          obtain rfl := some_elim H
          exact ⟨hs.1, hs.2⟩
        · obtain ⟨rfl, rfl⟩ := hs
          refine ⟨by simp, ?_⟩
          refine blockQ2_exit ?_
          refine AW2_seq ?_
          refine AW2_reg [0] rfl ?_
          refine r_op rfl rfl (PureD.opD (p_asg rfl rfl)) ?_
          refine RunW_st [(2, .c (.p (AV.int (0 : Int))))] [] rfl ⟨TLes.same _, trivial⟩ trivial ?_
          refine RunW_nil ?_
          refine AW2_ret ?_
          obtain rfl := some_elim H
          exact ⟨⟨res_tmp (.same _), trivial⟩, trivial⟩

/-! chirographref.sectorFault -/
noncomputable def g_ref_sectorFault (d0 : GDisk) (i1 : Int) : Option (Int) :=
  (g_ref_DiskFault d0).bind fun r'1 => (if r'1 ≠ (0 : Int) then some r'1 else (if (i1 < (0 : Int)) ∨ (i1 ≥ (d0.Lasts.length : Int)) then some (6 : Int) else some (0 : Int)))
set_option maxHeartbeats 4000000 in
set_option maxRecDepth 100000 in
theorem g_ref_sectorFault_ac {d0 : GDisk} {i1 : Int} {r : Int} (H : g_ref_sectorFault d0 i1 = some r) : ACp Try.prog 29 [(.agg (GDisk.cs d0)), (AV.int i1)] (AV.int r) := by
  refine ACp_of (AC2_of_body (vs := [.c (.p (AV.int r))]) Try.func29 rfl rfl (Nat.le_of_ble_eq_true rfl) rfl ?_) (fun _ => .same _)
  unfold g_ref_sectorFault at H
  refine AW2_st [(0, .c (.p (.agg (GDisk.cs d0)))), (1, .c (.p (AV.int i1)))] [] rfl ⟨TLes.same _, TLes.same _, trivial⟩ trivial ?_
  refine AW2_seq ?_
  refine AW2_reg [0, 1] rfl ?_
  refine r_op rfl rfl (MakeD.opD (n_box 2 rfl rfl) rfl rfl rfl rfl) ?_
  refine r_op rfl rfl (PureD.opD (p_asg rfl rfl)) ?_
  refine RunW_st [(1, .c (.p (AV.int i1))), (2, .c (.ptr 2 (0)))] [(2, .pure (GDisk.cs d0))] rfl ⟨TLes.same _, TLes.same _, trivial⟩ ⟨rfl, trivial⟩ ?_
  refine RunW_nil ?_
  refine AW2_seq ?_
  refine AW2_seq ?_
  refine AW2_reg [0, 1, 2] rfl ?_
  refine r_op rfl rfl (PureD.opD (u_lda rfl rfl Try.underlying25 rfl in_25 rfl (Nat.succ_pos _) (Sub.refl _) (GDisk.len d0))) ?_
  obtain ⟨r'1, h1, H⟩ := bind_elim H
  refine r_op rfl rfl (PureD.opD (p_callp rfl rfl rfl Try.func12 rfl rfl (g_ref_DiskFault_ac h1) ⟨rfl, trivial⟩)) ?_
  refine r_op rfl rfl (PureD.opD (p_asg rfl rfl)) ?_
  refine RunW_st [(1, .c (.p (AV.int i1))), (2, .c (.ptr 2 (0))), (5, .c (.p (AV.int r'1)))] [(2, .pure (GDisk.cs d0))] rfl ⟨TLes.same _, TLes.same _, TLes.same _, trivial⟩ ⟨rfl, trivial⟩ ?_
  refine RunW_nil ?_
  refine AW2_seq ?_
  refine AW2_reg [0, 1] rfl ?_
  refine r_op rfl rfl (PureD.opD (p_move rfl rfl)) ?_
  refine r_op rfl rfl (PureD.opD (p_ine rfl rfl rfl)) ?_
  refine RunW_st [(1, .c (.p (AV.int i1))), (2, .c (.ptr 2 (0))), (5, .c (.p (AV.int r'1))), (9, .c (.p (.bool (decide (r'1 ≠ (0 : Int))))))] [(2, .pure (GDisk.cs d0))] rfl ⟨TLes.same _, TLes.same _, TLes.same _, TLes.same _, trivial⟩ ⟨rfl, trivial⟩ ?_
  refine RunW_nil ?_
  refine AW2_if (p := r'1 ≠ (0 : Int)) rfl (fun h2 => ?_) (fun h2 => ?_)
  · replace H := ite_then h2 H
    refine AW2_seq ?_
    refine AW2_reg [0, 1] rfl ?_
    refine r_op rfl rfl (PureD.opD (p_move rfl rfl)) ?_
    refine r_op rfl rfl (PureD.opD (p_asg rfl rfl)) ?_
    refine RunW_st [(4, .c (.p (AV.int r'1)))] [] rfl ⟨TLes.same _, trivial⟩ trivial ?_
    refine RunW_nil ?_
    refine AW2_ret ?_
    obtain rfl := some_elim H
    exact ⟨⟨res_tmp (.same _), trivial⟩, trivial⟩
  · replace H := ite_else h2 H
    refine AW2_st [(1, .c (.p (AV.int i1))), (2, .c (.ptr 2 (0)))] [(2, .pure (GDisk.cs d0))] rfl ⟨TLes.same _, TLes.same _, trivial⟩ ⟨rfl, trivial⟩ ?_
    refine AW2_skip ?_
    refine AW2_seq ?_
    refine AW2_seq ?_
    refine AW2_mid (⟨[(19, .c (.p (.bool (decide ((i1 < (0 : Int)) ∨ (i1 ≥ (d0.Lasts.length : Int)))))))], [], 20⟩ : TS) ?_ ?_
    · refine AW2_reg [0, 1, 2, 3, 4, 5, 6, 7, 8] rfl ?_
      refine r_op rfl rfl (PureD.opD (p_move rfl rfl)) ?_
      refine r_op rfl rfl (PureD.opD (p_bin rfl rfl rfl rfl)) ?_
      refine r_op rfl rfl (PureD.opD (p_move rfl rfl)) ?_
      rcases Classical.em (i1 < (0 : Int)) with h3 | h3
      · refine r_off rfl rfl rfl rfl (decide_eq_true (p := i1 < (0 : Int)) h3) rfl rfl ?_
        refine r_off rfl rfl rfl rfl (decide_eq_true (p := i1 < (0 : Int)) h3) rfl rfl ?_
        refine r_off rfl rfl rfl rfl (decide_eq_true (p := i1 < (0 : Int)) h3) rfl rfl ?_
        refine r_off rfl rfl rfl rfl (decide_eq_true (p := i1 < (0 : Int)) h3) rfl rfl ?_
        refine r_off rfl rfl rfl rfl (decide_eq_true (p := i1 < (0 : Int)) h3) rfl rfl ?_
        refine r_op rfl rfl (PureD.opD (p_pkt rfl rfl (decide_eq_true (p := i1 < (0 : Int)) h3) (tb (decide_eq_true (p := (i1 < (0 : Int)) ∨ (i1 ≥ (d0.Lasts.length : Int))) (Or.inl h3)).symm))) ?_
        refine RunW_st [(19, .c (.p (.bool (decide ((i1 < (0 : Int)) ∨ (i1 ≥ (d0.Lasts.length : Int)))))))] [] rfl ⟨TLes.same _, trivial⟩ trivial ?_
        exact RunW_nil rfl
      · refine r_on rfl rfl rfl rfl (decide_eq_false (p := i1 < (0 : Int)) h3) rfl (PureD.opD (p_move rfl rfl)) ?_
        refine r_on rfl rfl rfl rfl (decide_eq_false (p := i1 < (0 : Int)) h3) rfl (PureD.opD (u_fa rfl rfl Try.underlying25 rfl in_22 (Nat.succ_ne_zero _) rfl rfl (ne_of_lt (n := 0) (Nat.lt_of_lt_of_eq (by decide) (Eq.symm (GDisk.len d0)))))) ?_
        refine r_on rfl rfl rfl rfl (decide_eq_false (p := i1 < (0 : Int)) h3) rfl (PureD.opD (u_ld rfl rfl Try.underlying22 rfl rfl ((Sub.refl _).trans (GDisk.sub0 d0)))) ?_
        refine r_on rfl rfl rfl rfl (decide_eq_false (p := i1 < (0 : Int)) h3) rfl (PureD.opD (p_lenl rfl Try.underlying22 rfl rfl)) ?_
        refine r_on rfl rfl rfl rfl (decide_eq_false (p := i1 < (0 : Int)) h3) rfl (PureD.opD (p_bin rfl rfl rfl rfl)) ?_
        refine r_op rfl rfl (PureD.opD (p_pkf rfl rfl (decide_eq_false (p := i1 < (0 : Int)) h3) (tb ((or_l (p := i1 < (0 : Int)) (q := i1 ≥ (d0.Lasts.length : Int)) h3))))) ?_
        refine RunW_st [(19, .c (.p (.bool (decide ((i1 < (0 : Int)) ∨ (i1 ≥ (d0.Lasts.length : Int)))))))] [] rfl ⟨TLes.same _, trivial⟩ trivial ?_
        exact RunW_nil rfl
    · refine AW2_if (p := (i1 < (0 : Int)) ∨ (i1 ≥ (d0.Lasts.length : Int))) rfl (fun h4 => ?_) (fun h4 => ?_)
      · replace H := ite_then h4 H
        refine AW2_seq ?_
        refine AW2_reg [0] rfl ?_
        refine r_op rfl rfl (PureD.opD (p_asg rfl rfl)) ?_
        refine RunW_st [(4, .c (.p (AV.int (6 : Int))))] [] rfl ⟨TLes.same _, trivial⟩ trivial ?_
        refine RunW_nil ?_
        refine AW2_ret ?_
        obtain rfl := some_elim H
        exact ⟨⟨res_tmp (.same _), trivial⟩, trivial⟩
      · replace H := ite_else h4 H
        refine AW2_st [] [] rfl trivial trivial ?_
        refine AW2_skip ?_
        refine AW2_seq ?_
        refine AW2_reg [0] rfl ?_
        refine r_op rfl rfl (PureD.opD (p_asg rfl rfl)) ?_
        refine RunW_st [(4, .c (.p (AV.int (0 : Int))))] [] rfl ⟨TLes.same _, trivial⟩ trivial ?_
        refine RunW_nil ?_
        refine AW2_ret ?_
        obtain rfl := some_elim H
        exact ⟨⟨res_tmp (.same _), trivial⟩, trivial⟩

/-! chirographref.SectorOf -/
noncomputable def g_ref_SectorOf_l0 (d0 : GDisk) (i1 : Int) : Int → Option (Int ⊕ (((Vector UInt8 32) × Int) ⊕ Unit))
  | k7_0 => (if k7_0 ≥ (0 : Int) then if 0 ≤ k7_0 ∧ k7_0 < (d0.Writes.length : Int) then (if (lrd d0.Writes k7_0.toNat).At = i1 then if 0 ≤ k7_0 ∧ k7_0 < (d0.Writes.length : Int) then some (.inr (.inl ((lrd d0.Writes k7_0.toNat).Data, (0 : Int)))) else none else some (.inl (w64 (k7_0 - (1 : Int))))) else none else some (.inr (.inr ())))
noncomputable def g_ref_SectorOf (d0 : GDisk) (i1 : Int) : Option ((Vector UInt8 32) × Int) :=
  (g_ref_sectorFault d0 i1).bind fun r'1 => (if r'1 ≠ (0 : Int) then some ((Vector.replicate 32 (0 : UInt8)), r'1) else (loopO (g_ref_SectorOf_l0 d0 i1) (w64 ((d0.Writes.length : Int) - (1 : Int)))).bind fun o'5 => match o'5 with | .inl y'6 => some y'6 | .inr (y'7) => if 0 ≤ i1 ∧ i1 < (d0.Lasts.length : Int) then some ((lrd d0.Lasts i1.toNat), (0 : Int)) else none)
set_option maxHeartbeats 4000000 in
set_option maxRecDepth 100000 in
theorem g_ref_SectorOf_ac {d0 : GDisk} {i1 : Int} {r : (Vector UInt8 32) × Int} (H : g_ref_SectorOf d0 i1 = some r) : ACp Try.prog 15 [(.agg (GDisk.cs d0)), (AV.int i1)] (.tup [(.agg (bcells r.1.toList)), (AV.int r.2)]) := by
  refine ACp_of (AC2_of_body (vs := [.c (.p (.agg (bcells r.1.toList))), .c (.p (AV.int r.2))]) Try.func15 rfl rfl (Nat.le_of_ble_eq_true rfl) rfl ?_) (fun _ => .same _)
  unfold g_ref_SectorOf at H
  refine AW2_st [(0, .c (.p (.agg (GDisk.cs d0)))), (1, .c (.p (AV.int i1)))] [] rfl ⟨TLes.same _, TLes.same _, trivial⟩ trivial ?_
  refine AW2_seq ?_
  refine AW2_reg [0, 1, 2] rfl ?_
  refine r_op rfl rfl (MakeD.opD (n_box 2 rfl rfl) rfl rfl rfl rfl) ?_
  refine r_op rfl rfl (MakeD.opD (u_alloc 4 rfl in_32 one_32 zc_32) rfl rfl rfl rfl) ?_
  refine r_op rfl rfl (PureD.opD (p_asg rfl rfl)) ?_
  refine RunW_st [(1, .c (.p (AV.int i1))), (2, .c (.ptr 2 (0))), (4, .c (.ptr 4 (0)))] [(2, .pure (GDisk.cs d0)), (4, .pure (bcells ((Vector.replicate 32 (0 : UInt8)).toList)))] rfl ⟨TLes.same _, TLes.same _, TLes.same _, trivial⟩ ⟨rfl, rfl, trivial⟩ ?_
  refine RunW_nil ?_
  refine AW2_seq ?_
  refine AW2_seq ?_
  refine AW2_reg [0, 1, 2, 3] rfl ?_
  refine r_op rfl rfl (PureD.opD (u_lda rfl rfl Try.underlying25 rfl in_25 rfl (Nat.succ_pos _) (Sub.refl _) (GDisk.len d0))) ?_
  refine r_op rfl rfl (PureD.opD (p_move rfl rfl)) ?_
  obtain ⟨r'1, h1, H⟩ := bind_elim H
  refine r_op rfl rfl (PureD.opD (p_callp rfl rfl rfl Try.func29 rfl rfl (g_ref_sectorFault_ac h1) ⟨rfl, rfl, trivial⟩)) ?_
  refine r_op rfl rfl (PureD.opD (p_asg rfl rfl)) ?_
  refine RunW_st [(1, .c (.p (AV.int i1))), (2, .c (.ptr 2 (0))), (4, .c (.ptr 4 (0))), (6, .c (.p (AV.int r'1)))] [(2, .pure (GDisk.cs d0)), (4, .pure (bcells ((Vector.replicate 32 (0 : UInt8)).toList)))] rfl ⟨TLes.same _, TLes.same _, TLes.same _, TLes.same _, trivial⟩ ⟨rfl, rfl, trivial⟩ ?_
  refine RunW_nil ?_
  refine AW2_seq ?_
  refine AW2_reg [0, 1] rfl ?_
  refine r_op rfl rfl (PureD.opD (p_move rfl rfl)) ?_
  refine r_op rfl rfl (PureD.opD (p_ine rfl rfl rfl)) ?_
  refine RunW_st [(1, .c (.p (AV.int i1))), (2, .c (.ptr 2 (0))), (4, .c (.ptr 4 (0))), (6, .c (.p (AV.int r'1))), (12, .c (.p (.bool (decide (r'1 ≠ (0 : Int))))))] [(2, .pure (GDisk.cs d0)), (4, .pure (bcells ((Vector.replicate 32 (0 : UInt8)).toList)))] rfl ⟨TLes.same _, TLes.same _, TLes.same _, TLes.same _, TLes.same _, trivial⟩ ⟨rfl, rfl, trivial⟩ ?_
  refine RunW_nil ?_
  refine AW2_if (p := r'1 ≠ (0 : Int)) rfl (fun h2 => ?_) (fun h2 => ?_)
  · replace H := ite_then h2 H
    refine AW2_seq ?_
    refine AW2_reg [0, 1, 2, 3] rfl ?_
    refine r_op rfl rfl (PureD.opD (u_blda rfl in_32 one_32 zc_32 Try.underlying32 in_5 rfl rfl)) ?_
    refine r_op rfl rfl (PureD.opD (p_move rfl rfl)) ?_
    refine r_op rfl rfl (u_st rfl rfl rfl rfl rfl in_32 ((bcells_length _).trans (vlen (Vector.replicate 32 (0 : UInt8)))) (ne_of_lt (n := 0) (Nat.lt_of_lt_of_eq (by decide) (Eq.symm ((bcells_length _).trans (vlen (Vector.replicate 32 (0 : UInt8))))))) (Upd.refl (((bcells_length _).trans (vlen (Vector.replicate 32 (0 : UInt8)))).trans ((bcells_length _).trans (vlen (Vector.replicate 32 (0 : UInt8)))).symm))) ?_
    refine r_op rfl rfl (PureD.opD (p_asg rfl rfl)) ?_
    refine RunW_st [(4, .c (.ptr 4 (0))), (5, .c (.p (AV.int r'1)))] [(4, .pure (bcells ((Vector.replicate 32 (0 : UInt8)).toList)))] rfl ⟨TLes.same _, TLes.same _, trivial⟩ ⟨rfl, trivial⟩ ?_
    refine RunW_nil ?_
    refine AW2_ret ?_
    obtain rfl := some_elim H
    exact ⟨⟨res_cella Try.underlying32 rfl in_32.sz rfl (Sub.le (Sub.refl _) ((bcells_length _).trans (vlen (Vector.replicate 32 (0 : UInt8))))) (by decide) (Sub.take (Sub.refl _) ((bcells_length _).trans (vlen (Vector.replicate 32 (0 : UInt8))))), res_tmp (.same _), trivial⟩, trivial⟩
  · replace H := ite_else h2 H
    refine AW2_st [(1, .c (.p (AV.int i1))), (2, .c (.ptr 2 (0))), (4, .c (.ptr 4 (0)))] [(2, .pure (GDisk.cs d0)), (4, .pure (bcells ((Vector.replicate 32 (0 : UInt8)).toList)))] rfl ⟨TLes.same _, TLes.same _, TLes.same _, trivial⟩ ⟨rfl, rfl, trivial⟩ ?_
    refine AW2_skip ?_
    refine AW2_seq ?_
    refine AW2_seq ?_
    refine AW2_reg [0, 1, 2, 3, 4] rfl ?_
    refine r_op rfl rfl (PureD.opD (u_fa rfl rfl Try.underlying25 rfl in_23 (Nat.succ_ne_zero _) rfl rfl (ne_of_lt (n := 0) (Nat.lt_of_lt_of_eq (by decide) (Eq.symm (GDisk.len d0)))))) ?_
    refine r_op rfl rfl (PureD.opD (u_ld rfl rfl Try.underlying23 rfl rfl ((Sub.refl _).trans (GDisk.sub1 d0)))) ?_
    refine r_op rfl rfl (PureD.opD (p_lenl rfl Try.underlying23 rfl rfl)) ?_
    refine r_op rfl rfl (PureD.opD (p_bin rfl rfl rfl rfl)) ?_
    refine r_op rfl rfl (PureD.opD (p_asg rfl rfl)) ?_
    refine RunW_st [(1, .c (.p (AV.int i1))), (2, .c (.ptr 2 (0))), (4, .c (.ptr 4 (0))), (7, .c (.p (AV.int (w64 ((d0.Writes.length : Int) - (1 : Int))))))] [(2, .pure (GDisk.cs d0)), (4, .pure (bcells ((Vector.replicate 32 (0 : UInt8)).toList)))] rfl ⟨TLes.same _, TLes.same _, TLes.same _, TLes.same _, trivial⟩ ⟨rfl, rfl, trivial⟩ ?_
    refine RunW_nil ?_
    refine AW2_block ?_
    refine AW2_st [(1, .c (.p (AV.int i1))), (2, .c (.ptr 2 (0))), (4, .c (.ptr 4 (0))), (7, .c (.p (AV.int (w64 ((d0.Writes.length : Int) - (1 : Int))))))] [(2, .pure (GDisk.cs d0)), (4, .pure (bcells ((Vector.replicate 32 (0 : UInt8)).toList)))] rfl ⟨TLes.same _, TLes.same _, TLes.same _, TLes.same _, trivial⟩ ⟨rfl, rfl, trivial⟩ ?_
    obtain ⟨o'5, h7, H⟩ := bind_elim H
    refine AW2_loopO (fun a'2 : Int => (⟨[(1, .c (.p (AV.int i1))), (2, .c (.ptr 2 (0))), (4, .c (.ptr 4 (0))), (7, .c (.p (AV.int a'2)))], [(2, .pure (GDisk.cs d0)), (4, .pure (bcells ((Vector.replicate 32 (0 : UInt8)).toList)))], 42⟩ : TS)) (fun (o : ((Vector UInt8 32) × Int) ⊕ Unit) e s' => match o with | .inl y'3 => e = Go.Exit.ret ∧ ResAll Try.prog s' [ResultVar.cell 4 32, ResultVar.tmp 5] [.c (.p (.agg (bcells y'3.1.toList))), .c (.p (AV.int y'3.2))] ∧ HFits s' [] | .inr (y'4) => e = Go.Exit.exit 0 ∧ s' = (⟨[(1, .c (.p (AV.int i1))), (2, .c (.ptr 2 (0))), (4, .c (.ptr 4 (0)))], [(2, .pure (GDisk.cs d0)), (4, .pure (bcells ((Vector.replicate 32 (0 : UInt8)).toList)))], 42⟩ : TS)) h7 rfl (fun k7_0 x hx => ?_) (fun e s' hs => ?_)
    · clear H
      have H := hx
      clear hx
      unfold g_ref_SectorOf_l0 at H
      refine AW2_seq ?_
      refine AW2_seq ?_
      refine AW2_reg [0, 1] rfl ?_
      refine r_op rfl rfl (PureD.opD (p_move rfl rfl)) ?_
      refine r_op rfl rfl (PureD.opD (p_bin rfl rfl rfl rfl)) ?_
      refine RunW_st [(1, .c (.p (AV.int i1))), (2, .c (.ptr 2 (0))), (4, .c (.ptr 4 (0))), (7, .c (.p (AV.int k7_0))), (20, .c (.p (.bool (decide (k7_0 ≥ (0 : Int))))))] [(2, .pure (GDisk.cs d0)), (4, .pure (bcells ((Vector.replicate 32 (0 : UInt8)).toList)))] rfl ⟨TLes.same _, TLes.same _, TLes.same _, TLes.same _, TLes.same _, trivial⟩ ⟨rfl, rfl, trivial⟩ ?_
      refine RunW_nil ?_
      refine AW2_if (p := k7_0 ≥ (0 : Int)) rfl (fun h3 => ?_) (fun h3 => ?_)
      · replace H := ite_then h3 H
        refine AW2_st [(1, .c (.p (AV.int i1))), (2, .c (.ptr 2 (0))), (4, .c (.ptr 4 (0))), (7, .c (.p (AV.int k7_0)))] [(2, .pure (GDisk.cs d0)), (4, .pure (bcells ((Vector.replicate 32 (0 : UInt8)).toList)))] rfl ⟨TLes.same _, TLes.same _, TLes.same _, TLes.same _, trivial⟩ ⟨rfl, rfl, trivial⟩ ?_
        refine AW2_skip ?_
        refine AW2_seq ?_
        refine AW2_block ?_
        refine AW2_seq ?_
        refine AW2_reg [0, 1, 2, 3, 4, 5, 6, 7] rfl ?_
        refine r_op rfl rfl (PureD.opD (u_fa rfl rfl Try.underlying25 rfl in_23 (Nat.succ_ne_zero _) rfl rfl (ne_of_lt (n := 0) (Nat.lt_of_lt_of_eq (by decide) (Eq.symm (GDisk.len d0)))))) ?_
        refine r_op rfl rfl (PureD.opD (u_ld rfl rfl Try.underlying23 rfl rfl ((Sub.refl _).trans (GDisk.sub1 d0)))) ?_
        refine r_op rfl rfl (PureD.opD (p_move rfl rfl)) ?_
        obtain ⟨h4, H⟩ := chk_elim H
        refine r_op rfl rfl (PureD.opD (u_ixl rfl rfl Try.underlying23 in_70 rfl rfl (ixe h4) (ixn h4) (fne (fun x => (GPut.len x)) (by decide) (ixn h4)))) ?_
        refine r_op rfl rfl (PureD.opD (u_far rfl rfl Try.underlying70 rfl in_3 (Nat.succ_ne_zero _) rfl)) ?_
        refine r_op rfl rfl (PureD.opD (u_ld rfl rfl Try.underlying3 rfl rfl ((Sub.fm default (fun x => (GPut.len x)) (ixn h4)).trans (GPut.sub0 (lrd d0.Writes k7_0.toNat))))) ?_
        refine r_op rfl rfl (PureD.opD (p_move rfl rfl)) ?_
        refine r_op rfl rfl (PureD.opD (p_ieq rfl rfl rfl)) ?_
        refine RunW_st [(1, .c (.p (AV.int i1))), (2, .c (.ptr 2 (0))), (4, .c (.ptr 4 (0))), (7, .c (.p (AV.int k7_0))), (30, .c (.p (.bool (decide ((lrd d0.Writes k7_0.toNat).At = i1)))))] [(2, .pure (GDisk.cs d0)), (4, .pure (bcells ((Vector.replicate 32 (0 : UInt8)).toList)))] rfl ⟨TLes.same _, TLes.same _, TLes.same _, TLes.same _, TLes.same _, trivial⟩ ⟨rfl, rfl, trivial⟩ ?_
        refine RunW_nil ?_
        refine AW2_if (p := (lrd d0.Writes k7_0.toNat).At = i1) rfl (fun h5 => ?_) (fun h5 => ?_)
        · replace H := ite_then h5 H
          refine AW2_seq ?_
          refine AW2_reg [0, 1, 2, 3, 4, 5, 6, 7] rfl ?_
          refine r_op rfl rfl (PureD.opD (u_fa rfl rfl Try.underlying25 rfl in_23 (Nat.succ_ne_zero _) rfl rfl (ne_of_lt (n := 0) (Nat.lt_of_lt_of_eq (by decide) (Eq.symm (GDisk.len d0)))))) ?_
          refine r_op rfl rfl (PureD.opD (u_ld rfl rfl Try.underlying23 rfl rfl ((Sub.refl _).trans (GDisk.sub1 d0)))) ?_
          refine r_op rfl rfl (PureD.opD (p_move rfl rfl)) ?_
          obtain ⟨h6, H⟩ := chk_elim H
          refine r_op rfl rfl (PureD.opD (u_ixl rfl rfl Try.underlying23 in_70 rfl rfl (ixe h6) (ixn h6) (fne (fun x => (GPut.len x)) (by decide) (ixn h6)))) ?_
          refine r_op rfl rfl (PureD.opD (u_far rfl rfl Try.underlying70 rfl in_32 (Nat.succ_ne_zero _) rfl)) ?_
          refine r_op rfl rfl (PureD.opD (u_lda rfl rfl Try.underlying32 rfl in_32 rfl (Nat.succ_pos _) ((Sub.fm default (fun x => (GPut.len x)) (ixn h6)).trans (GPut.sub1 (lrd d0.Writes k7_0.toNat))) ((bcells_length _).trans (vlen ((lrd d0.Writes k7_0.toNat).Data))))) ?_
          refine r_op rfl rfl (u_st rfl rfl rfl rfl rfl in_32 ((bcells_length _).trans (vlen ((lrd d0.Writes k7_0.toNat).Data))) (ne_of_lt (n := 0) (Nat.lt_of_lt_of_eq (by decide) (Eq.symm ((bcells_length _).trans (vlen (Vector.replicate 32 (0 : UInt8))))))) (Upd.refl (((bcells_length _).trans (vlen ((lrd d0.Writes k7_0.toNat).Data))).trans ((bcells_length _).trans (vlen (Vector.replicate 32 (0 : UInt8)))).symm))) ?_
          refine r_op rfl rfl (PureD.opD (p_asg rfl rfl)) ?_
          refine RunW_st [(4, .c (.ptr 4 (0))), (5, .c (.p (AV.int (0 : Int))))] [(4, .pure (bcells (((lrd d0.Writes k7_0.toNat).Data).toList)))] rfl ⟨TLes.same _, TLes.same _, trivial⟩ ⟨rfl, trivial⟩ ?_
          refine RunW_nil ?_
          refine AW2_ret ?_
          obtain rfl := some_elim H
          exact ⟨rfl, ⟨res_cella Try.underlying32 rfl in_32.sz rfl (Sub.le (Sub.refl _) ((bcells_length _).trans (vlen ((lrd d0.Writes k7_0.toNat).Data)))) (by decide) (Sub.take (Sub.refl _) ((bcells_length _).trans (vlen ((lrd d0.Writes k7_0.toNat).Data)))), res_tmp (.same _), trivial⟩, trivial⟩
        · replace H := ite_else h5 H
          refine AW2_st [(1, .c (.p (AV.int i1))), (2, .c (.ptr 2 (0))), (4, .c (.ptr 4 (0))), (7, .c (.p (AV.int k7_0)))] [(2, .pure (GDisk.cs d0)), (4, .pure (bcells ((Vector.replicate 32 (0 : UInt8)).toList)))] rfl ⟨TLes.same _, TLes.same _, TLes.same _, TLes.same _, trivial⟩ ⟨rfl, rfl, trivial⟩ ?_
          refine AW2_skip ?_
          refine AW2_reg [0, 1, 2] rfl ?_
          refine r_op rfl rfl (PureD.opD (p_move rfl rfl)) ?_
          refine r_op rfl rfl (PureD.opD (p_bin rfl rfl rfl rfl)) ?_
          refine r_op rfl rfl (PureD.opD (p_asg rfl rfl)) ?_
          refine RunW_st [(1, .c (.p (AV.int i1))), (2, .c (.ptr 2 (0))), (4, .c (.ptr 4 (0))), (7, .c (.p (AV.int (w64 (k7_0 - (1 : Int))))))] [(2, .pure (GDisk.cs d0)), (4, .pure (bcells ((Vector.replicate 32 (0 : UInt8)).toList)))] rfl ⟨TLes.same _, TLes.same _, TLes.same _, TLes.same _, trivial⟩ ⟨rfl, rfl, trivial⟩ ?_
          refine RunW_nil ?_
          obtain rfl := some_elim H
          exact ⟨rfl, rfl⟩
      · replace H := ite_else h3 H
        refine AW2_st [(1, .c (.p (AV.int i1))), (2, .c (.ptr 2 (0))), (4, .c (.ptr 4 (0)))] [(2, .pure (GDisk.cs d0)), (4, .pure (bcells ((Vector.replicate 32 (0 : UInt8)).toList)))] rfl ⟨TLes.same _, TLes.same _, TLes.same _, trivial⟩ ⟨rfl, rfl, trivial⟩ ?_
        refine AW2_exit ?_
        obtain rfl := some_elim H
        exact ⟨rfl, rfl⟩
    · rcases o'5 with y'6 | y'7
      · obtain ⟨rfl, hs⟩ := hs
        refine ⟨by simp, ?_⟩
        obtain rfl := some_elim H
        exact ⟨hs.1, hs.2⟩
      · obtain ⟨rfl, rfl⟩ := hs
        refine ⟨by simp, ?_⟩
        refine blockQ2_exit ?_
        refine AW2_seq ?_
        refine AW2_reg [0, 1, 2, 3, 4, 5, 6] rfl ?_
        refine r_op rfl rfl (PureD.opD (u_fa rfl rfl Try.underlying25 rfl in_22 (Nat.succ_ne_zero _) rfl rfl (ne_of_lt (n := 0) (Nat.lt_of_lt_of_eq (by decide) (Eq.symm (GDisk.len d0)))))) ?_
        refine r_op rfl rfl (PureD.opD (u_ld rfl rfl Try.underlying22 rfl rfl ((Sub.refl _).trans (GDisk.sub0 d0)))) ?_
        refine r_op rfl rfl (PureD.opD (p_move rfl rfl)) ?_
        obtain ⟨h8, H⟩ := chk_elim H
        refine r_op rfl rfl (PureD.opD (u_ixl rfl rfl Try.underlying22 in_32 rfl rfl (ixe h8) (ixn h8) (fne (fun x => ((bcells_length _).trans (vlen x))) (by decide) (ixn h8)))) ?_
        refine r_op rfl rfl (PureD.opD (u_lda rfl rfl Try.underlying32 rfl in_32 rfl (Nat.succ_pos _) (Sub.fm default (fun x => ((bcells_length _).trans (vlen x))) (ixn h8)) ((bcells_length _).trans (vlen (lrd d0.Lasts i1.toNat))))) ?_
        refine r_op rfl rfl (u_st rfl rfl rfl rfl rfl in_32 ((bcells_length _).trans (vlen (lrd d0.Lasts i1.toNat))) (ne_of_lt (n := 0) (Nat.lt_of_lt_of_eq (by decide) (Eq.symm ((bcells_length _).trans (vlen (Vector.replicate 32 (0 : UInt8))))))) (Upd.refl (((bcells_length _).trans (vlen (lrd d0.Lasts i1.toNat))).trans ((bcells_length _).trans (vlen (Vector.replicate 32 (0 : UInt8)))).symm))) ?_
        refine r_op rfl rfl (PureD.opD (p_asg rfl rfl)) ?_
        refine RunW_st [(4, .c (.ptr 4 (0))), (5, .c (.p (AV.int (0 : Int))))] [(4, .pure (bcells ((lrd d0.Lasts i1.toNat).toList)))] rfl ⟨TLes.same _, TLes.same _, trivial⟩ ⟨rfl, trivial⟩ ?_
        refine RunW_nil ?_
        refine AW2_ret ?_
        obtain rfl := some_elim H
        exact ⟨⟨res_cella Try.underlying32 rfl in_32.sz rfl (Sub.le (Sub.refl _) ((bcells_length _).trans (vlen (lrd d0.Lasts i1.toNat)))) (by decide) (Sub.take (Sub.refl _) ((bcells_length _).trans (vlen (lrd d0.Lasts i1.toNat)))), res_tmp (.same _), trivial⟩, trivial⟩

/-! chirographlaw.DiskReads -/
noncomputable def g_law_DiskReads (d0 : GDisk) (i1 : Int) : Option (Bool) :=
  (g_disk_Read d0 i1).bind fun r'1 => (g_ref_SectorOf d0 i1).bind fun r'2 => some (decide ((r'1.2 = r'2.2) ∧ (r'1.1 = r'2.1)))
set_option maxHeartbeats 4000000 in
set_option maxRecDepth 100000 in
theorem g_law_DiskReads_ac {d0 : GDisk} {i1 : Int} {r : Bool} (H : g_law_DiskReads d0 i1 = some r) : ACp Try.prog 4 [(.agg (GDisk.cs d0)), (AV.int i1)] (AV.bool r) := by
  refine ACp_of (AC2_of_body (vs := [.c (.p (AV.bool r))]) Try.func4 rfl rfl (Nat.le_of_ble_eq_true rfl) rfl ?_) (fun _ => .same _)
  unfold g_law_DiskReads at H
  refine AW2_st [(0, .c (.p (.agg (GDisk.cs d0)))), (1, .c (.p (AV.int i1)))] [] rfl ⟨TLes.same _, TLes.same _, trivial⟩ trivial ?_
  refine AW2_seq ?_
  refine AW2_reg [0, 1] rfl ?_
  refine r_op rfl rfl (MakeD.opD (n_box 2 rfl rfl) rfl rfl rfl rfl) ?_
  refine r_op rfl rfl (PureD.opD (p_asg rfl rfl)) ?_
  refine RunW_st [(1, .c (.p (AV.int i1))), (2, .c (.ptr 2 (0)))] [(2, .pure (GDisk.cs d0))] rfl ⟨TLes.same _, TLes.same _, trivial⟩ ⟨rfl, trivial⟩ ?_
  refine RunW_nil ?_
  refine AW2_seq ?_
  refine AW2_reg [0, 1, 2, 3, 4, 5, 6, 7, 8] rfl ?_
  refine r_op rfl rfl (PureD.opD (u_lda rfl rfl Try.underlying25 rfl in_25 rfl (Nat.succ_pos _) (Sub.refl _) (GDisk.len d0))) ?_
  refine r_op rfl rfl (PureD.opD (p_move rfl rfl)) ?_
  obtain ⟨r'1, h1, H⟩ := bind_elim H
  refine r_op rfl rfl (PureD.opD (p_callp rfl rfl rfl Try.func14 rfl rfl (g_disk_Read_ac h1) ⟨rfl, rfl, trivial⟩)) ?_
  refine r_op rfl rfl (PureD.opD (p_move rfl rfl)) ?_
  refine r_op rfl rfl (PureD.opD (p_ext rfl rfl rfl rfl)) ?_
  refine r_op rfl rfl (PureD.opD (p_ext rfl rfl rfl rfl)) ?_
  refine r_op rfl rfl (MakeD.opD (u_alloc 5 rfl in_32 one_32 zc_32) rfl rfl rfl rfl) ?_
  refine r_op rfl rfl (u_st rfl rfl rfl rfl rfl in_32 ((bcells_length _).trans (vlen r'1.1)) (ne_of_lt (n := 0) (Nat.lt_of_lt_of_eq (by decide) (Eq.symm ((bcells_length _).trans (vlen (Vector.replicate 32 (0 : UInt8))))))) (Upd.refl (((bcells_length _).trans (vlen r'1.1)).trans ((bcells_length _).trans (vlen (Vector.replicate 32 (0 : UInt8)))).symm))) ?_
  refine r_op rfl rfl (PureD.opD (p_asg rfl rfl)) ?_
  refine RunW_st [(1, .c (.p (AV.int i1))), (2, .c (.ptr 2 (0))), (5, .c (.ptr 5 (0))), (6, .c (.p (AV.int r'1.2)))] [(2, .pure (GDisk.cs d0)), (5, .pure (bcells r'1.1.toList))] rfl ⟨TLes.same _, TLes.same _, TLes.same _, TLes.same _, trivial⟩ ⟨rfl, rfl, trivial⟩ ?_
  refine RunW_nil ?_
  refine AW2_seq ?_
  refine AW2_reg [0, 1, 2, 3, 4, 5, 6, 7, 8] rfl ?_
  refine r_op rfl rfl (PureD.opD (u_lda rfl rfl Try.underlying25 rfl in_25 rfl (Nat.succ_pos _) (Sub.refl _) (GDisk.len d0))) ?_
  refine r_op rfl rfl (PureD.opD (p_move rfl rfl)) ?_
  obtain ⟨r'2, h2, H⟩ := bind_elim H
  refine r_op rfl rfl (PureD.opD (p_callp rfl rfl rfl Try.func15 rfl rfl (g_ref_SectorOf_ac h2) ⟨rfl, rfl, trivial⟩)) ?_
  refine r_op rfl rfl (PureD.opD (p_move rfl rfl)) ?_
  refine r_op rfl rfl (PureD.opD (p_ext rfl rfl rfl rfl)) ?_
  refine r_op rfl rfl (PureD.opD (p_ext rfl rfl rfl rfl)) ?_
  refine r_op rfl rfl (MakeD.opD (u_alloc 7 rfl in_32 one_32 zc_32) rfl rfl rfl rfl) ?_
  refine r_op rfl rfl (u_st rfl rfl rfl rfl rfl in_32 ((bcells_length _).trans (vlen r'2.1)) (ne_of_lt (n := 0) (Nat.lt_of_lt_of_eq (by decide) (Eq.symm ((bcells_length _).trans (vlen (Vector.replicate 32 (0 : UInt8))))))) (Upd.refl (((bcells_length _).trans (vlen r'2.1)).trans ((bcells_length _).trans (vlen (Vector.replicate 32 (0 : UInt8)))).symm))) ?_
  refine r_op rfl rfl (PureD.opD (p_asg rfl rfl)) ?_
  refine RunW_st [(5, .c (.ptr 5 (0))), (6, .c (.p (AV.int r'1.2))), (7, .c (.ptr 7 (0))), (8, .c (.p (AV.int r'2.2)))] [(5, .pure (bcells r'1.1.toList)), (7, .pure (bcells r'2.1.toList))] rfl ⟨TLes.same _, TLes.same _, TLes.same _, TLes.same _, trivial⟩ ⟨rfl, rfl, trivial⟩ ?_
  refine RunW_nil ?_
  refine AW2_seq ?_
  refine AW2_mid (⟨[(4, .c (.p (.bool (decide ((r'1.2 = r'2.2) ∧ (r'1.1 = r'2.1))))))], [], 29⟩ : TS) ?_ ?_
  · refine AW2_reg [0, 1, 2, 3, 4, 5, 6, 7, 8] rfl ?_
    refine r_op rfl rfl (PureD.opD (p_move rfl rfl)) ?_
    refine r_op rfl rfl (PureD.opD (p_move rfl rfl)) ?_
    refine r_op rfl rfl (PureD.opD (p_ieq rfl rfl rfl)) ?_
    refine r_op rfl rfl (PureD.opD (p_move rfl rfl)) ?_
    rcases Classical.em (r'1.2 = r'2.2) with h3 | h3
    · refine r_on rfl rfl rfl rfl (decide_eq_true (p := r'1.2 = r'2.2) h3) rfl (PureD.opD (u_lda rfl rfl Try.underlying32 rfl in_32 rfl (Nat.succ_pos _) (Sub.refl _) ((bcells_length _).trans (vlen r'1.1)))) ?_
      refine r_on rfl rfl rfl rfl (decide_eq_true (p := r'1.2 = r'2.2) h3) rfl (PureD.opD (u_lda rfl rfl Try.underlying32 rfl in_32 rfl (Nat.succ_pos _) (Sub.refl _) ((bcells_length _).trans (vlen r'2.1)))) ?_
      refine r_on rfl rfl rfl rfl (decide_eq_true (p := r'1.2 = r'2.2) h3) rfl (PureD.opD (p_eqa (a := r'1.1) (b := r'2.1) rfl eq_32 rfl (by kernel_rfl) rfl rfl)) ?_
      refine r_op rfl rfl (PureD.opD (p_pkt rfl rfl (decide_eq_true (p := r'1.2 = r'2.2) h3) (tb ((and_l (p := r'1.2 = r'2.2) (q := r'1.1 = r'2.1) h3))))) ?_
      refine r_op rfl rfl (PureD.opD (p_asg rfl rfl)) ?_
      refine RunW_st [(4, .c (.p (.bool (decide ((r'1.2 = r'2.2) ∧ (r'1.1 = r'2.1))))))] [] rfl ⟨TLes.same _, trivial⟩ trivial ?_
      exact RunW_nil rfl
    · refine r_off rfl rfl rfl rfl (decide_eq_false (p := r'1.2 = r'2.2) h3) rfl rfl ?_
      refine r_off rfl rfl rfl rfl (decide_eq_false (p := r'1.2 = r'2.2) h3) rfl rfl ?_
      refine r_off rfl rfl rfl rfl (decide_eq_false (p := r'1.2 = r'2.2) h3) rfl rfl ?_
      refine r_op rfl rfl (PureD.opD (p_pkf rfl rfl (decide_eq_false (p := r'1.2 = r'2.2) h3) (tb (decide_eq_false (p := (r'1.2 = r'2.2) ∧ (r'1.1 = r'2.1)) (fun x => h3 x.1)).symm))) ?_
      refine r_op rfl rfl (PureD.opD (p_asg rfl rfl)) ?_
      refine RunW_st [(4, .c (.p (.bool (decide ((r'1.2 = r'2.2) ∧ (r'1.1 = r'2.1))))))] [] rfl ⟨TLes.same _, trivial⟩ trivial ?_
      exact RunW_nil rfl
  · refine AW2_ret ?_
    obtain rfl := some_elim H
    exact ⟨⟨res_tmp (.same _), trivial⟩, trivial⟩
end Go.Proofs.Ytglgdaeimfdpfaa.VM
