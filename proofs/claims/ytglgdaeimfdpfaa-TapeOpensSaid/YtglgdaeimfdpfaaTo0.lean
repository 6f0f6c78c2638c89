/- Functions of the program, as they answer, and that their code comes to these answers. -/
import Derived.Test.YtglgdaeimfdpfaaVtTyped
import Derived.Test.YtglgdaeimfdpfaaVtFloat
namespace Go.Proofs.Ytglgdaeimfdpfaa.VM
open Go Go.RowKit

structure GPut where
  At : Int
  Data : Vector UInt8 32
deriving DecidableEq, Inhabited
def GPut.zero : GPut := ⟨(0 : Int), (Vector.replicate 32 (0 : UInt8))⟩
def GPut.cs (x : GPut) : List AV := ([(AV.int x.At)]) ++ (bcells x.Data.toList)
theorem GPut.len (x : GPut) : (GPut.cs x).length = 33 := by
  simp only [GPut.cs, List.length_append]
  rw [show ([(AV.int x.At)]).length = 1 from (show ([(AV.int x.At)]).length = 1 from rfl), show (bcells x.Data.toList).length = 32 from ((bcells_length _).trans (vlen x.Data))]
theorem GPut.sub0 (x : GPut) : Sub (GPut.cs x) 0 ([(AV.int x.At)]) := Sub.head _ _
abbrev GPut.w0 (x : GPut) (y : Int) : GPut := { x with At := y }
theorem GPut.upd0 (x : GPut) (y : Int) : Upd (GPut.cs x) 0 ([(AV.int y)]) (GPut.cs { x with At := y }) := Upd.head (show ([(AV.int y)]).length = ([(AV.int x.At)]).length from rfl)
theorem GPut.sub1 (x : GPut) : Sub (GPut.cs x) 1 (bcells x.Data.toList) := Sub.skip (k := 1) (show ([(AV.int x.At)]).length = 1 from rfl) (Sub.refl _)
abbrev GPut.w1 (x : GPut) (y : Vector UInt8 32) : GPut := { x with Data := y }
theorem GPut.upd1 (x : GPut) (y : Vector UInt8 32) : Upd (GPut.cs x) 1 (bcells y.toList) (GPut.cs { x with Data := y }) := Upd.skip (k := 1) (show ([(AV.int x.At)]).length = 1 from rfl) (Upd.refl (((bcells_length _).trans (vlen y)).trans ((bcells_length _).trans (vlen x.Data)).symm))
theorem GPut.nl (x : GPut) : (GPut.cs x).all noLst1 = true := nlA rfl ((nlB _))
structure GDisk where
  Lasts : List (Vector UInt8 32)
  Writes : List GPut
deriving DecidableEq, Inhabited
def GDisk.zero : GDisk := ⟨[], []⟩
def GDisk.cs (x : GDisk) : List AV := ([((fun q : List (Vector UInt8 32) => AV.lst (q.flatMap (fun v : Vector UInt8 32 => bcells v.toList)) q.length) x.Lasts)]) ++ ([((fun q : List GPut => AV.lst (q.flatMap GPut.cs) q.length) x.Writes)])
theorem GDisk.len (x : GDisk) : (GDisk.cs x).length = 2 := by
  simp only [GDisk.cs, List.length_append]
  rw [show ([((fun q : List (Vector UInt8 32) => AV.lst (q.flatMap (fun v : Vector UInt8 32 => bcells v.toList)) q.length) x.Lasts)]).length = 1 from (show ([((fun q : List (Vector UInt8 32) => AV.lst (q.flatMap (fun v : Vector UInt8 32 => bcells v.toList)) q.length) x.Lasts)]).length = 1 from rfl), show ([((fun q : List GPut => AV.lst (q.flatMap GPut.cs) q.length) x.Writes)]).length = 1 from (show ([((fun q : List GPut => AV.lst (q.flatMap GPut.cs) q.length) x.Writes)]).length = 1 from rfl)]
theorem GDisk.sub0 (x : GDisk) : Sub (GDisk.cs x) 0 ([((fun q : List (Vector UInt8 32) => AV.lst (q.flatMap (fun v : Vector UInt8 32 => bcells v.toList)) q.length) x.Lasts)]) := Sub.head _ _
abbrev GDisk.w0 (x : GDisk) (y : List (Vector UInt8 32)) : GDisk := { x with Lasts := y }
theorem GDisk.upd0 (x : GDisk) (y : List (Vector UInt8 32)) : Upd (GDisk.cs x) 0 ([((fun q : List (Vector UInt8 32) => AV.lst (q.flatMap (fun v : Vector UInt8 32 => bcells v.toList)) q.length) y)]) (GDisk.cs { x with Lasts := y }) := Upd.head (show ([((fun q : List (Vector UInt8 32) => AV.lst (q.flatMap (fun v : Vector UInt8 32 => bcells v.toList)) q.length) y)]).length = ([((fun q : List (Vector UInt8 32) => AV.lst (q.flatMap (fun v : Vector UInt8 32 => bcells v.toList)) q.length) x.Lasts)]).length from rfl)
theorem GDisk.sub1 (x : GDisk) : Sub (GDisk.cs x) 1 ([((fun q : List GPut => AV.lst (q.flatMap GPut.cs) q.length) x.Writes)]) := Sub.skip (k := 1) (show ([((fun q : List (Vector UInt8 32) => AV.lst (q.flatMap (fun v : Vector UInt8 32 => bcells v.toList)) q.length) x.Lasts)]).length = 1 from rfl) (Sub.refl _)
abbrev GDisk.w1 (x : GDisk) (y : List GPut) : GDisk := { x with Writes := y }
theorem GDisk.upd1 (x : GDisk) (y : List GPut) : Upd (GDisk.cs x) 1 ([((fun q : List GPut => AV.lst (q.flatMap GPut.cs) q.length) y)]) (GDisk.cs { x with Writes := y }) := Upd.skip (k := 1) (show ([((fun q : List (Vector UInt8 32) => AV.lst (q.flatMap (fun v : Vector UInt8 32 => bcells v.toList)) q.length) x.Lasts)]).length = 1 from rfl) (Upd.refl (show ([((fun q : List GPut => AV.lst (q.flatMap GPut.cs) q.length) y)]).length = ([((fun q : List GPut => AV.lst (q.flatMap GPut.cs) q.length) x.Writes)]).length from rfl))
theorem in_22 : Info Try.prog 22 1 24 (.slice none 0 0) := by unfold Info; kernel_rfl
theorem one_22 : (.slice none 0 0 : Value).cells.all (·.oneCell') = true := by kernel_rfl
theorem zc_22 : ((.slice none 0 0 : Value).cells.toList.map zcell) = [((fun q : List (Vector UInt8 32) => AV.lst (q.flatMap (fun v : Vector UInt8 32 => bcells v.toList)) q.length) [])] := by rfl
theorem in_23 : Info Try.prog 23 1 24 (.slice none 0 0) := by unfold Info; kernel_rfl
theorem one_23 : (.slice none 0 0 : Value).cells.all (·.oneCell') = true := by kernel_rfl
theorem zc_23 : ((.slice none 0 0 : Value).cells.toList.map zcell) = [((fun q : List GPut => AV.lst (q.flatMap GPut.cs) q.length) [])] := by rfl
theorem in_70 : Info Try.prog 70 33 40 (.agg #[.int .i64 0, .int .u8 0, .int .u8 0, .int .u8 0, .int .u8 0, .int .u8 0, .int .u8 0, .int .u8 0, .int .u8 0, .int .u8 0, .int .u8 0, .int .u8 0, .int .u8 0, .int .u8 0, .int .u8 0, .int .u8 0, .int .u8 0, .int .u8 0, .int .u8 0, .int .u8 0, .int .u8 0, .int .u8 0, .int .u8 0, .int .u8 0, .int .u8 0, .int .u8 0, .int .u8 0, .int .u8 0, .int .u8 0, .int .u8 0, .int .u8 0, .int .u8 0, .int .u8 0]) := by unfold Info; kernel_rfl
theorem one_70 : (.agg #[.int .i64 0, .int .u8 0, .int .u8 0, .int .u8 0, .int .u8 0, .int .u8 0, .int .u8 0, .int .u8 0, .int .u8 0, .int .u8 0, .int .u8 0, .int .u8 0, .int .u8 0, .int .u8 0, .int .u8 0, .int .u8 0, .int .u8 0, .int .u8 0, .int .u8 0, .int .u8 0, .int .u8 0, .int .u8 0, .int .u8 0, .int .u8 0, .int .u8 0, .int .u8 0, .int .u8 0, .int .u8 0, .int .u8 0, .int .u8 0, .int .u8 0, .int .u8 0, .int .u8 0] : Value).cells.all (·.oneCell') = true := by kernel_rfl
theorem zc_70 : ((.agg #[.int .i64 0, .int .u8 0, .int .u8 0, .int .u8 0, .int .u8 0, .int .u8 0, .int .u8 0, .int .u8 0, .int .u8 0, .int .u8 0, .int .u8 0, .int .u8 0, .int .u8 0, .int .u8 0, .int .u8 0, .int .u8 0, .int .u8 0, .int .u8 0, .int .u8 0, .int .u8 0, .int .u8 0, .int .u8 0, .int .u8 0, .int .u8 0, .int .u8 0, .int .u8 0, .int .u8 0, .int .u8 0, .int .u8 0, .int .u8 0, .int .u8 0, .int .u8 0, .int .u8 0] : Value).cells.toList.map zcell) = GPut.cs GPut.zero := by rfl
theorem pl_70 : placesOf Try.prog 70 = some [(0, 1), (1, 32)] := by kernel_rfl
theorem in_3 : Info Try.prog 3 1 8 (.int .i64 0) := by unfold Info; kernel_rfl
theorem one_3 : (.int .i64 0 : Value).cells.all (·.oneCell') = true := by kernel_rfl
theorem zc_3 : ((.int .i64 0 : Value).cells.toList.map zcell) = [(AV.int (0 : Int))] := by rfl
theorem in_32 : Info Try.prog 32 32 32 (.agg #[.int .u8 0, .int .u8 0, .int .u8 0, .int .u8 0, .int .u8 0, .int .u8 0, .int .u8 0, .int .u8 0, .int .u8 0, .int .u8 0, .int .u8 0, .int .u8 0, .int .u8 0, .int .u8 0, .int .u8 0, .int .u8 0, .int .u8 0, .int .u8 0, .int .u8 0, .int .u8 0, .int .u8 0, .int .u8 0, .int .u8 0, .int .u8 0, .int .u8 0, .int .u8 0, .int .u8 0, .int .u8 0, .int .u8 0, .int .u8 0, .int .u8 0, .int .u8 0]) := by unfold Info; kernel_rfl
theorem one_32 : (.agg #[.int .u8 0, .int .u8 0, .int .u8 0, .int .u8 0, .int .u8 0, .int .u8 0, .int .u8 0, .int .u8 0, .int .u8 0, .int .u8 0, .int .u8 0, .int .u8 0, .int .u8 0, .int .u8 0, .int .u8 0, .int .u8 0, .int .u8 0, .int .u8 0, .int .u8 0, .int .u8 0, .int .u8 0, .int .u8 0, .int .u8 0, .int .u8 0, .int .u8 0, .int .u8 0, .int .u8 0, .int .u8 0, .int .u8 0, .int .u8 0, .int .u8 0, .int .u8 0] : Value).cells.all (·.oneCell') = true := by kernel_rfl
theorem zc_32 : ((.agg #[.int .u8 0, .int .u8 0, .int .u8 0, .int .u8 0, .int .u8 0, .int .u8 0, .int .u8 0, .int .u8 0, .int .u8 0, .int .u8 0, .int .u8 0, .int .u8 0, .int .u8 0, .int .u8 0, .int .u8 0, .int .u8 0, .int .u8 0, .int .u8 0, .int .u8 0, .int .u8 0, .int .u8 0, .int .u8 0, .int .u8 0, .int .u8 0, .int .u8 0, .int .u8 0, .int .u8 0, .int .u8 0, .int .u8 0, .int .u8 0, .int .u8 0, .int .u8 0] : Value).cells.toList.map zcell) = bcells ((Vector.replicate 32 (0 : UInt8)).toList) := by rfl
theorem in_25 : Info Try.prog 25 2 48 (.agg #[.slice none 0 0, .slice none 0 0]) := by unfold Info; kernel_rfl
theorem one_25 : (.agg #[.slice none 0 0, .slice none 0 0] : Value).cells.all (·.oneCell') = true := by kernel_rfl
theorem zc_25 : ((.agg #[.slice none 0 0, .slice none 0 0] : Value).cells.toList.map zcell) = GDisk.cs GDisk.zero := by rfl
theorem pl_25 : placesOf Try.prog 25 = some [(0, 1), (1, 1)] := by kernel_rfl
theorem in_5 : Info Try.prog 5 1 1 (.int .u8 0) := by unfold Info; kernel_rfl
theorem one_5 : (.int .u8 0 : Value).cells.all (·.oneCell') = true := by kernel_rfl
theorem zc_5 : ((.int .u8 0 : Value).cells.toList.map zcell) = [(AV.b8 (0 : UInt8))] := by rfl
theorem in_45 : Info Try.prog 45 1 24 (.slice none 0 0) := by unfold Info; kernel_rfl
theorem one_45 : (.slice none 0 0 : Value).cells.all (·.oneCell') = true := by kernel_rfl
theorem zc_45 : ((.slice none 0 0 : Value).cells.toList.map zcell) = [(AV.bytes [])] := by rfl

/-! disk.Check -/
noncomputable def g_disk_Check_l0 (d0 : GDisk) : Int → Option (Int ⊕ (Int ⊕ Unit))
  | t24_0 => (if t24_0 < (d0.Writes.length : Int) then if 0 ≤ t24_0 ∧ t24_0 < (d0.Writes.length : Int) then (if ((lrd d0.Writes t24_0.toNat).At < (0 : Int)) ∨ ((lrd d0.Writes t24_0.toNat).At ≥ (d0.Lasts.length : Int)) then some (.inr (.inl (6 : Int))) else some (.inl (w64 (t24_0 + (1 : Int))))) else none else some (.inr (.inr ())))
noncomputable def g_disk_Check (d0 : GDisk) : Option (Int) :=
  (if (((d0.Lasts.length : Int) < (1 : Int)) ∨ ((d0.Lasts.length : Int) > (400 : Int))) ∨ ((d0.Writes.length : Int) > (60 : Int)) then some (1 : Int) else (loopO (g_disk_Check_l0 d0) (0 : Int)).bind fun o'4 => match o'4 with | .inl y'5 => some y'5 | .inr (y'6) => some (0 : Int))
set_option maxHeartbeats 4000000 in
set_option maxRecDepth 100000 in
theorem g_disk_Check_ac {d0 : GDisk} {r : Int} (H : g_disk_Check d0 = some r) : ACp Try.prog 10 [(.agg (GDisk.cs d0))] (AV.int r) := by
 refine ACp_of (AC2_of_body (vs := [.i r]) Try.func10 Y Y (Nat.le_of_ble_eq_true Y) Y ?_) (fun _ => .same _)
 unfold g_disk_Check at H
 refine as2 [(0, .g (GDisk.cs d0))] [] Y Y Y ?_
 refine sg [0, 1] Y ?_
 refine r_op Y Y (MakeD.opD (n_box 1 Y Y) Y Y Y Y) ?_
 refine rp Y Y (p_asg Y Y) ?_
 refine rz [(1, .q 1 (0))] [(1, .pure (GDisk.cs d0))] Y Y Y ?_
 refine AW2_seq ?_
 refine AW2_seq ?_
 refine AW2_mid (⟨[(1, .q 1 (0)), (20, .b (decide ((((d0.Lasts.length : Int) < (1 : Int)) ∨ ((d0.Lasts.length : Int) > (400 : Int))) ∨ ((d0.Writes.length : Int) > (60 : Int)))))], [(1, .pure (GDisk.cs d0))], 40⟩ : TS) ?_ ?_
 ·refine AW2_reg [0, 1, 2, 3, 4, 5, 6, 7, 8, 9, 10, 11, 12, 13, 14, 15] Y ?_
  refine rp Y Y (u_fa Y Y Try.underlying25 Y in_22 nz Y Y (nl (GDisk.len d0))) ?_
  refine rp Y Y (u_ld Y Y Try.underlying22 Y Y ((Sub.refl _).trans (GDisk.sub0 d0))) ?_
  refine rp Y Y (p_lenl Y Try.underlying22 Y Y) ?_
  refine rp Y Y (p_bin Y Y Y Y) ?_
  refine rp Y Y (p_move Y Y) ?_
  refine (Classical.em ((d0.Lasts.length : Int) < (1 : Int))).elim (fun h1 => ?_) (fun h1 => ?_)
  ·refine r_off Y Y Y Y (dT h1) Y Y ?_
   refine r_off Y Y Y Y (dT h1) Y Y ?_
   refine r_off Y Y Y Y (dT h1) Y Y ?_
   refine r_off Y Y Y Y (dT h1) Y Y ?_
   refine rp Y Y (p_pkt Y Y (dT h1) (tb (dT (p := ((d0.Lasts.length : Int) < (1 : Int)) ∨ ((d0.Lasts.length : Int) > (400 : Int))) (Or.inl h1)).symm)) ?_
   refine rp Y Y (p_move Y Y) ?_
   refine r_off Y Y Y Y (dT (p := ((d0.Lasts.length : Int) < (1 : Int)) ∨ ((d0.Lasts.length : Int) > (400 : Int))) (Or.inl h1)) Y Y ?_
   refine r_off Y Y Y Y (dT (p := ((d0.Lasts.length : Int) < (1 : Int)) ∨ ((d0.Lasts.length : Int) > (400 : Int))) (Or.inl h1)) Y Y ?_
   refine r_off Y Y Y Y (dT (p := ((d0.Lasts.length : Int) < (1 : Int)) ∨ ((d0.Lasts.length : Int) > (400 : Int))) (Or.inl h1)) Y Y ?_
   refine r_off Y Y Y Y (dT (p := ((d0.Lasts.length : Int) < (1 : Int)) ∨ ((d0.Lasts.length : Int) > (400 : Int))) (Or.inl h1)) Y Y ?_
   refine rp Y Y (p_pkt Y Y (dT (p := ((d0.Lasts.length : Int) < (1 : Int)) ∨ ((d0.Lasts.length : Int) > (400 : Int))) (Or.inl h1)) (tb (dT (p := (((d0.Lasts.length : Int) < (1 : Int)) ∨ ((d0.Lasts.length : Int) > (400 : Int))) ∨ ((d0.Writes.length : Int) > (60 : Int))) (Or.inl (Or.inl h1))).symm)) ?_
   refine rs [(1, .q 1 (0)), (20, .b (decide ((((d0.Lasts.length : Int) < (1 : Int)) ∨ ((d0.Lasts.length : Int) > (400 : Int))) ∨ ((d0.Writes.length : Int) > (60 : Int)))))] [(1, .pure (GDisk.cs d0))] Y Y Y ?_
   exact RunW_nil rfl
  ·refine r_on Y Y Y Y (dF h1) Y (PureD.opD (u_fa Y Y Try.underlying25 Y in_22 nz Y Y (nl (GDisk.len d0)))) ?_
   refine r_on Y Y Y Y (dF h1) Y (PureD.opD (u_ld Y Y Try.underlying22 Y Y ((Sub.refl _).trans (GDisk.sub0 d0)))) ?_
   refine r_on Y Y Y Y (dF h1) Y (PureD.opD (p_lenl Y Try.underlying22 Y Y)) ?_
   refine r_on Y Y Y Y (dF h1) Y (PureD.opD (p_bin Y Y Y Y)) ?_
   refine rp Y Y (p_pkf Y Y (dF h1) (tb ((or_l (p := (d0.Lasts.length : Int) < (1 : Int)) (q := (d0.Lasts.length : Int) > (400 : Int)) h1)))) ?_
   refine rp Y Y (p_move Y Y) ?_
   refine (Classical.em ((d0.Lasts.length : Int) > (400 : Int))).elim (fun h2 => ?_) (fun h2 => ?_)
   ·refine r_off Y Y Y Y (dT (p := ((d0.Lasts.length : Int) < (1 : Int)) ∨ ((d0.Lasts.length : Int) > (400 : Int))) (Or.inr h2)) Y Y ?_
    refine r_off Y Y Y Y (dT (p := ((d0.Lasts.length : Int) < (1 : Int)) ∨ ((d0.Lasts.length : Int) > (400 : Int))) (Or.inr h2)) Y Y ?_
    refine r_off Y Y Y Y (dT (p := ((d0.Lasts.length : Int) < (1 : Int)) ∨ ((d0.Lasts.length : Int) > (400 : Int))) (Or.inr h2)) Y Y ?_
    refine r_off Y Y Y Y (dT (p := ((d0.Lasts.length : Int) < (1 : Int)) ∨ ((d0.Lasts.length : Int) > (400 : Int))) (Or.inr h2)) Y Y ?_
    refine rp Y Y (p_pkt Y Y (dT (p := ((d0.Lasts.length : Int) < (1 : Int)) ∨ ((d0.Lasts.length : Int) > (400 : Int))) (Or.inr h2)) (tb (dT (p := (((d0.Lasts.length : Int) < (1 : Int)) ∨ ((d0.Lasts.length : Int) > (400 : Int))) ∨ ((d0.Writes.length : Int) > (60 : Int))) (Or.inl (Or.inr h2))).symm)) ?_
    refine rs [(1, .q 1 (0)), (20, .b (decide ((((d0.Lasts.length : Int) < (1 : Int)) ∨ ((d0.Lasts.length : Int) > (400 : Int))) ∨ ((d0.Writes.length : Int) > (60 : Int)))))] [(1, .pure (GDisk.cs d0))] Y Y Y ?_
    exact RunW_nil rfl
   ·refine r_on Y Y Y Y (dF (p := ((d0.Lasts.length : Int) < (1 : Int)) ∨ ((d0.Lasts.length : Int) > (400 : Int))) (not_or.2 ⟨h1, h2⟩)) Y (PureD.opD (u_fa Y Y Try.underlying25 Y in_23 nz Y Y (nl (GDisk.len d0)))) ?_
    refine r_on Y Y Y Y (dF (p := ((d0.Lasts.length : Int) < (1 : Int)) ∨ ((d0.Lasts.length : Int) > (400 : Int))) (not_or.2 ⟨h1, h2⟩)) Y (PureD.opD (u_ld Y Y Try.underlying23 Y Y ((Sub.refl _).trans (GDisk.sub1 d0)))) ?_
    refine r_on Y Y Y Y (dF (p := ((d0.Lasts.length : Int) < (1 : Int)) ∨ ((d0.Lasts.length : Int) > (400 : Int))) (not_or.2 ⟨h1, h2⟩)) Y (PureD.opD (p_lenl Y Try.underlying23 Y Y)) ?_
    refine r_on Y Y Y Y (dF (p := ((d0.Lasts.length : Int) < (1 : Int)) ∨ ((d0.Lasts.length : Int) > (400 : Int))) (not_or.2 ⟨h1, h2⟩)) Y (PureD.opD (p_bin Y Y Y Y)) ?_
    refine rp Y Y (p_pkf Y Y (dF (p := ((d0.Lasts.length : Int) < (1 : Int)) ∨ ((d0.Lasts.length : Int) > (400 : Int))) (not_or.2 ⟨h1, h2⟩)) (tb ((or_l (p := ((d0.Lasts.length : Int) < (1 : Int)) ∨ ((d0.Lasts.length : Int) > (400 : Int))) (q := (d0.Writes.length : Int) > (60 : Int)) (not_or.2 ⟨h1, h2⟩))))) ?_
    refine rs [(1, .q 1 (0)), (20, .b (decide ((((d0.Lasts.length : Int) < (1 : Int)) ∨ ((d0.Lasts.length : Int) > (400 : Int))) ∨ ((d0.Writes.length : Int) > (60 : Int)))))] [(1, .pure (GDisk.cs d0))] Y Y Y ?_
    exact RunW_nil rfl
 ·refine AW2_if (p := (((d0.Lasts.length : Int) < (1 : Int)) ∨ ((d0.Lasts.length : Int) > (400 : Int))) ∨ ((d0.Writes.length : Int) > (60 : Int))) Y (fun h3 => ?_) (fun h3 => ?_)
  ·replace H := ite_then h3 H
   refine sg [0] Y ?_
   refine rp Y Y (p_asg Y Y) ?_
   refine rz [(2, .i (1 : Int))] [] Y Y Y ?_
   refine AW2_ret ?_
   have hz := some_elim H
   subst hz
   exact ⟨⟨res_tmp (.same _), trivial⟩, trivial⟩
  ·replace H := ite_else h3 H
   refine as2 [(1, .q 1 (0))] [(1, .pure (GDisk.cs d0))] Y Y Y ?_
   refine AW2_skip ?_
   refine AW2_seq ?_
   refine sg [0, 1, 2, 3] Y ?_
   refine rp Y Y (u_fa Y Y Try.underlying25 Y in_23 nz Y Y (nl (GDisk.len d0))) ?_
   refine rp Y Y (u_ld Y Y Try.underlying23 Y Y ((Sub.refl _).trans (GDisk.sub1 d0))) ?_
   refine rp Y Y (p_lenl Y Try.underlying23 Y Y) ?_
   refine rp Y Y (p_move Y Y) ?_
   refine rz [(1, .q 1 (0)), (22, .p ((fun q : List GPut => AV.lst (q.flatMap GPut.cs) q.length) d0.Writes)), (23, .i (d0.Writes.length : Int)), (24, .i (0 : Int))] [(1, .pure (GDisk.cs d0))] Y Y Y ?_
   refine AW2_block ?_
   refine as2 [(1, .q 1 (0)), (22, .p ((fun q : List GPut => AV.lst (q.flatMap GPut.cs) q.length) d0.Writes)), (23, .i (d0.Writes.length : Int)), (24, .i (0 : Int))] [(1, .pure (GDisk.cs d0))] Y Y Y ?_
   refine bindK H fun o'4 h8 H => ?_
   refine AW2_loopO (fun a'1 : Int => (⟨[(1, .q 1 (0)), (22, .p ((fun q : List GPut => AV.lst (q.flatMap GPut.cs) q.length) d0.Writes)), (23, .i (d0.Writes.length : Int)), (24, .i a'1)], [(1, .pure (GDisk.cs d0))], 40⟩ : TS)) (fun (o : Int ⊕ Unit) e s' => match o with | .inl y'2 => e = Go.Exit.ret ∧ ResAll Try.prog s' [ResultVar.tmp 2] [.i y'2] ∧ HFits s' [] | .inr (y'3) => e = Go.Exit.exit 0 ∧ s' = (⟨[], [], 40⟩ : TS)) h8 Y (fun t24_0 x hx => ?_) (fun e s' hs => ?_)
   ·clear H
    have H := hx
    clear hx
    unfold g_disk_Check_l0 at H
    refine sg [0] Y ?_
    refine rp Y Y (p_bin Y Y Y Y) ?_
    refine rz [(1, .q 1 (0)), (22, .p ((fun q : List GPut => AV.lst (q.flatMap GPut.cs) q.length) d0.Writes)), (23, .i (d0.Writes.length : Int)), (24, .i t24_0), (25, .b (decide (t24_0 < (d0.Writes.length : Int))))] [(1, .pure (GDisk.cs d0))] Y Y Y ?_
    refine AW2_seq ?_
    refine AW2_if (p := t24_0 < (d0.Writes.length : Int)) Y (fun h4 => ?_) (fun h4 => ?_)
    ·replace H := ite_then h4 H
     refine as2 [(1, .q 1 (0)), (22, .p ((fun q : List GPut => AV.lst (q.flatMap GPut.cs) q.length) d0.Writes)), (23, .i (d0.Writes.length : Int)), (24, .i t24_0)] [(1, .pure (GDisk.cs d0))] Y Y Y ?_
     refine AW2_skip ?_
     refine AW2_seq ?_
     refine AW2_block ?_
     refine sg [0, 1, 2, 3] Y ?_
     refine chkK H fun h5 H => ?_
     refine rp Y Y (u_ixl Y Y Try.underlying23 in_70 Y Y (ixe h5) (ixn h5) (fne (fun x => (GPut.len x)) (by decide) (ixn h5))) ?_
     refine rp Y Y (u_lda Y Y Try.underlying70 Y in_70 Y (Nat.succ_pos _) (Sub.fm default (fun x => (GPut.len x)) (ixn h5)) (GPut.len (lrd d0.Writes t24_0.toNat))) ?_
     refine r_op Y Y (MakeD.opD (u_alloc 4 Y in_70 one_70 zc_70) Y Y Y Y) ?_
     refine r_op Y Y (u_st Y Y Y Y Y in_70 (GPut.len (lrd d0.Writes t24_0.toNat)) (nl (GPut.len GPut.zero)) (Upd.refl ((GPut.len (lrd d0.Writes t24_0.toNat)).trans (GPut.len GPut.zero).symm))) ?_
     refine rz [(1, .q 1 (0)), (4, .q 4 (0)), (22, .p ((fun q : List GPut => AV.lst (q.flatMap GPut.cs) q.length) d0.Writes)), (23, .i (d0.Writes.length : Int)), (24, .i t24_0)] [(1, .pure (GDisk.cs d0)), (4, .pure (GPut.cs (lrd d0.Writes t24_0.toNat)))] Y Y Y ?_
     refine AW2_seq ?_
     refine AW2_mid (⟨[(1, .q 1 (0)), (22, .p ((fun q : List GPut => AV.lst (q.flatMap GPut.cs) q.length) d0.Writes)), (23, .i (d0.Writes.length : Int)), (24, .i t24_0), (38, .b (decide (((lrd d0.Writes t24_0.toNat).At < (0 : Int)) ∨ ((lrd d0.Writes t24_0.toNat).At ≥ (d0.Lasts.length : Int)))))], [(1, .pure (GDisk.cs d0))], 40⟩ : TS) ?_ ?_
     ·refine AW2_reg [0, 1, 2, 3, 4, 5, 6, 7, 8, 9, 10] Y ?_
      refine rp Y Y (u_fa Y Y Try.underlying70 Y in_3 nz Y Y (nl (GPut.len (lrd d0.Writes t24_0.toNat)))) ?_
      refine rp Y Y (u_ld Y Y Try.underlying3 Y Y ((Sub.refl _).trans (GPut.sub0 (lrd d0.Writes t24_0.toNat)))) ?_
      refine rp Y Y (p_bin Y Y Y Y) ?_
      refine rp Y Y (p_move Y Y) ?_
      refine (Classical.em ((lrd d0.Writes t24_0.toNat).At < (0 : Int))).elim (fun h6 => ?_) (fun h6 => ?_)
      ·refine r_off Y Y Y Y (dT h6) Y Y ?_
       refine r_off Y Y Y Y (dT h6) Y Y ?_
       refine r_off Y Y Y Y (dT h6) Y Y ?_
       refine r_off Y Y Y Y (dT h6) Y Y ?_
       refine r_off Y Y Y Y (dT h6) Y Y ?_
       refine r_off Y Y Y Y (dT h6) Y Y ?_
       refine rp Y Y (p_pkt Y Y (dT h6) (tb (dT (p := ((lrd d0.Writes t24_0.toNat).At < (0 : Int)) ∨ ((lrd d0.Writes t24_0.toNat).At ≥ (d0.Lasts.length : Int))) (Or.inl h6)).symm)) ?_
       refine rs [(1, .q 1 (0)), (22, .p ((fun q : List GPut => AV.lst (q.flatMap GPut.cs) q.length) d0.Writes)), (23, .i (d0.Writes.length : Int)), (24, .i t24_0), (38, .b (decide (((lrd d0.Writes t24_0.toNat).At < (0 : Int)) ∨ ((lrd d0.Writes t24_0.toNat).At ≥ (d0.Lasts.length : Int)))))] [(1, .pure (GDisk.cs d0))] Y Y Y ?_
       exact RunW_nil rfl
      ·refine r_on Y Y Y Y (dF h6) Y (PureD.opD (u_fa Y Y Try.underlying70 Y in_3 nz Y Y (nl (GPut.len (lrd d0.Writes t24_0.toNat))))) ?_
       refine r_on Y Y Y Y (dF h6) Y (PureD.opD (u_ld Y Y Try.underlying3 Y Y ((Sub.refl _).trans (GPut.sub0 (lrd d0.Writes t24_0.toNat))))) ?_
       refine r_on Y Y Y Y (dF h6) Y (PureD.opD (u_fa Y Y Try.underlying25 Y in_22 nz Y Y (nl (GDisk.len d0)))) ?_
       refine r_on Y Y Y Y (dF h6) Y (PureD.opD (u_ld Y Y Try.underlying22 Y Y ((Sub.refl _).trans (GDisk.sub0 d0)))) ?_
       refine r_on Y Y Y Y (dF h6) Y (PureD.opD (p_lenl Y Try.underlying22 Y Y)) ?_
       refine r_on Y Y Y Y (dF h6) Y (PureD.opD (p_bin Y Y Y Y)) ?_
       refine rp Y Y (p_pkf Y Y (dF h6) (tb ((or_l (p := (lrd d0.Writes t24_0.toNat).At < (0 : Int)) (q := (lrd d0.Writes t24_0.toNat).At ≥ (d0.Lasts.length : Int)) h6)))) ?_
       refine rs [(1, .q 1 (0)), (22, .p ((fun q : List GPut => AV.lst (q.flatMap GPut.cs) q.length) d0.Writes)), (23, .i (d0.Writes.length : Int)), (24, .i t24_0), (38, .b (decide (((lrd d0.Writes t24_0.toNat).At < (0 : Int)) ∨ ((lrd d0.Writes t24_0.toNat).At ≥ (d0.Lasts.length : Int)))))] [(1, .pure (GDisk.cs d0))] Y Y Y ?_
       exact RunW_nil rfl
     ·refine AW2_if (p := ((lrd d0.Writes t24_0.toNat).At < (0 : Int)) ∨ ((lrd d0.Writes t24_0.toNat).At ≥ (d0.Lasts.length : Int))) Y (fun h7 => ?_) (fun h7 => ?_)
      ·replace H := ite_then h7 H
       refine sg [0] Y ?_
       refine rp Y Y (p_asg Y Y) ?_
       refine rz [(2, .i (6 : Int))] [] Y Y Y ?_
       refine AW2_ret ?_
       have hz := some_elim H
       subst hz
       exact ⟨Y, ⟨res_tmp (.same _), trivial⟩, trivial⟩
      ·replace H := ite_else h7 H
       refine as2 [(1, .q 1 (0)), (22, .p ((fun q : List GPut => AV.lst (q.flatMap GPut.cs) q.length) d0.Writes)), (23, .i (d0.Writes.length : Int)), (24, .i t24_0)] [(1, .pure (GDisk.cs d0))] Y Y Y ?_
       refine AW2_skip ?_
       refine AW2_reg [0, 1] Y ?_
       refine rp Y Y (p_bin Y Y Y Y) ?_
       refine rp Y Y (p_move Y Y) ?_
       refine rz [(1, .q 1 (0)), (22, .p ((fun q : List GPut => AV.lst (q.flatMap GPut.cs) q.length) d0.Writes)), (23, .i (d0.Writes.length : Int)), (24, .i (w64 (t24_0 + (1 : Int))))] [(1, .pure (GDisk.cs d0))] Y Y Y ?_
       have hz := some_elim H
       subst hz
       exact ⟨Y, Y⟩
    ·replace H := ite_else h4 H
     refine as2 [] [] Y Y Y ?_
     refine AW2_exit ?_
     refine thenQ2_exit ?_
     have hz := some_elim H
     subst hz
     exact ⟨Y, Y⟩
   ·rcases o'4 with y'5 | y'6
    ·obtain ⟨rfl, hs⟩ := hs
     refine ⟨by simp, ?_⟩
     have hz := some_elim H
     subst hz
     exact ⟨hs.1, hs.2⟩
    ·obtain ⟨rfl, rfl⟩ := hs
     refine ⟨by simp, ?_⟩
     refine blockQ2_exit ?_
     refine sg [0] Y ?_
     refine rp Y Y (p_asg Y Y) ?_
     refine rz [(2, .i (0 : Int))] [] Y Y Y ?_
     refine AW2_ret ?_
     have hz := some_elim H
     subst hz
     exact ⟨⟨res_tmp (.same _), trivial⟩, trivial⟩

/-! disk.Read -/
noncomputable def g_disk_Read_l0 (d0 : GDisk) (i1 : Int) : Int × (Vector UInt8 32) → Option ((Int × (Vector UInt8 32)) ⊕ (((Vector UInt8 32))))
  | (t34_0, b7_0) => (if t34_0 < (d0.Writes.length : Int) then (if 0 ≤ t34_0 ∧ t34_0 < (d0.Writes.length : Int) then (if (lrd d0.Writes t34_0.toNat).At = i1 then some ((lrd d0.Writes t34_0.toNat).Data) else some b7_0) else none).bind fun j'2 => some (.inl (w64 (t34_0 + (1 : Int)), j'2)) else some (.inr b7_0))
noncomputable def g_disk_Read (d0 : GDisk) (i1 : Int) : Option ((Vector UInt8 32) × Int) :=
  (g_disk_Check d0).bind fun r'1 => (if r'1 ≠ (0 : Int) then some ((Vector.replicate 32 (0 : UInt8)), r'1) else (if (i1 < (0 : Int)) ∨ (i1 ≥ (d0.Lasts.length : Int)) then some ((Vector.replicate 32 (0 : UInt8)), (6 : Int)) else if 0 ≤ i1 ∧ i1 < (d0.Lasts.length : Int) then (loopO (g_disk_Read_l0 d0 i1) ((0 : Int), (lrd d0.Lasts i1.toNat))).bind fun y'6 => some (y'6, (0 : Int)) else none))
set_option maxHeartbeats 4000000 in
set_option maxRecDepth 100000 in
theorem g_disk_Read_ac {d0 : GDisk} {i1 : Int} {r : (Vector UInt8 32) × Int} (H : g_disk_Read d0 i1 = some r) : ACp Try.prog 14 [(.agg (GDisk.cs d0)), (AV.int i1)] (.tup [(.agg (bcells r.1.toList)), (AV.int r.2)]) := by
 refine ACp_of (AC2_of_body (vs := [.g (bcells r.1.toList), .i r.2]) Try.func14 Y Y (Nat.le_of_ble_eq_true Y) Y ?_) (fun _ => .same _)
 unfold g_disk_Read at H
 refine as2 [(0, .g (GDisk.cs d0)), (1, .i i1)] [] Y Y Y ?_
 refine sg [0, 1, 2] Y ?_
 refine r_op Y Y (MakeD.opD (n_box 2 Y Y) Y Y Y Y) ?_
 refine r_op Y Y (MakeD.opD (u_alloc 4 Y in_32 one_32 zc_32) Y Y Y Y) ?_
 refine rp Y Y (p_asg Y Y) ?_
 refine rz [(1, .i i1), (2, .q 2 (0)), (4, .q 4 (0))] [(2, .pure (GDisk.cs d0)), (4, .pure (bcells ((Vector.replicate 32 (0 : UInt8)).toList)))] Y Y Y ?_
 refine AW2_seq ?_
 refine sg [0, 1, 2] Y ?_
 refine rp Y Y (u_lda Y Y Try.underlying25 Y in_25 Y (Nat.succ_pos _) (Sub.refl _) (GDisk.len d0)) ?_
 refine bindK H fun r'1 h1 H => ?_
 refine rp Y Y (p_callp Y Y Y Try.func10 Y Y (g_disk_Check_ac h1) ⟨Y, trivial⟩) ?_
 refine rp Y Y (p_asg Y Y) ?_
 refine rz [(1, .i i1), (2, .q 2 (0)), (4, .q 4 (0)), (6, .i r'1)] [(2, .pure (GDisk.cs d0)), (4, .pure (bcells ((Vector.replicate 32 (0 : UInt8)).toList)))] Y Y Y ?_
 refine sg [0, 1] Y ?_
 refine rp Y Y (p_move Y Y) ?_
 refine rp Y Y (p_ine Y Y Y) ?_
 refine rz [(1, .i i1), (2, .q 2 (0)), (4, .q 4 (0)), (6, .i r'1), (13, .b (decide (r'1 ≠ (0 : Int))))] [(2, .pure (GDisk.cs d0)), (4, .pure (bcells ((Vector.replicate 32 (0 : UInt8)).toList)))] Y Y Y ?_
 refine AW2_if (p := r'1 ≠ (0 : Int)) Y (fun h2 => ?_) (fun h2 => ?_)
 ·replace H := ite_then h2 H
  refine sg [0, 1, 2, 3] Y ?_
  refine rp Y Y (u_blda Y in_32 one_32 zc_32 Try.underlying32 in_5 Y Y) ?_
  refine rp Y Y (p_move Y Y) ?_
  refine r_op Y Y (u_st Y Y Y Y Y in_32 ((bcells_length _).trans (vlen (Vector.replicate 32 (0 : UInt8)))) (nl ((bcells_length _).trans (vlen (Vector.replicate 32 (0 : UInt8))))) (Upd.refl (((bcells_length _).trans (vlen (Vector.replicate 32 (0 : UInt8)))).trans ((bcells_length _).trans (vlen (Vector.replicate 32 (0 : UInt8)))).symm))) ?_
  refine rp Y Y (p_asg Y Y) ?_
  refine rz [(4, .q 4 (0)), (5, .i r'1)] [(4, .pure (bcells ((Vector.replicate 32 (0 : UInt8)).toList)))] Y Y Y ?_
  refine AW2_ret ?_
  have hz := some_elim H
  subst hz
  exact ⟨⟨res_cella Try.underlying32 Y in_32.sz Y (Sub.le (Sub.refl _) ((bcells_length _).trans (vlen (Vector.replicate 32 (0 : UInt8))))) (by decide) (Sub.take (Sub.refl _) ((bcells_length _).trans (vlen (Vector.replicate 32 (0 : UInt8))))), res_tmp (.same _), trivial⟩, trivial⟩
 ·replace H := ite_else h2 H
  refine as2 [(1, .i i1), (2, .q 2 (0)), (4, .q 4 (0))] [(2, .pure (GDisk.cs d0)), (4, .pure (bcells ((Vector.replicate 32 (0 : UInt8)).toList)))] Y Y Y ?_
  refine AW2_skip ?_
  refine AW2_seq ?_
  refine AW2_seq ?_
  refine AW2_mid (⟨[(1, .i i1), (2, .q 2 (0)), (4, .q 4 (0)), (24, .b (decide ((i1 < (0 : Int)) ∨ (i1 ≥ (d0.Lasts.length : Int)))))], [(2, .pure (GDisk.cs d0)), (4, .pure (bcells ((Vector.replicate 32 (0 : UInt8)).toList)))], 46⟩ : TS) ?_ ?_
  ·refine AW2_reg [0, 1, 2, 3, 4, 5, 6, 7, 8] Y ?_
   refine rp Y Y (p_move Y Y) ?_
   refine rp Y Y (p_bin Y Y Y Y) ?_
   refine rp Y Y (p_move Y Y) ?_
   refine (Classical.em (i1 < (0 : Int))).elim (fun h3 => ?_) (fun h3 => ?_)
   ·refine r_off Y Y Y Y (dT h3) Y Y ?_
    refine r_off Y Y Y Y (dT h3) Y Y ?_
    refine r_off Y Y Y Y (dT h3) Y Y ?_
    refine r_off Y Y Y Y (dT h3) Y Y ?_
    refine r_off Y Y Y Y (dT h3) Y Y ?_
    refine rp Y Y (p_pkt Y Y (dT h3) (tb (dT (p := (i1 < (0 : Int)) ∨ (i1 ≥ (d0.Lasts.length : Int))) (Or.inl h3)).symm)) ?_
    refine rs [(1, .i i1), (2, .q 2 (0)), (4, .q 4 (0)), (24, .b (decide ((i1 < (0 : Int)) ∨ (i1 ≥ (d0.Lasts.length : Int)))))] [(2, .pure (GDisk.cs d0)), (4, .pure (bcells ((Vector.replicate 32 (0 : UInt8)).toList)))] Y Y Y ?_
    exact RunW_nil rfl
   ·refine r_on Y Y Y Y (dF h3) Y (PureD.opD (p_move Y Y)) ?_
    refine r_on Y Y Y Y (dF h3) Y (PureD.opD (u_fa Y Y Try.underlying25 Y in_22 nz Y Y (nl (GDisk.len d0)))) ?_
    refine r_on Y Y Y Y (dF h3) Y (PureD.opD (u_ld Y Y Try.underlying22 Y Y ((Sub.refl _).trans (GDisk.sub0 d0)))) ?_
    refine r_on Y Y Y Y (dF h3) Y (PureD.opD (p_lenl Y Try.underlying22 Y Y)) ?_
    refine r_on Y Y Y Y (dF h3) Y (PureD.opD (p_bin Y Y Y Y)) ?_
    refine rp Y Y (p_pkf Y Y (dF h3) (tb ((or_l (p := i1 < (0 : Int)) (q := i1 ≥ (d0.Lasts.length : Int)) h3)))) ?_
    refine rs [(1, .i i1), (2, .q 2 (0)), (4, .q 4 (0)), (24, .b (decide ((i1 < (0 : Int)) ∨ (i1 ≥ (d0.Lasts.length : Int)))))] [(2, .pure (GDisk.cs d0)), (4, .pure (bcells ((Vector.replicate 32 (0 : UInt8)).toList)))] Y Y Y ?_
    exact RunW_nil rfl
  ·refine AW2_if (p := (i1 < (0 : Int)) ∨ (i1 ≥ (d0.Lasts.length : Int))) Y (fun h4 => ?_) (fun h4 => ?_)
   ·replace H := ite_then h4 H
    refine sg [0, 1, 2] Y ?_
    refine rp Y Y (u_blda Y in_32 one_32 zc_32 Try.underlying32 in_5 Y Y) ?_
    refine r_op Y Y (u_st Y Y Y Y Y in_32 ((bcells_length _).trans (vlen (Vector.replicate 32 (0 : UInt8)))) (nl ((bcells_length _).trans (vlen (Vector.replicate 32 (0 : UInt8))))) (Upd.refl (((bcells_length _).trans (vlen (Vector.replicate 32 (0 : UInt8)))).trans ((bcells_length _).trans (vlen (Vector.replicate 32 (0 : UInt8)))).symm))) ?_
    refine rp Y Y (p_asg Y Y) ?_
    refine rz [(4, .q 4 (0)), (5, .i (6 : Int))] [(4, .pure (bcells ((Vector.replicate 32 (0 : UInt8)).toList)))] Y Y Y ?_
    refine AW2_ret ?_
    have hz := some_elim H
    subst hz
    exact ⟨⟨res_cella Try.underlying32 Y in_32.sz Y (Sub.le (Sub.refl _) ((bcells_length _).trans (vlen (Vector.replicate 32 (0 : UInt8))))) (by decide) (Sub.take (Sub.refl _) ((bcells_length _).trans (vlen (Vector.replicate 32 (0 : UInt8))))), res_tmp (.same _), trivial⟩, trivial⟩
   ·replace H := ite_else h4 H
    refine as2 [(1, .i i1), (2, .q 2 (0)), (4, .q 4 (0))] [(2, .pure (GDisk.cs d0)), (4, .pure (bcells ((Vector.replicate 32 (0 : UInt8)).toList)))] Y Y Y ?_
    refine AW2_skip ?_
    refine sg [0, 1, 2, 3, 4, 5, 6] Y ?_
    refine rp Y Y (u_fa Y Y Try.underlying25 Y in_22 nz Y Y (nl (GDisk.len d0))) ?_
    refine rp Y Y (u_ld Y Y Try.underlying22 Y Y ((Sub.refl _).trans (GDisk.sub0 d0))) ?_
    refine rp Y Y (p_move Y Y) ?_
    refine chkK H fun h5 H => ?_
    refine rp Y Y (u_ixl Y Y Try.underlying22 in_32 Y Y (ixe h5) (ixn h5) (fne (fun x => ((bcells_length _).trans (vlen x))) (by decide) (ixn h5))) ?_
    refine rp Y Y (u_lda Y Y Try.underlying32 Y in_32 Y (Nat.succ_pos _) (Sub.fm default (fun x => ((bcells_length _).trans (vlen x))) (ixn h5)) ((bcells_length _).trans (vlen (lrd d0.Lasts i1.toNat)))) ?_
    refine r_op Y Y (MakeD.opD (u_alloc 7 Y in_32 one_32 zc_32) Y Y Y Y) ?_
    refine r_op Y Y (u_st Y Y Y Y Y in_32 ((bcells_length _).trans (vlen (lrd d0.Lasts i1.toNat))) (nl ((bcells_length _).trans (vlen (Vector.replicate 32 (0 : UInt8))))) (Upd.refl (((bcells_length _).trans (vlen (lrd d0.Lasts i1.toNat))).trans ((bcells_length _).trans (vlen (Vector.replicate 32 (0 : UInt8)))).symm))) ?_
    refine rz [(1, .i i1), (2, .q 2 (0)), (4, .q 4 (0)), (7, .q 7 (0))] [(2, .pure (GDisk.cs d0)), (4, .pure (bcells ((Vector.replicate 32 (0 : UInt8)).toList))), (7, .pure (bcells ((lrd d0.Lasts i1.toNat).toList)))] Y Y Y ?_
    refine AW2_seq ?_
    refine sg [0, 1, 2, 3] Y ?_
    refine rp Y Y (u_fa Y Y Try.underlying25 Y in_23 nz Y Y (nl (GDisk.len d0))) ?_
    refine rp Y Y (u_ld Y Y Try.underlying23 Y Y ((Sub.refl _).trans (GDisk.sub1 d0))) ?_
    refine rp Y Y (p_lenl Y Try.underlying23 Y Y) ?_
    refine rp Y Y (p_move Y Y) ?_
    refine rz [(1, .i i1), (4, .q 4 (0)), (7, .q 7 (0)), (32, .p ((fun q : List GPut => AV.lst (q.flatMap GPut.cs) q.length) d0.Writes)), (33, .i (d0.Writes.length : Int)), (34, .i (0 : Int))] [(4, .pure (bcells ((Vector.replicate 32 (0 : UInt8)).toList))), (7, .pure (bcells ((lrd d0.Lasts i1.toNat).toList)))] Y Y Y ?_
    refine AW2_block ?_
    refine as2 [(1, .i i1), (4, .q 4 (0)), (7, .q 7 (0)), (32, .p ((fun q : List GPut => AV.lst (q.flatMap GPut.cs) q.length) d0.Writes)), (33, .i (d0.Writes.length : Int)), (34, .i (0 : Int))] [(4, .pure (bcells ((Vector.replicate 32 (0 : UInt8)).toList))), (7, .pure (bcells ((lrd d0.Lasts i1.toNat).toList)))] Y Y Y ?_
    refine bindK H fun y'6 h10 H => ?_
    refine AW2_loopO (fun a'3 : Int × (Vector UInt8 32) => (⟨[(1, .i i1), (4, .q 4 (0)), (7, .q 7 (0)), (32, .p ((fun q : List GPut => AV.lst (q.flatMap GPut.cs) q.length) d0.Writes)), (33, .i (d0.Writes.length : Int)), (34, .i a'3.1)], [(4, .pure (bcells ((Vector.replicate 32 (0 : UInt8)).toList))), (7, .pure (bcells a'3.2.toList))], 46⟩ : TS)) (fun (y'4 : ((Vector UInt8 32))) e s' => e = Go.Exit.exit 0 ∧ s' = (⟨[(4, .q 4 (0)), (7, .q 7 (0))], [(4, .pure (bcells ((Vector.replicate 32 (0 : UInt8)).toList))), (7, .pure (bcells y'4.toList))], 46⟩ : TS)) h10 Y (fun a x hx => ?_) (fun e s' hs => ?_)
    ·clear H
     obtain ⟨t34_0, b7_0⟩ := a
     have H := hx
     clear hx
     unfold g_disk_Read_l0 at H
     refine sg [0] Y ?_
     refine rp Y Y (p_bin Y Y Y Y) ?_
     refine rz [(1, .i i1), (4, .q 4 (0)), (7, .q 7 (0)), (32, .p ((fun q : List GPut => AV.lst (q.flatMap GPut.cs) q.length) d0.Writes)), (33, .i (d0.Writes.length : Int)), (34, .i t34_0), (35, .b (decide (t34_0 < (d0.Writes.length : Int))))] [(4, .pure (bcells ((Vector.replicate 32 (0 : UInt8)).toList))), (7, .pure (bcells b7_0.toList))] Y Y Y ?_
     refine AW2_seq ?_
     refine AW2_if (p := t34_0 < (d0.Writes.length : Int)) Y (fun h6 => ?_) (fun h6 => ?_)
     ·replace H := ite_then h6 H
      refine as2 [(1, .i i1), (4, .q 4 (0)), (7, .q 7 (0)), (32, .p ((fun q : List GPut => AV.lst (q.flatMap GPut.cs) q.length) d0.Writes)), (33, .i (d0.Writes.length : Int)), (34, .i t34_0)] [(4, .pure (bcells ((Vector.replicate 32 (0 : UInt8)).toList))), (7, .pure (bcells b7_0.toList))] Y Y Y ?_
      refine AW2_skip ?_
      refine AW2_seq ?_
      refine bindK H fun j'2 h7 H => ?_
      refine AW2_mid (⟨[(1, .i i1), (4, .q 4 (0)), (7, .q 7 (0)), (32, .p ((fun q : List GPut => AV.lst (q.flatMap GPut.cs) q.length) d0.Writes)), (33, .i (d0.Writes.length : Int)), (34, .i t34_0)], [(4, .pure (bcells ((Vector.replicate 32 (0 : UInt8)).toList))), (7, .pure (bcells j'2.toList))], 46⟩ : TS) ?_ ?_
      ·clear H
       have H := h7
       clear h7
       refine AW2_block ?_
       refine sg [0, 1, 2, 3] Y ?_
       refine chkK H fun h8 H => ?_
       refine rp Y Y (u_ixl Y Y Try.underlying23 in_70 Y Y (ixe h8) (ixn h8) (fne (fun x => (GPut.len x)) (by decide) (ixn h8))) ?_
       refine rp Y Y (u_lda Y Y Try.underlying70 Y in_70 Y (Nat.succ_pos _) (Sub.fm default (fun x => (GPut.len x)) (ixn h8)) (GPut.len (lrd d0.Writes t34_0.toNat))) ?_
       refine r_op Y Y (MakeD.opD (u_alloc 9 Y in_70 one_70 zc_70) Y Y Y Y) ?_
       refine r_op Y Y (u_st Y Y Y Y Y in_70 (GPut.len (lrd d0.Writes t34_0.toNat)) (nl (GPut.len GPut.zero)) (Upd.refl ((GPut.len (lrd d0.Writes t34_0.toNat)).trans (GPut.len GPut.zero).symm))) ?_
       refine rz [(1, .i i1), (4, .q 4 (0)), (7, .q 7 (0)), (9, .q 9 (0)), (32, .p ((fun q : List GPut => AV.lst (q.flatMap GPut.cs) q.length) d0.Writes)), (33, .i (d0.Writes.length : Int)), (34, .i t34_0)] [(4, .pure (bcells ((Vector.replicate 32 (0 : UInt8)).toList))), (7, .pure (bcells b7_0.toList)), (9, .pure (GPut.cs (lrd d0.Writes t34_0.toNat)))] Y Y Y ?_
       refine sg [0, 1, 2, 3] Y ?_
       refine rp Y Y (u_fa Y Y Try.underlying70 Y in_3 nz Y Y (nl (GPut.len (lrd d0.Writes t34_0.toNat)))) ?_
       refine rp Y Y (u_ld Y Y Try.underlying3 Y Y ((Sub.refl _).trans (GPut.sub0 (lrd d0.Writes t34_0.toNat)))) ?_
       refine rp Y Y (p_move Y Y) ?_
       refine rp Y Y (p_ieq Y Y Y) ?_
       refine rz [(1, .i i1), (4, .q 4 (0)), (7, .q 7 (0)), (9, .q 9 (0)), (32, .p ((fun q : List GPut => AV.lst (q.flatMap GPut.cs) q.length) d0.Writes)), (33, .i (d0.Writes.length : Int)), (34, .i t34_0), (41, .b (decide ((lrd d0.Writes t34_0.toNat).At = i1)))] [(4, .pure (bcells ((Vector.replicate 32 (0 : UInt8)).toList))), (7, .pure (bcells b7_0.toList)), (9, .pure (GPut.cs (lrd d0.Writes t34_0.toNat)))] Y Y Y ?_
       refine AW2_if (p := (lrd d0.Writes t34_0.toNat).At = i1) Y (fun h9 => ?_) (fun h9 => ?_)
       ·replace H := ite_then h9 H
        refine AW2_reg [0, 1, 2] Y ?_
        refine rp Y Y (u_fa Y Y Try.underlying70 Y in_32 nz Y Y (nl (GPut.len (lrd d0.Writes t34_0.toNat)))) ?_
        refine rp Y Y (u_lda Y Y Try.underlying32 Y in_32 Y (Nat.succ_pos _) ((Sub.refl _).trans (GPut.sub1 (lrd d0.Writes t34_0.toNat))) ((bcells_length _).trans (vlen ((lrd d0.Writes t34_0.toNat).Data)))) ?_
        refine r_op Y Y (u_st Y Y Y Y Y in_32 ((bcells_length _).trans (vlen ((lrd d0.Writes t34_0.toNat).Data))) (nl ((bcells_length _).trans (vlen b7_0))) (Upd.refl (((bcells_length _).trans (vlen ((lrd d0.Writes t34_0.toNat).Data))).trans ((bcells_length _).trans (vlen b7_0)).symm))) ?_
        refine rz [(1, .i i1), (4, .q 4 (0)), (7, .q 7 (0)), (32, .p ((fun q : List GPut => AV.lst (q.flatMap GPut.cs) q.length) d0.Writes)), (33, .i (d0.Writes.length : Int)), (34, .i t34_0)] [(4, .pure (bcells ((Vector.replicate 32 (0 : UInt8)).toList))), (7, .pure (bcells (((lrd d0.Writes t34_0.toNat).Data).toList)))] Y Y Y ?_
        have hz := some_elim H
        subst hz
        exact rfl
       ·replace H := ite_else h9 H
        refine as2 [(1, .i i1), (4, .q 4 (0)), (7, .q 7 (0)), (32, .p ((fun q : List GPut => AV.lst (q.flatMap GPut.cs) q.length) d0.Writes)), (33, .i (d0.Writes.length : Int)), (34, .i t34_0)] [(4, .pure (bcells ((Vector.replicate 32 (0 : UInt8)).toList))), (7, .pure (bcells b7_0.toList))] Y Y Y ?_
        refine AW2_skip ?_
        have hz := some_elim H
        subst hz
        exact rfl
      ·refine AW2_reg [0, 1] Y ?_
       refine rp Y Y (p_bin Y Y Y Y) ?_
       refine rp Y Y (p_move Y Y) ?_
       refine rz [(1, .i i1), (4, .q 4 (0)), (7, .q 7 (0)), (32, .p ((fun q : List GPut => AV.lst (q.flatMap GPut.cs) q.length) d0.Writes)), (33, .i (d0.Writes.length : Int)), (34, .i (w64 (t34_0 + (1 : Int))))] [(4, .pure (bcells ((Vector.replicate 32 (0 : UInt8)).toList))), (7, .pure (bcells j'2.toList))] Y Y Y ?_
       have hz := some_elim H
       subst hz
       exact ⟨Y, Y⟩
     ·replace H := ite_else h6 H
      refine as2 [(4, .q 4 (0)), (7, .q 7 (0))] [(4, .pure (bcells ((Vector.replicate 32 (0 : UInt8)).toList))), (7, .pure (bcells b7_0.toList))] Y Y Y ?_
      refine AW2_exit ?_
      refine thenQ2_exit ?_
      have hz := some_elim H
      subst hz
      exact ⟨Y, Y⟩
    ·obtain ⟨rfl, rfl⟩ := hs
     refine ⟨by simp, ?_⟩
     refine blockQ2_exit ?_
     refine sg [0, 1, 2] Y ?_
     refine rp Y Y (u_lda Y Y Try.underlying32 Y in_32 Y (Nat.succ_pos _) (Sub.refl _) ((bcells_length _).trans (vlen y'6))) ?_
     refine r_op Y Y (u_st Y Y Y Y Y in_32 ((bcells_length _).trans (vlen y'6)) (nl ((bcells_length _).trans (vlen (Vector.replicate 32 (0 : UInt8))))) (Upd.refl (((bcells_length _).trans (vlen y'6)).trans ((bcells_length _).trans (vlen (Vector.replicate 32 (0 : UInt8)))).symm))) ?_
     refine rp Y Y (p_asg Y Y) ?_
     refine rz [(4, .q 4 (0)), (5, .i (0 : Int))] [(4, .pure (bcells y'6.toList))] Y Y Y ?_
     refine AW2_ret ?_
     have hz := some_elim H
     subst hz
     exact ⟨⟨res_cella Try.underlying32 Y in_32.sz Y (Sub.le (Sub.refl _) ((bcells_length _).trans (vlen y'6))) (by decide) (Sub.take (Sub.refl _) ((bcells_length _).trans (vlen y'6))), res_tmp (.same _), trivial⟩, trivial⟩

/-! tape.number -/
noncomputable def g_tape_number_l0 (b0 : List UInt8) : Int × Int → Option ((Int × Int) ⊕ (Int))
  | (n3_0, t8_0) => (if t8_0 < (b0.length : Int) then if 0 ≤ t8_0 ∧ t8_0 < (b0.length : Int) then some (.inl (ior (ishl n3_0 8) ((lrd b0 t8_0.toNat).toNat : Int), w64 (t8_0 + (1 : Int)))) else none else some (.inr n3_0))
noncomputable def g_tape_number (b0 : List UInt8) : Option (Int) :=
  (loopO (g_tape_number_l0 b0) ((0 : Int), (0 : Int))).bind fun y'4 => some y'4
set_option maxHeartbeats 4000000 in
set_option maxRecDepth 100000 in
theorem g_tape_number_ac {b0 : List UInt8} {r : Int} (H : g_tape_number b0 = some r) : ACp Try.prog 35 [(AV.bytes b0)] (AV.int r) := by
 refine ACp_of (AC2_of_body (vs := [.i r]) Try.func35 Y Y (Nat.le_of_ble_eq_true Y) Y ?_) (fun _ => .same _)
 unfold g_tape_number at H
 refine as2 [(0, .y b0)] [] Y Y Y ?_
 refine sg [0] Y ?_
 refine rp Y Y (p_asg Y Y) ?_
 refine rz [(0, .y b0)] [] Y Y Y ?_
 refine sg [0] Y ?_
 refine rp Y Y (p_asg Y Y) ?_
 refine rz [(0, .y b0), (3, .i (0 : Int))] [] Y Y Y ?_
 refine AW2_seq ?_
 refine sg [0, 1, 2] Y ?_
 refine rp Y Y (p_move Y Y) ?_
 refine rp Y Y (p_lenl Y Try.underlying45 Y Y) ?_
 refine rp Y Y (p_move Y Y) ?_
 refine rz [(3, .i (0 : Int)), (6, .y b0), (7, .i (b0.length : Int)), (8, .i (0 : Int))] [] Y Y Y ?_
 refine AW2_block ?_
 refine as2 [(3, .i (0 : Int)), (6, .y b0), (7, .i (b0.length : Int)), (8, .i (0 : Int))] [] Y Y Y ?_
 refine bindK H fun y'4 h3 H => ?_
 refine AW2_loopO (fun a'1 : Int × Int => (⟨[(3, .i a'1.1), (6, .y b0), (7, .i (b0.length : Int)), (8, .i a'1.2)], [], 19⟩ : TS)) (fun (y'2 : Int) e s' => e = Go.Exit.exit 0 ∧ s' = (⟨[(3, .i y'2)], [], 19⟩ : TS)) h3 Y (fun a x hx => ?_) (fun e s' hs => ?_)
 ·clear H
  obtain ⟨n3_0, t8_0⟩ := a
  have H := hx
  clear hx
  unfold g_tape_number_l0 at H
  refine sg [0] Y ?_
  refine rp Y Y (p_bin Y Y Y Y) ?_
  refine rz [(3, .i n3_0), (6, .y b0), (7, .i (b0.length : Int)), (8, .i t8_0), (9, .b (decide (t8_0 < (b0.length : Int))))] [] Y Y Y ?_
  refine AW2_seq ?_
  refine AW2_if (p := t8_0 < (b0.length : Int)) Y (fun h1 => ?_) (fun h1 => ?_)
  ·replace H := ite_then h1 H
   refine as2 [(3, .i n3_0), (6, .y b0), (7, .i (b0.length : Int)), (8, .i t8_0)] [] Y Y Y ?_
   refine AW2_skip ?_
   refine AW2_seq ?_
   refine AW2_block ?_
   refine sg [0, 1, 2] Y ?_
   refine chkK H fun h2 H => ?_
   refine rp Y Y (u_ixl Y Y Try.underlying45 in_5 Y Y (ixe h2) (ixn h2) (lne (ixn h2))) ?_
   refine rp Y Y (u_ld Y Y Try.underlying5 Y Y (Sub.map default (ixn h2))) ?_
   refine rp Y Y (p_asg Y Y) ?_
   refine rz [(3, .i n3_0), (5, .p (AV.b8 (lrd b0 t8_0.toNat))), (6, .y b0), (7, .i (b0.length : Int)), (8, .i t8_0)] [] Y Y Y ?_
   refine AW2_reg [0, 1, 2, 3, 4, 5] Y ?_
   refine rp Y Y (p_move Y Y) ?_
   refine rp Y Y (p_ishl (n := 8) Y Y Y Y) ?_
   refine rp Y Y (p_move Y Y) ?_
   refine rp Y Y (p_ci Y Try.underlying5 Try.underlying3 Y (wrapu8i (lrd b0 t8_0.toNat))) ?_
   refine rp Y Y (p_bin Y Y Y Y) ?_
   refine rp Y Y (p_asg Y Y) ?_
   refine rz [(3, .i (ior (ishl n3_0 8) ((lrd b0 t8_0.toNat).toNat : Int))), (6, .y b0), (7, .i (b0.length : Int)), (8, .i t8_0)] [] Y Y Y ?_
   refine AW2_reg [0, 1] Y ?_
   refine rp Y Y (p_bin Y Y Y Y) ?_
   refine rp Y Y (p_move Y Y) ?_
   refine rz [(3, .i (ior (ishl n3_0 8) ((lrd b0 t8_0.toNat).toNat : Int))), (6, .y b0), (7, .i (b0.length : Int)), (8, .i (w64 (t8_0 + (1 : Int))))] [] Y Y Y ?_
   have hz := some_elim H
   subst hz
   exact ⟨Y, Y⟩
  ·replace H := ite_else h1 H
   refine as2 [(3, .i n3_0)] [] Y Y Y ?_
   refine AW2_exit ?_
   refine thenQ2_exit ?_
   have hz := some_elim H
   subst hz
   exact ⟨Y, Y⟩
 ·obtain ⟨rfl, rfl⟩ := hs
  refine ⟨by simp, ?_⟩
  refine blockQ2_exit ?_
  refine sg [0, 1] Y ?_
  refine rp Y Y (p_move Y Y) ?_
  refine rp Y Y (p_asg Y Y) ?_
  refine rz [(2, .i y'4)] [] Y Y Y ?_
  refine AW2_ret ?_
  have hz := some_elim H
  subst hz
  exact ⟨⟨res_tmp (.same _), trivial⟩, trivial⟩

/-! tape.head -/
noncomputable def g_tape_head_l0 (r'1 : (Vector UInt8 32) × Int) : Int → Option (Int ⊕ ((Int × Int) ⊕ Unit))
  | t18_0 => (if t18_0 < (32 : Int) then if 0 ≤ t18_0 ∧ t18_0 < (32 : Int) then (if (((t18_0 ≠ (6 : Int)) ∧ (t18_0 ≠ (7 : Int))) ∧ (t18_0 ≠ (5 : Int))) ∧ ((vrd r'1.1 t18_0.toNat) ≠ (0 : UInt8)) then some (.inr (.inl ((0 : Int), (11 : Int)))) else some (.inl (w64 (t18_0 + (1 : Int))))) else none else some (.inr (.inr ())))
noncomputable def g_tape_head (d0 : GDisk) : Option (Int × Int) :=
  (g_disk_Read d0 (0 : Int)).bind fun r'1 => (if r'1.2 ≠ (0 : Int) then some ((0 : Int), r'1.2) else (loopO (g_tape_head_l0 r'1) (0 : Int)).bind fun o'5 => match o'5 with | .inl y'6 => some y'6 | .inr (y'7) => (g_tape_number (List.take 3 (List.drop 5 r'1.1.toList))).bind fun r'8 => (if r'8 > w64 ((w64 ((d0.Lasts.length : Int) - (1 : Int))) * (32 : Int)) then some ((0 : Int), (11 : Int)) else some (r'8, (0 : Int))))
set_option maxHeartbeats 4000000 in
set_option maxRecDepth 100000 in
theorem g_tape_head_ac {d0 : GDisk} {r : Int × Int} (H : g_tape_head d0 = some r) : ACp Try.prog 47 [(.agg (GDisk.cs d0))] (.tup [(AV.int r.1), (AV.int r.2)]) := by
 refine ACp_of (AC2_of_body (vs := [.i r.1, .i r.2]) Try.func47 Y Y (Nat.le_of_ble_eq_true Y) Y ?_) (fun _ => .same _)
 unfold g_tape_head at H
 refine as2 [(0, .g (GDisk.cs d0))] [] Y Y Y ?_
 refine sg [0, 1, 2] Y ?_
 refine r_op Y Y (MakeD.opD (n_box 1 Y Y) Y Y Y Y) ?_
 refine rp Y Y (p_asg Y Y) ?_
 refine rp Y Y (p_asg Y Y) ?_
 refine rz [(1, .q 1 (0))] [(1, .pure (GDisk.cs d0))] Y Y Y ?_
 refine sg [0, 1, 2, 3, 4, 5, 6, 7] Y ?_
 refine rp Y Y (u_lda Y Y Try.underlying25 Y in_25 Y (Nat.succ_pos _) (Sub.refl _) (GDisk.len d0)) ?_
 refine bindK H fun r'1 h1 H => ?_
 refine rp Y Y (p_callp Y Y Y Try.func14 Y Y (g_disk_Read_ac h1) ⟨Y, Y, trivial⟩) ?_
 refine rp Y Y (p_move Y Y) ?_
 refine rp Y Y (p_ext Y Y Y Y) ?_
 refine rp Y Y (p_ext Y Y Y Y) ?_
 refine r_op Y Y (MakeD.opD (u_alloc 4 Y in_32 one_32 zc_32) Y Y Y Y) ?_
 refine r_op Y Y (u_st Y Y Y Y Y in_32 ((bcells_length _).trans (vlen r'1.1)) (nl ((bcells_length _).trans (vlen (Vector.replicate 32 (0 : UInt8))))) (Upd.refl (((bcells_length _).trans (vlen r'1.1)).trans ((bcells_length _).trans (vlen (Vector.replicate 32 (0 : UInt8)))).symm))) ?_
 refine rp Y Y (p_asg Y Y) ?_
 refine rz [(1, .q 1 (0)), (4, .q 4 (0)), (5, .i r'1.2)] [(1, .pure (GDisk.cs d0)), (4, .pure (bcells r'1.1.toList))] Y Y Y ?_
 refine AW2_seq ?_
 refine sg [0, 1] Y ?_
 refine rp Y Y (p_move Y Y) ?_
 refine rp Y Y (p_ine Y Y Y) ?_
 refine rz [(1, .q 1 (0)), (4, .q 4 (0)), (5, .i r'1.2), (15, .b (decide (r'1.2 ≠ (0 : Int))))] [(1, .pure (GDisk.cs d0)), (4, .pure (bcells r'1.1.toList))] Y Y Y ?_
 refine AW2_if (p := r'1.2 ≠ (0 : Int)) Y (fun h2 => ?_) (fun h2 => ?_)
 ·replace H := ite_then h2 H
  refine sg [0, 1, 2] Y ?_
  refine rp Y Y (p_move Y Y) ?_
  refine rp Y Y (p_asg Y Y) ?_
  refine rp Y Y (p_asg Y Y) ?_
  refine rz [(2, .i (0 : Int)), (3, .i r'1.2)] [] Y Y Y ?_
  refine AW2_ret ?_
  have hz := some_elim H
  subst hz
  exact ⟨⟨res_tmp (.same _), res_tmp (.same _), trivial⟩, trivial⟩
 ·replace H := ite_else h2 H
  refine as2 [(1, .q 1 (0)), (4, .q 4 (0))] [(1, .pure (GDisk.cs d0)), (4, .pure (bcells r'1.1.toList))] Y Y Y ?_
  refine AW2_skip ?_
  refine AW2_seq ?_
  refine sg [0, 1] Y ?_
  refine rp Y Y (u_lda Y Y Try.underlying32 Y in_32 Y (Nat.succ_pos _) (Sub.refl _) ((bcells_length _).trans (vlen r'1.1))) ?_
  refine rp Y Y (p_move Y Y) ?_
  refine rz [(1, .q 1 (0)), (4, .q 4 (0)), (17, .g (bcells r'1.1.toList)), (18, .i (0 : Int))] [(1, .pure (GDisk.cs d0)), (4, .pure (bcells r'1.1.toList))] Y Y Y ?_
  refine AW2_block ?_
  refine as2 [(1, .q 1 (0)), (4, .q 4 (0)), (17, .g (bcells r'1.1.toList)), (18, .i (0 : Int))] [(1, .pure (GDisk.cs d0)), (4, .pure (bcells r'1.1.toList))] Y Y Y ?_
  refine bindK H fun o'5 h9 H => ?_
  refine AW2_loopO (fun a'2 : Int => (⟨[(1, .q 1 (0)), (4, .q 4 (0)), (17, .g (bcells r'1.1.toList)), (18, .i a'2)], [(1, .pure (GDisk.cs d0)), (4, .pure (bcells r'1.1.toList))], 47⟩ : TS)) (fun (o : (Int × Int) ⊕ Unit) e s' => match o with | .inl y'3 => e = Go.Exit.ret ∧ ResAll Try.prog s' [ResultVar.tmp 2, ResultVar.tmp 3] [.i y'3.1, .i y'3.2] ∧ HFits s' [] | .inr (y'4) => e = Go.Exit.exit 0 ∧ s' = (⟨[(1, .q 1 (0)), (4, .q 4 (0))], [(1, .pure (GDisk.cs d0)), (4, .pure (bcells r'1.1.toList))], 47⟩ : TS)) h9 Y (fun t18_0 x hx => ?_) (fun e s' hs => ?_)
  ·clear H
   have H := hx
   clear hx
   unfold g_tape_head_l0 at H
   refine sg [0] Y ?_
   refine rp Y Y (p_bin Y Y Y Y) ?_
   refine rz [(1, .q 1 (0)), (4, .q 4 (0)), (17, .g (bcells r'1.1.toList)), (18, .i t18_0), (19, .b (decide (t18_0 < (32 : Int))))] [(1, .pure (GDisk.cs d0)), (4, .pure (bcells r'1.1.toList))] Y Y Y ?_
   refine AW2_seq ?_
   refine AW2_if (p := t18_0 < (32 : Int)) Y (fun h3 => ?_) (fun h3 => ?_)
   ·replace H := ite_then h3 H
    refine as2 [(1, .q 1 (0)), (4, .q 4 (0)), (17, .g (bcells r'1.1.toList)), (18, .i t18_0)] [(1, .pure (GDisk.cs d0)), (4, .pure (bcells r'1.1.toList))] Y Y Y ?_
    refine AW2_skip ?_
    refine AW2_seq ?_
    refine AW2_block ?_
    refine sg [0, 1, 2, 3] Y ?_
    refine rp Y Y (p_move Y Y) ?_
    refine chkK H fun h4 H => ?_
    refine rp Y Y (u_ixa Y Y Try.underlying32 in_5 Try.underlying5 Y Y Y (ixe h4) (ixn h4) (Sub.vmap (ixn h4))) ?_
    refine rp Y Y (p_asg Y Y) ?_
    refine rp Y Y (p_asg Y Y) ?_
    refine rz [(1, .q 1 (0)), (4, .q 4 (0)), (6, .i t18_0), (7, .p (AV.b8 (vrd r'1.1 t18_0.toNat))), (17, .g (bcells r'1.1.toList)), (18, .i t18_0)] [(1, .pure (GDisk.cs d0)), (4, .pure (bcells r'1.1.toList))] Y Y Y ?_
    refine AW2_seq ?_
    refine AW2_mid (⟨[(1, .q 1 (0)), (4, .q 4 (0)), (17, .g (bcells r'1.1.toList)), (18, .i t18_0), (35, .b (decide ((((t18_0 ≠ (6 : Int)) ∧ (t18_0 ≠ (7 : Int))) ∧ (t18_0 ≠ (5 : Int))) ∧ ((vrd r'1.1 t18_0.toNat) ≠ (0 : UInt8)))))], [(1, .pure (GDisk.cs d0)), (4, .pure (bcells r'1.1.toList))], 47⟩ : TS) ?_ ?_
    ·refine AW2_reg [0, 1, 2, 3, 4, 5, 6, 7, 8, 9, 10, 11, 12, 13] Y ?_
     refine rp Y Y (p_move Y Y) ?_
     refine rp Y Y (p_ine Y Y Y) ?_
     refine rp Y Y (p_move Y Y) ?_
     refine (Classical.em (t18_0 ≠ (6 : Int))).elim (fun h5 => ?_) (fun h5 => ?_)
     ·refine r_on Y Y Y Y (dT h5) Y (PureD.opD (p_move Y Y)) ?_
      refine r_on Y Y Y Y (dT h5) Y (PureD.opD (p_ine Y Y Y)) ?_
      refine rp Y Y (p_pkt Y Y (dT h5) (tb ((and_l (p := t18_0 ≠ (6 : Int)) (q := t18_0 ≠ (7 : Int)) h5)))) ?_
      refine rp Y Y (p_move Y Y) ?_
      refine (Classical.em (t18_0 ≠ (7 : Int))).elim (fun h6 => ?_) (fun h6 => ?_)
      ·refine r_on Y Y Y Y (dT (p := (t18_0 ≠ (6 : Int)) ∧ (t18_0 ≠ (7 : Int))) ⟨h5, h6⟩) Y (PureD.opD (p_move Y Y)) ?_
       refine r_on Y Y Y Y (dT (p := (t18_0 ≠ (6 : Int)) ∧ (t18_0 ≠ (7 : Int))) ⟨h5, h6⟩) Y (PureD.opD (p_ine Y Y Y)) ?_
       refine rp Y Y (p_pkt Y Y (dT (p := (t18_0 ≠ (6 : Int)) ∧ (t18_0 ≠ (7 : Int))) ⟨h5, h6⟩) (tb ((and_l (p := (t18_0 ≠ (6 : Int)) ∧ (t18_0 ≠ (7 : Int))) (q := t18_0 ≠ (5 : Int)) ⟨h5, h6⟩)))) ?_
       refine rp Y Y (p_move Y Y) ?_
       refine (Classical.em (t18_0 ≠ (5 : Int))).elim (fun h7 => ?_) (fun h7 => ?_)
       ·refine r_on Y Y Y Y (dT (p := ((t18_0 ≠ (6 : Int)) ∧ (t18_0 ≠ (7 : Int))) ∧ (t18_0 ≠ (5 : Int))) ⟨⟨h5, h6⟩, h7⟩) Y (PureD.opD (p_move Y Y)) ?_
        refine r_on Y Y Y Y (dT (p := ((t18_0 ≠ (6 : Int)) ∧ (t18_0 ≠ (7 : Int))) ∧ (t18_0 ≠ (5 : Int))) ⟨⟨h5, h6⟩, h7⟩) Y (PureD.opD (p_u8ne (a := (vrd r'1.1 t18_0.toNat)) (b := (0 : UInt8)) Y Y Y)) ?_
        refine rp Y Y (p_pkt Y Y (dT (p := ((t18_0 ≠ (6 : Int)) ∧ (t18_0 ≠ (7 : Int))) ∧ (t18_0 ≠ (5 : Int))) ⟨⟨h5, h6⟩, h7⟩) (tb ((and_l (p := ((t18_0 ≠ (6 : Int)) ∧ (t18_0 ≠ (7 : Int))) ∧ (t18_0 ≠ (5 : Int))) (q := (vrd r'1.1 t18_0.toNat) ≠ (0 : UInt8)) ⟨⟨h5, h6⟩, h7⟩)))) ?_
        refine rs [(1, .q 1 (0)), (4, .q 4 (0)), (17, .g (bcells r'1.1.toList)), (18, .i t18_0), (35, .b (decide ((((t18_0 ≠ (6 : Int)) ∧ (t18_0 ≠ (7 : Int))) ∧ (t18_0 ≠ (5 : Int))) ∧ ((vrd r'1.1 t18_0.toNat) ≠ (0 : UInt8)))))] [(1, .pure (GDisk.cs d0)), (4, .pure (bcells r'1.1.toList))] Y Y Y ?_
        exact RunW_nil rfl
       ·refine r_off Y Y Y Y (dF (p := ((t18_0 ≠ (6 : Int)) ∧ (t18_0 ≠ (7 : Int))) ∧ (t18_0 ≠ (5 : Int))) (fun h => h7 h.2)) Y Y ?_
        refine r_off Y Y Y Y (dF (p := ((t18_0 ≠ (6 : Int)) ∧ (t18_0 ≠ (7 : Int))) ∧ (t18_0 ≠ (5 : Int))) (fun h => h7 h.2)) Y Y ?_
        refine rp Y Y (p_pkf Y Y (dF (p := ((t18_0 ≠ (6 : Int)) ∧ (t18_0 ≠ (7 : Int))) ∧ (t18_0 ≠ (5 : Int))) (fun h => h7 h.2)) (tb (dF (p := (((t18_0 ≠ (6 : Int)) ∧ (t18_0 ≠ (7 : Int))) ∧ (t18_0 ≠ (5 : Int))) ∧ ((vrd r'1.1 t18_0.toNat) ≠ (0 : UInt8))) (fun x => (fun h => h7 h.2) x.1)).symm)) ?_
        refine rs [(1, .q 1 (0)), (4, .q 4 (0)), (17, .g (bcells r'1.1.toList)), (18, .i t18_0), (35, .b (decide ((((t18_0 ≠ (6 : Int)) ∧ (t18_0 ≠ (7 : Int))) ∧ (t18_0 ≠ (5 : Int))) ∧ ((vrd r'1.1 t18_0.toNat) ≠ (0 : UInt8)))))] [(1, .pure (GDisk.cs d0)), (4, .pure (bcells r'1.1.toList))] Y Y Y ?_
        exact RunW_nil rfl
      ·refine r_off Y Y Y Y (dF (p := (t18_0 ≠ (6 : Int)) ∧ (t18_0 ≠ (7 : Int))) (fun h => h6 h.2)) Y Y ?_
       refine r_off Y Y Y Y (dF (p := (t18_0 ≠ (6 : Int)) ∧ (t18_0 ≠ (7 : Int))) (fun h => h6 h.2)) Y Y ?_
       refine rp Y Y (p_pkf Y Y (dF (p := (t18_0 ≠ (6 : Int)) ∧ (t18_0 ≠ (7 : Int))) (fun h => h6 h.2)) (tb (dF (p := ((t18_0 ≠ (6 : Int)) ∧ (t18_0 ≠ (7 : Int))) ∧ (t18_0 ≠ (5 : Int))) (fun x => (fun h => h6 h.2) x.1)).symm)) ?_
       refine rp Y Y (p_move Y Y) ?_
       refine r_off Y Y Y Y (dF (p := ((t18_0 ≠ (6 : Int)) ∧ (t18_0 ≠ (7 : Int))) ∧ (t18_0 ≠ (5 : Int))) (fun h => (fun h => h6 h.2) h.1)) Y Y ?_
       refine r_off Y Y Y Y (dF (p := ((t18_0 ≠ (6 : Int)) ∧ (t18_0 ≠ (7 : Int))) ∧ (t18_0 ≠ (5 : Int))) (fun h => (fun h => h6 h.2) h.1)) Y Y ?_
       refine rp Y Y (p_pkf Y Y (dF (p := ((t18_0 ≠ (6 : Int)) ∧ (t18_0 ≠ (7 : Int))) ∧ (t18_0 ≠ (5 : Int))) (fun h => (fun h => h6 h.2) h.1)) (tb (dF (p := (((t18_0 ≠ (6 : Int)) ∧ (t18_0 ≠ (7 : Int))) ∧ (t18_0 ≠ (5 : Int))) ∧ ((vrd r'1.1 t18_0.toNat) ≠ (0 : UInt8))) (fun x => (fun h => (fun h => h6 h.2) h.1) x.1)).symm)) ?_
       refine rs [(1, .q 1 (0)), (4, .q 4 (0)), (17, .g (bcells r'1.1.toList)), (18, .i t18_0), (35, .b (decide ((((t18_0 ≠ (6 : Int)) ∧ (t18_0 ≠ (7 : Int))) ∧ (t18_0 ≠ (5 : Int))) ∧ ((vrd r'1.1 t18_0.toNat) ≠ (0 : UInt8)))))] [(1, .pure (GDisk.cs d0)), (4, .pure (bcells r'1.1.toList))] Y Y Y ?_
       exact RunW_nil rfl
     ·refine r_off Y Y Y Y (dF h5) Y Y ?_
      refine r_off Y Y Y Y (dF h5) Y Y ?_
      refine rp Y Y (p_pkf Y Y (dF h5) (tb (dF (p := (t18_0 ≠ (6 : Int)) ∧ (t18_0 ≠ (7 : Int))) (fun x => h5 x.1)).symm)) ?_
      refine rp Y Y (p_move Y Y) ?_
      refine r_off Y Y Y Y (dF (p := (t18_0 ≠ (6 : Int)) ∧ (t18_0 ≠ (7 : Int))) (fun h => h5 h.1)) Y Y ?_
      refine r_off Y Y Y Y (dF (p := (t18_0 ≠ (6 : Int)) ∧ (t18_0 ≠ (7 : Int))) (fun h => h5 h.1)) Y Y ?_
      refine rp Y Y (p_pkf Y Y (dF (p := (t18_0 ≠ (6 : Int)) ∧ (t18_0 ≠ (7 : Int))) (fun h => h5 h.1)) (tb (dF (p := ((t18_0 ≠ (6 : Int)) ∧ (t18_0 ≠ (7 : Int))) ∧ (t18_0 ≠ (5 : Int))) (fun x => (fun h => h5 h.1) x.1)).symm)) ?_
      refine rp Y Y (p_move Y Y) ?_
      refine r_off Y Y Y Y (dF (p := ((t18_0 ≠ (6 : Int)) ∧ (t18_0 ≠ (7 : Int))) ∧ (t18_0 ≠ (5 : Int))) (fun h => (fun h => h5 h.1) h.1)) Y Y ?_
      refine r_off Y Y Y Y (dF (p := ((t18_0 ≠ (6 : Int)) ∧ (t18_0 ≠ (7 : Int))) ∧ (t18_0 ≠ (5 : Int))) (fun h => (fun h => h5 h.1) h.1)) Y Y ?_
      refine rp Y Y (p_pkf Y Y (dF (p := ((t18_0 ≠ (6 : Int)) ∧ (t18_0 ≠ (7 : Int))) ∧ (t18_0 ≠ (5 : Int))) (fun h => (fun h => h5 h.1) h.1)) (tb (dF (p := (((t18_0 ≠ (6 : Int)) ∧ (t18_0 ≠ (7 : Int))) ∧ (t18_0 ≠ (5 : Int))) ∧ ((vrd r'1.1 t18_0.toNat) ≠ (0 : UInt8))) (fun x => (fun h => (fun h => h5 h.1) h.1) x.1)).symm)) ?_
      refine rs [(1, .q 1 (0)), (4, .q 4 (0)), (17, .g (bcells r'1.1.toList)), (18, .i t18_0), (35, .b (decide ((((t18_0 ≠ (6 : Int)) ∧ (t18_0 ≠ (7 : Int))) ∧ (t18_0 ≠ (5 : Int))) ∧ ((vrd r'1.1 t18_0.toNat) ≠ (0 : UInt8)))))] [(1, .pure (GDisk.cs d0)), (4, .pure (bcells r'1.1.toList))] Y Y Y ?_
      exact RunW_nil rfl
    ·refine AW2_if (p := (((t18_0 ≠ (6 : Int)) ∧ (t18_0 ≠ (7 : Int))) ∧ (t18_0 ≠ (5 : Int))) ∧ ((vrd r'1.1 t18_0.toNat) ≠ (0 : UInt8))) Y (fun h8 => ?_) (fun h8 => ?_)
     ·replace H := ite_then h8 H
      refine sg [0, 1] Y ?_
      refine rp Y Y (p_asg Y Y) ?_
      refine rp Y Y (p_asg Y Y) ?_
      refine rz [(2, .i (0 : Int)), (3, .i (11 : Int))] [] Y Y Y ?_
      refine AW2_ret ?_
      have hz := some_elim H
      subst hz
      exact ⟨Y, ⟨res_tmp (.same _), res_tmp (.same _), trivial⟩, trivial⟩
     ·replace H := ite_else h8 H
      refine as2 [(1, .q 1 (0)), (4, .q 4 (0)), (17, .g (bcells r'1.1.toList)), (18, .i t18_0)] [(1, .pure (GDisk.cs d0)), (4, .pure (bcells r'1.1.toList))] Y Y Y ?_
      refine AW2_skip ?_
      refine AW2_reg [0, 1] Y ?_
      refine rp Y Y (p_bin Y Y Y Y) ?_
      refine rp Y Y (p_move Y Y) ?_
      refine rz [(1, .q 1 (0)), (4, .q 4 (0)), (17, .g (bcells r'1.1.toList)), (18, .i (w64 (t18_0 + (1 : Int))))] [(1, .pure (GDisk.cs d0)), (4, .pure (bcells r'1.1.toList))] Y Y Y ?_
      have hz := some_elim H
      subst hz
      exact ⟨Y, Y⟩
   ·replace H := ite_else h3 H
    refine as2 [(1, .q 1 (0)), (4, .q 4 (0))] [(1, .pure (GDisk.cs d0)), (4, .pure (bcells r'1.1.toList))] Y Y Y ?_
    refine AW2_exit ?_
    refine thenQ2_exit ?_
    have hz := some_elim H
    subst hz
    exact ⟨Y, Y⟩
  ·rcases o'5 with y'6 | y'7
   ·obtain ⟨rfl, hs⟩ := hs
    refine ⟨by simp, ?_⟩
    have hz := some_elim H
    subst hz
    exact ⟨hs.1, hs.2⟩
   ·obtain ⟨rfl, rfl⟩ := hs
    refine ⟨by simp, ?_⟩
    refine blockQ2_exit ?_
    refine sg [0, 1, 2] Y ?_
    refine rp Y Y (u_cutp (l := 5) (h := 8) Y Y Try.underlying32 in_5 Y Y (nl ((bcells_length _).trans (vlen r'1.1))) (Sub.refl _) (((bcells_length _).trans (vlen r'1.1)).trans (by decide)) ⟨_, Y⟩ ⟨_, Y⟩ (by decide) (by decide) (by decide)) ?_
    refine bindK H fun r'8 h10 H => ?_
    refine rp Y Y (p_calll Y Y Y Try.func35 Y Y (g_tape_number_ac h10) Y ⟨lend_slp Y Y Y (nl ((bcells_length _).trans (vlen r'1.1))) (Sub.partB (a := 5) (k := 3) (Sub.refl _) (vlen _) (by decide)) ((bcells_length _).trans (part_len (vlen _) (by decide))) (part_len (vlen _) (by decide)), trivial⟩) ?_
    refine rp Y Y (p_asg Y Y) ?_
    refine rz [(1, .q 1 (0)), (8, .i r'8)] [(1, .pure (GDisk.cs d0))] Y Y Y ?_
    refine AW2_seq ?_
    refine sg [0, 1, 2, 3, 4, 5, 6] Y ?_
    refine rp Y Y (p_move Y Y) ?_
    refine rp Y Y (u_fa Y Y Try.underlying25 Y in_22 nz Y Y (nl (GDisk.len d0))) ?_
    refine rp Y Y (u_ld Y Y Try.underlying22 Y Y ((Sub.refl _).trans (GDisk.sub0 d0))) ?_
    refine rp Y Y (p_lenl Y Try.underlying22 Y Y) ?_
    refine rp Y Y (p_bin Y Y Y Y) ?_
    refine rp Y Y (p_bin Y Y Y Y) ?_
    refine rp Y Y (p_bin Y Y Y Y) ?_
    refine rz [(8, .i r'8), (45, .b (decide (r'8 > w64 ((w64 ((d0.Lasts.length : Int) - (1 : Int))) * (32 : Int)))))] [] Y Y Y ?_
    refine AW2_if (p := r'8 > w64 ((w64 ((d0.Lasts.length : Int) - (1 : Int))) * (32 : Int))) Y (fun h11 => ?_) (fun h11 => ?_)
    ·replace H := ite_then h11 H
     refine sg [0, 1] Y ?_
     refine rp Y Y (p_asg Y Y) ?_
     refine rp Y Y (p_asg Y Y) ?_
     refine rz [(2, .i (0 : Int)), (3, .i (11 : Int))] [] Y Y Y ?_
     refine AW2_ret ?_
     have hz := some_elim H
     subst hz
     exact ⟨⟨res_tmp (.same _), res_tmp (.same _), trivial⟩, trivial⟩
    ·replace H := ite_else h11 H
     refine as2 [(8, .i r'8)] [] Y Y Y ?_
     refine AW2_skip ?_
     refine sg [0, 1, 2] Y ?_
     refine rp Y Y (p_move Y Y) ?_
     refine rp Y Y (p_asg Y Y) ?_
     refine rp Y Y (p_asg Y Y) ?_
     refine rz [(2, .i r'8), (3, .i (0 : Int))] [] Y Y Y ?_
     refine AW2_ret ?_
     have hz := some_elim H
     subst hz
     exact ⟨⟨res_tmp (.same _), res_tmp (.same _), trivial⟩, trivial⟩

/-! tape.good -/
noncomputable def g_tape_good_l0 (d0 : GDisk) (r'1 : Int × Int) : Int × (List UInt8) → Option ((Int × (List UInt8)) ⊕ (((List UInt8) × Int) ⊕ ((List UInt8))))
  | (i7_0, all6_0) => (if (all6_0.length : Int) < r'1.1 then (g_disk_Read d0 i7_0).bind fun r'2 => (if r'2.2 ≠ (0 : Int) then some (.inr (.inl ([], r'2.2))) else if room (all6_0.length + r'2.1.toList.length) 1 then some (.inl (w64 (i7_0 + (1 : Int)), all6_0 ++ r'2.1.toList)) else none) else some (.inr (.inr all6_0)))
noncomputable def g_tape_good (d0 : GDisk) : Option ((List UInt8) × Int) :=
  (g_tape_head d0).bind fun r'1 => (if r'1.2 ≠ (0 : Int) then some ([], r'1.2) else (loopO (g_tape_good_l0 d0 r'1) ((1 : Int), ([] : List UInt8))).bind fun o'6 => match o'6 with | .inl y'7 => some y'7 | .inr (y'8) => if 0 ≤ r'1.1 ∧ r'1.1 ≤ (y'8.length : Int) then some ((cut y'8 (0 : Int) r'1.1), (0 : Int)) else none)
set_option maxHeartbeats 4000000 in
set_option maxRecDepth 100000 in
theorem g_tape_good_ac {d0 : GDisk} {r : (List UInt8) × Int} (H : g_tape_good d0 = some r) : ACp Try.prog 34 [(.agg (GDisk.cs d0))] (.tup [(AV.bytes r.1), (AV.int r.2)]) := by
 refine ACp_of (AC2_of_body (vs := [.y r.1, .i r.2]) Try.func34 Y Y (Nat.le_of_ble_eq_true Y) Y ?_) (fun _ => .same _)
 unfold g_tape_good at H
 refine as2 [(0, .g (GDisk.cs d0))] [] Y Y Y ?_
 refine sg [0, 1, 2] Y ?_
 refine r_op Y Y (MakeD.opD (n_box 1 Y Y) Y Y Y Y) ?_
 refine rp Y Y (p_asgn Y) ?_
 refine rp Y Y (p_asg Y Y) ?_
 refine rz [(1, .q 1 (0))] [(1, .pure (GDisk.cs d0))] Y Y Y ?_
 refine sg [0, 1, 2, 3, 4, 5, 6] Y ?_
 refine rp Y Y (u_lda Y Y Try.underlying25 Y in_25 Y (Nat.succ_pos _) (Sub.refl _) (GDisk.len d0)) ?_
 refine bindK H fun r'1 h1 H => ?_
 refine rp Y Y (p_callp Y Y Y Try.func47 Y Y (g_tape_head_ac h1) ⟨Y, trivial⟩) ?_
 refine rp Y Y (p_move Y Y) ?_
 refine rp Y Y (p_ext Y Y Y Y) ?_
 refine rp Y Y (p_ext Y Y Y Y) ?_
 refine rp Y Y (p_asg Y Y) ?_
 refine rp Y Y (p_asg Y Y) ?_
 refine rz [(1, .q 1 (0)), (4, .i r'1.1), (5, .i r'1.2)] [(1, .pure (GDisk.cs d0))] Y Y Y ?_
 refine AW2_seq ?_
 refine sg [0, 1] Y ?_
 refine rp Y Y (p_move Y Y) ?_
 refine rp Y Y (p_ine Y Y Y) ?_
 refine rz [(1, .q 1 (0)), (4, .i r'1.1), (5, .i r'1.2), (16, .b (decide (r'1.2 ≠ (0 : Int))))] [(1, .pure (GDisk.cs d0))] Y Y Y ?_
 refine AW2_if (p := r'1.2 ≠ (0 : Int)) Y (fun h2 => ?_) (fun h2 => ?_)
 ·replace H := ite_then h2 H
  refine sg [0, 1, 2] Y ?_
  refine rp Y Y (p_move Y Y) ?_
  refine rp Y Y (p_asgn Y) ?_
  refine rp Y Y (p_asg Y Y) ?_
  refine rz [(2, .p .nil), (3, .i r'1.2)] [] Y Y Y ?_
  refine AW2_ret ?_
  have hz := some_elim H
  subst hz
  exact ⟨⟨res_tmp TLes.nil0, res_tmp (.same _), trivial⟩, trivial⟩
 ·replace H := ite_else h2 H
  refine as2 [(1, .q 1 (0)), (4, .i r'1.1)] [(1, .pure (GDisk.cs d0))] Y Y Y ?_
  refine AW2_skip ?_
  refine sg [0] Y ?_
  refine rp Y Y (p_asgn Y) ?_
  refine rz [(1, .q 1 (0)), (4, .i r'1.1), (6, .p .nil)] [(1, .pure (GDisk.cs d0))] Y Y Y ?_
  refine AW2_seq ?_
  refine sg [0] Y ?_
  refine rp Y Y (p_asg Y Y) ?_
  refine rz [(1, .q 1 (0)), (4, .i r'1.1), (6, .p .nil), (7, .i (1 : Int))] [(1, .pure (GDisk.cs d0))] Y Y Y ?_
  refine AW2_block ?_
  refine as2 [(1, .q 1 (0)), (4, .i r'1.1), (6, .p .nil), (7, .i (1 : Int))] [(1, .pure (GDisk.cs d0))] Y Y Y ?_
  refine AW2_gho (Gho_own (d := 6) (b := 6) (z := 1) Y Y Y Y) ?_
  refine AW2_st [(1, .q 1 (0)), (4, .i r'1.1), (6, .c (.own 6 ([] : List UInt8).length 1)), (7, .i (1 : Int))] [(1, .pure (GDisk.cs d0)), (6, .pure (bcells ([] : List UInt8)))] Y ⟨TLes.same _, TLes.same _, TLes.own Y, TLes.same _, trivial⟩ ⟨Y, Y, trivial⟩ ?_
  refine bindK H fun o'6 h7 H => ?_
  refine AW2_loopO (fun a'3 : Int × (List UInt8) => (⟨[(1, .q 1 (0)), (4, .i r'1.1), (6, .c (.own 6 a'3.2.length 1)), (7, .i a'3.1)], [(1, .pure (GDisk.cs d0)), (6, .pure (bcells a'3.2))], 39⟩ : TS)) (fun (o : ((List UInt8) × Int) ⊕ ((List UInt8))) e s' => match o with | .inl y'4 => e = Go.Exit.ret ∧ ResAll Try.prog s' [ResultVar.tmp 2, ResultVar.tmp 3] [.y y'4.1, .i y'4.2] ∧ HFits s' [] | .inr (y'5) => e = Go.Exit.exit 0 ∧ s' = (⟨[(4, .i r'1.1), (6, .c (.own 6 y'5.length 1))], [(6, .pure (bcells y'5))], 39⟩ : TS)) h7 Y (fun a x hx => ?_) (fun e s' hs => ?_)
  ·clear H
   obtain ⟨i7_0, all6_0⟩ := a
   have H := hx
   clear hx
   unfold g_tape_good_l0 at H
   refine AW2_seq ?_
   refine sg [0, 1, 2, 3] Y ?_
   refine rp Y Y (p_move Y Y) ?_
   refine rp Y Y (p_leno Y Try.underlying45 Y Y Y (bl all6_0) (by decide)) ?_
   refine rp Y Y (p_move Y Y) ?_
   refine rp Y Y (p_bin Y Y Y Y) ?_
   refine rz [(1, .q 1 (0)), (4, .i r'1.1), (6, .c (.own 6 all6_0.length 1)), (7, .i i7_0), (21, .b (decide ((all6_0.length : Int) < r'1.1)))] [(1, .pure (GDisk.cs d0)), (6, .pure (bcells all6_0))] Y Y Y ?_
   refine AW2_if (p := (all6_0.length : Int) < r'1.1) Y (fun h3 => ?_) (fun h3 => ?_)
   ·replace H := ite_then h3 H
    refine as2 [(1, .q 1 (0)), (4, .i r'1.1), (6, .c (.own 6 all6_0.length 1)), (7, .i i7_0)] [(1, .pure (GDisk.cs d0)), (6, .pure (bcells all6_0))] Y Y Y ?_
    refine AW2_skip ?_
    refine AW2_seq ?_
    refine AW2_block ?_
    refine sg [0, 1, 2, 3, 4, 5, 6, 7, 8] Y ?_
    refine rp Y Y (u_lda Y Y Try.underlying25 Y in_25 Y (Nat.succ_pos _) (Sub.refl _) (GDisk.len d0)) ?_
    refine rp Y Y (p_move Y Y) ?_
    refine bindK H fun r'2 h4 H => ?_
    refine rp Y Y (p_callp Y Y Y Try.func14 Y Y (g_disk_Read_ac h4) ⟨Y, Y, trivial⟩) ?_
    refine rp Y Y (p_move Y Y) ?_
    refine rp Y Y (p_ext Y Y Y Y) ?_
    refine rp Y Y (p_ext Y Y Y Y) ?_
    refine r_op Y Y (MakeD.opD (u_alloc 8 Y in_32 one_32 zc_32) Y Y Y Y) ?_
    refine r_op Y Y (u_st Y Y Y Y Y in_32 ((bcells_length _).trans (vlen r'2.1)) (nl ((bcells_length _).trans (vlen (Vector.replicate 32 (0 : UInt8))))) (Upd.refl (((bcells_length _).trans (vlen r'2.1)).trans ((bcells_length _).trans (vlen (Vector.replicate 32 (0 : UInt8)))).symm))) ?_
    refine rp Y Y (p_asg Y Y) ?_
    refine rz [(1, .q 1 (0)), (4, .i r'1.1), (6, .c (.own 6 all6_0.length 1)), (7, .i i7_0), (8, .q 8 (0)), (9, .i r'2.2)] [(1, .pure (GDisk.cs d0)), (6, .pure (bcells all6_0)), (8, .pure (bcells r'2.1.toList))] Y Y Y ?_
    refine AW2_seq ?_
    refine sg [0, 1] Y ?_
    refine rp Y Y (p_move Y Y) ?_
    refine rp Y Y (p_ine Y Y Y) ?_
    refine rz [(1, .q 1 (0)), (4, .i r'1.1), (6, .c (.own 6 all6_0.length 1)), (7, .i i7_0), (8, .q 8 (0)), (9, .i r'2.2), (31, .b (decide (r'2.2 ≠ (0 : Int))))] [(1, .pure (GDisk.cs d0)), (6, .pure (bcells all6_0)), (8, .pure (bcells r'2.1.toList))] Y Y Y ?_
    refine AW2_if (p := r'2.2 ≠ (0 : Int)) Y (fun h5 => ?_) (fun h5 => ?_)
    ·replace H := ite_then h5 H
     refine sg [0, 1, 2] Y ?_
     refine rp Y Y (p_move Y Y) ?_
     refine rp Y Y (p_asgn Y) ?_
     refine rp Y Y (p_asg Y Y) ?_
     refine rz [(2, .p .nil), (3, .i r'2.2)] [] Y Y Y ?_
     refine AW2_ret ?_
     have hz := some_elim H
     subst hz
     exact ⟨Y, ⟨res_tmp TLes.nil0, res_tmp (.same _), trivial⟩, trivial⟩
    ·replace H := ite_else h5 H
     refine as2 [(1, .q 1 (0)), (4, .i r'1.1), (6, .c (.own 6 all6_0.length 1)), (7, .i i7_0), (8, .q 8 (0))] [(1, .pure (GDisk.cs d0)), (6, .pure (bcells all6_0)), (8, .pure (bcells r'2.1.toList))] Y Y Y ?_
     refine AW2_skip ?_
     refine AW2_reg [0, 1, 2, 3] Y ?_
     refine rp Y Y (p_move Y Y) ?_
     refine rp Y Y (u_cuta Y Y Try.underlying32 in_5 Y Y (nl ((bcells_length _).trans (vlen r'2.1))) (Sub.refl _) (((bcells_length _).trans (vlen r'2.1)).trans (by decide))) ?_
     refine chkK H fun h6 H => ?_
     refine r_op Y Y (u_app [6, 33] Y Y Y Y Try.underlying45 Try.underlying45 in_5 Y Y Y (bl all6_0) (by decide) (src_sll Y Y (nl ((bcells_length _).trans (vlen r'2.1))) (Sub.refl _) (((bcells_length _).trans (vlen r'2.1)).trans (by decide)) (vlen _)) (bl r'2.1.toList) h6 (by decide) Y Y (bapp all6_0 r'2.1.toList) (lapp all6_0 r'2.1.toList)) ?_
     refine rp Y Y (p_asg Y Y) ?_
     refine rz [(1, .q 1 (0)), (4, .i r'1.1), (6, .c (.own 6 (all6_0 ++ r'2.1.toList).length 1)), (7, .i i7_0)] [(1, .pure (GDisk.cs d0)), (6, .pure (bcells (all6_0 ++ r'2.1.toList)))] Y Y Y ?_
     refine AW2_reg [0, 1, 2] Y ?_
     refine rp Y Y (p_move Y Y) ?_
     refine rp Y Y (p_bin Y Y Y Y) ?_
     refine rp Y Y (p_asg Y Y) ?_
     refine rz [(1, .q 1 (0)), (4, .i r'1.1), (6, .c (.own 6 (all6_0 ++ r'2.1.toList).length 1)), (7, .i (w64 (i7_0 + (1 : Int))))] [(1, .pure (GDisk.cs d0)), (6, .pure (bcells (all6_0 ++ r'2.1.toList)))] Y Y Y ?_
     have hz := some_elim H
     subst hz
     exact ⟨Y, Y⟩
   ·replace H := ite_else h3 H
    refine as2 [(4, .i r'1.1), (6, .c (.own 6 all6_0.length 1))] [(6, .pure (bcells all6_0))] Y Y Y ?_
    refine AW2_exit ?_
    refine thenQ2_exit ?_
    have hz := some_elim H
    subst hz
    exact ⟨Y, Y⟩
  ·rcases o'6 with y'7 | y'8
   ·obtain ⟨rfl, hs⟩ := hs
    refine ⟨by simp, ?_⟩
    have hz := some_elim H
    subst hz
    exact ⟨hs.1, hs.2⟩
   ·obtain ⟨rfl, rfl⟩ := hs
    refine ⟨by simp, ?_⟩
    refine blockQ2_exit ?_
    refine sg [0, 1, 2, 3, 4] Y ?_
    refine rp Y Y (p_move Y Y) ?_
    refine rp Y Y (p_move Y Y) ?_
    refine RunW_gho (Gho_pubs [6, 36] ⟨Y, Y, trivial⟩ Y (bl y'8) (by decide)) ?_
    refine chkK H fun h8 H => ?_
    refine rp Y Y (u_cutl (g := (fun l => bcells l)) (a := (0 : Int)) (b := r'1.1) Y Y Try.underlying45 in_5 Y bT_zero (bT_i (Int.le_trans (show 0 ≤ (0 : Int) ∧ (0 : Int) ≤ r'1.1 ∧ r'1.1 ≤ (y'8.length : Int) from ⟨Int.le_refl _, h8.1, h8.2⟩).1 (show 0 ≤ (0 : Int) ∧ (0 : Int) ≤ r'1.1 ∧ r'1.1 ≤ (y'8.length : Int) from ⟨Int.le_refl _, h8.1, h8.2⟩).2.1) Y) (.inl Y) (show 0 ≤ (0 : Int) ∧ (0 : Int) ≤ r'1.1 ∧ r'1.1 ≤ (y'8.length : Int) from ⟨Int.le_refl _, h8.1, h8.2⟩) (g_bytes)) ?_
    refine rp Y Y (p_asg Y Y) ?_
    refine rp Y Y (p_asg Y Y) ?_
    refine rz [(2, .y (cut y'8 (0 : Int) r'1.1)), (3, .i (0 : Int))] [] Y Y Y ?_
    refine AW2_ret ?_
    have hz := some_elim H
    subst hz
    exact ⟨⟨res_tmp (.same _), res_tmp (.same _), trivial⟩, trivial⟩

/-! sum.Crc -/
noncomputable def g_sum_Crc_l1 : UInt32 × Int → Option ((UInt32 × Int) ⊕ (UInt32))
  | (c3_1, t16_1) => (if t16_1 < (8 : Int) then ((if c3_1 &&& (1 : UInt32) = (1 : UInt32) then some ((shr_u32 c3_1 1) ^^^ (2197175160 : UInt32)) else some (shr_u32 c3_1 1))).bind fun j'1 => some (.inl (j'1, w64 (t16_1 + (1 : Int)))) else some (.inr c3_1))
noncomputable def g_sum_Crc_l0 (b0 : List UInt8) : UInt32 × Int → Option ((UInt32 × Int) ⊕ (UInt32))
  | (c3_0, t8_0) => (if t8_0 < (b0.length : Int) then if 0 ≤ t8_0 ∧ t8_0 < (b0.length : Int) then (loopO (g_sum_Crc_l1) (c3_0 ^^^ ((lrd b0 t8_0.toNat).toUInt32), (0 : Int))).bind fun y'5 => some (.inl (y'5, w64 (t8_0 + (1 : Int)))) else none else some (.inr c3_0))
noncomputable def g_sum_Crc (b0 : List UInt8) : Option (UInt32) :=
  (loopO (g_sum_Crc_l0 b0) ((4294967295 : UInt32), (0 : Int))).bind fun y'9 => some (~~~ y'9)
set_option maxHeartbeats 4000000 in
set_option maxRecDepth 100000 in
theorem g_sum_Crc_ac {b0 : List UInt8} {r : UInt32} (H : g_sum_Crc b0 = some r) : ACp Try.prog 36 [(AV.bytes b0)] (AV.u32 r) := by
 refine ACp_of (AC2_of_body (vs := [.p (AV.u32 r)]) Try.func36 Y Y (Nat.le_of_ble_eq_true Y) Y ?_) (fun _ => .same _)
 unfold g_sum_Crc at H
 refine as2 [(0, .y b0)] [] Y Y Y ?_
 refine sg [0] Y ?_
 refine rp Y Y (p_asg Y Y) ?_
 refine rz [(0, .y b0)] [] Y Y Y ?_
 refine sg [0] Y ?_
 refine rp Y Y (p_asg Y Y) ?_
 refine rz [(0, .y b0), (3, .p (AV.u32 (4294967295 : UInt32)))] [] Y Y Y ?_
 refine AW2_seq ?_
 refine sg [0, 1, 2] Y ?_
 refine rp Y Y (p_move Y Y) ?_
 refine rp Y Y (p_lenl Y Try.underlying45 Y Y) ?_
 refine rp Y Y (p_move Y Y) ?_
 refine rz [(3, .p (AV.u32 (4294967295 : UInt32))), (6, .y b0), (7, .i (b0.length : Int)), (8, .i (0 : Int))] [] Y Y Y ?_
 refine AW2_block ?_
 refine as2 [(3, .p (AV.u32 (4294967295 : UInt32))), (6, .y b0), (7, .i (b0.length : Int)), (8, .i (0 : Int))] [] Y Y Y ?_
 refine bindK H fun y'9 h7 H => ?_
 refine AW2_loopO (fun a'6 : UInt32 × Int => (⟨[(3, .p (AV.u32 a'6.1)), (6, .y b0), (7, .i (b0.length : Int)), (8, .i a'6.2)], [], 30⟩ : TS)) (fun (y'7 : UInt32) e s' => e = Go.Exit.exit 0 ∧ s' = (⟨[(3, .p (AV.u32 y'7))], [], 30⟩ : TS)) h7 Y (fun a x hx => ?_) (fun e s' hs => ?_)
 ·clear H
  obtain ⟨c3_0, t8_0⟩ := a
  have H := hx
  clear hx
  unfold g_sum_Crc_l0 at H
  refine sg [0] Y ?_
  refine rp Y Y (p_bin Y Y Y Y) ?_
  refine rz [(3, .p (AV.u32 c3_0)), (6, .y b0), (7, .i (b0.length : Int)), (8, .i t8_0), (9, .b (decide (t8_0 < (b0.length : Int))))] [] Y Y Y ?_
  refine AW2_seq ?_
  refine AW2_if (p := t8_0 < (b0.length : Int)) Y (fun h1 => ?_) (fun h1 => ?_)
  ·replace H := ite_then h1 H
   refine as2 [(3, .p (AV.u32 c3_0)), (6, .y b0), (7, .i (b0.length : Int)), (8, .i t8_0)] [] Y Y Y ?_
   refine AW2_skip ?_
   refine AW2_seq ?_
   refine AW2_block ?_
   refine sg [0, 1, 2] Y ?_
   refine chkK H fun h2 H => ?_
   refine rp Y Y (u_ixl Y Y Try.underlying45 in_5 Y Y (ixe h2) (ixn h2) (lne (ixn h2))) ?_
   refine rp Y Y (u_ld Y Y Try.underlying5 Y Y (Sub.map default (ixn h2))) ?_
   refine rp Y Y (p_asg Y Y) ?_
   refine rz [(3, .p (AV.u32 c3_0)), (5, .p (AV.b8 (lrd b0 t8_0.toNat))), (6, .y b0), (7, .i (b0.length : Int)), (8, .i t8_0)] [] Y Y Y ?_
   refine sg [0, 1, 2, 3, 4] Y ?_
   refine rp Y Y (p_move Y Y) ?_
   refine rp Y Y (p_move Y Y) ?_
   refine rp Y Y (p_u8_u32 (a := (lrd b0 t8_0.toNat)) Y Try.underlying5 Try.underlying78 Y) ?_
   refine rp Y Y (p_u32xor (a := c3_0) (b := (lrd b0 t8_0.toNat).toUInt32) Y Y Y) ?_
   refine rp Y Y (p_asg Y Y) ?_
   refine rz [(3, .p (AV.u32 (c3_0 ^^^ ((lrd b0 t8_0.toNat).toUInt32)))), (6, .y b0), (7, .i (b0.length : Int)), (8, .i t8_0)] [] Y Y Y ?_
   refine sg [0] Y ?_
   refine rp Y Y (p_move Y Y) ?_
   refine rz [(3, .p (AV.u32 (c3_0 ^^^ ((lrd b0 t8_0.toNat).toUInt32)))), (6, .y b0), (7, .i (b0.length : Int)), (8, .i t8_0), (16, .i (0 : Int))] [] Y Y Y ?_
   refine AW2_block ?_
   refine as2 [(3, .p (AV.u32 (c3_0 ^^^ ((lrd b0 t8_0.toNat).toUInt32)))), (6, .y b0), (7, .i (b0.length : Int)), (8, .i t8_0), (16, .i (0 : Int))] [] Y Y Y ?_
   refine bindK H fun y'5 h6 H => ?_
   refine AW2_loopO (fun a'2 : UInt32 × Int => (⟨[(3, .p (AV.u32 a'2.1)), (6, .y b0), (7, .i (b0.length : Int)), (8, .i t8_0), (16, .i a'2.2)], [], 30⟩ : TS)) (fun (y'3 : UInt32) e s' => e = Go.Exit.exit 2 ∧ s' = (⟨[(3, .p (AV.u32 y'3)), (6, .y b0), (7, .i (b0.length : Int)), (8, .i t8_0)], [], 30⟩ : TS)) h6 Y (fun a x hx => ?_) (fun e s' hs => ?_)
   ·clear H
    obtain ⟨c3_1, t16_1⟩ := a
    have H := hx
    clear hx
    unfold g_sum_Crc_l1 at H
    refine sg [0] Y ?_
    refine rp Y Y (p_bin Y Y Y Y) ?_
    refine rz [(3, .p (AV.u32 c3_1)), (6, .y b0), (7, .i (b0.length : Int)), (8, .i t8_0), (16, .i t16_1), (17, .b (decide (t16_1 < (8 : Int))))] [] Y Y Y ?_
    refine AW2_seq ?_
    refine AW2_if (p := t16_1 < (8 : Int)) Y (fun h3 => ?_) (fun h3 => ?_)
    ·replace H := ite_then h3 H
     refine as2 [(3, .p (AV.u32 c3_1)), (6, .y b0), (7, .i (b0.length : Int)), (8, .i t8_0), (16, .i t16_1)] [] Y Y Y ?_
     refine AW2_skip ?_
     refine AW2_seq ?_
     refine bindK H fun j'1 h4 H => ?_
     refine AW2_mid (⟨[(3, .p (AV.u32 j'1)), (6, .y b0), (7, .i (b0.length : Int)), (8, .i t8_0), (16, .i t16_1)], [], 30⟩ : TS) ?_ ?_
     ·clear H
      have H := h4
      clear h4
      refine AW2_block ?_
      refine sg [0, 1, 2] Y ?_
      refine rp Y Y (p_move Y Y) ?_
      refine rp Y Y (p_u32and (a := c3_1) (b := (1 : UInt32)) Y Y Y) ?_
      refine rp Y Y (p_u32eq (a := c3_1 &&& (1 : UInt32)) (b := (1 : UInt32)) Y Y Y) ?_
      refine rz [(3, .p (AV.u32 c3_1)), (6, .y b0), (7, .i (b0.length : Int)), (8, .i t8_0), (16, .i t16_1), (20, .b (decide (c3_1 &&& (1 : UInt32) = (1 : UInt32))))] [] Y Y Y ?_
      refine AW2_if (p := c3_1 &&& (1 : UInt32) = (1 : UInt32)) Y (fun h5 => ?_) (fun h5 => ?_)
      ·replace H := ite_then h5 H
       refine AW2_reg [0, 1, 2, 3] Y ?_
       refine rp Y Y (p_move Y Y) ?_
       refine rp Y Y (p_u32shr (n := 1) Y Y Y Y) ?_
       refine rp Y Y (p_u32xor (a := shr_u32 c3_1 1) (b := (2197175160 : UInt32)) Y Y Y) ?_
       refine rp Y Y (p_asg Y Y) ?_
       refine rz [(3, .p (AV.u32 ((shr_u32 c3_1 1) ^^^ (2197175160 : UInt32)))), (6, .y b0), (7, .i (b0.length : Int)), (8, .i t8_0), (16, .i t16_1)] [] Y Y Y ?_
       have hz := some_elim H
       subst hz
       exact rfl
      ·replace H := ite_else h5 H
       refine AW2_reg [0, 1, 2] Y ?_
       refine rp Y Y (p_move Y Y) ?_
       refine rp Y Y (p_u32shr (n := 1) Y Y Y Y) ?_
       refine rp Y Y (p_asg Y Y) ?_
       refine rz [(3, .p (AV.u32 (shr_u32 c3_1 1))), (6, .y b0), (7, .i (b0.length : Int)), (8, .i t8_0), (16, .i t16_1)] [] Y Y Y ?_
       have hz := some_elim H
       subst hz
       exact rfl
     ·refine AW2_reg [0, 1] Y ?_
      refine rp Y Y (p_bin Y Y Y Y) ?_
      refine rp Y Y (p_move Y Y) ?_
      refine rz [(3, .p (AV.u32 j'1)), (6, .y b0), (7, .i (b0.length : Int)), (8, .i t8_0), (16, .i (w64 (t16_1 + (1 : Int))))] [] Y Y Y ?_
      have hz := some_elim H
      subst hz
      exact ⟨Y, Y⟩
    ·replace H := ite_else h3 H
     refine as2 [(3, .p (AV.u32 c3_1)), (6, .y b0), (7, .i (b0.length : Int)), (8, .i t8_0)] [] Y Y Y ?_
     refine AW2_exit ?_
     refine thenQ2_exit ?_
     have hz := some_elim H
     subst hz
     exact ⟨Y, Y⟩
   ·obtain ⟨rfl, rfl⟩ := hs
    refine ⟨by simp, ?_⟩
    refine blockQ2_exit ?_
    refine AW2_reg [0, 1] Y ?_
    refine rp Y Y (p_bin Y Y Y Y) ?_
    refine rp Y Y (p_move Y Y) ?_
    refine rz [(3, .p (AV.u32 y'5)), (6, .y b0), (7, .i (b0.length : Int)), (8, .i (w64 (t8_0 + (1 : Int))))] [] Y Y Y ?_
    have hz := some_elim H
    subst hz
    exact ⟨Y, Y⟩
  ·replace H := ite_else h1 H
   refine as2 [(3, .p (AV.u32 c3_0))] [] Y Y Y ?_
   refine AW2_exit ?_
   refine thenQ2_exit ?_
   have hz := some_elim H
   subst hz
   exact ⟨Y, Y⟩
 ·obtain ⟨rfl, rfl⟩ := hs
  refine ⟨by simp, ?_⟩
  refine blockQ2_exit ?_
  refine sg [0, 1, 2] Y ?_
  refine rp Y Y (p_move Y Y) ?_
  refine rp Y Y (p_u32cpl Y Y) ?_
  refine rp Y Y (p_asg Y Y) ?_
  refine rz [(2, .p (AV.u32 (~~~ y'9)))] [] Y Y Y ?_
  refine AW2_ret ?_
  have hz := some_elim H
  subst hz
  exact ⟨⟨res_tmp (.same _), trivial⟩, trivial⟩

/-! tape.Open -/
def g_tape_Open_r9 : List (List (Nat × Option Nat)) := [[(7, none)], [(25, some 0)], [(26, some 1)], [(7, none), (27, some 2)], [(27, some 2), (28, some 3)], [(27, some 2), (29, some 4)], [(30, some 5)], [(7, none), (31, some 6)], [(4, none), (31, some 6)], [(31, some 6), (33, some 8)], [(31, some 6), (34, some 9)], [(31, some 6), (32, some 7), (35, some 10)], [(31, some 6), (36, some 11)], [(37, some 12)], [(4, none), (38, some 13)], [(38, some 13), (39, some 14)], [(38, some 13), (40, some 15)], [(38, some 13), (41, some 16)], [(4, none), (38, some 13)], [(7, none), (38, some 13)], [(38, some 13), (44, some 19)], [(38, some 13), (43, some 18), (45, some 20)], [(38, some 13), (46, some 21)]]
def g_tape_Open_r9c : List (List Nat) := [[], [0], [0, 1], [0, 1, 2], [0, 1, 2, 3], [0, 1, 2, 3, 4], [0, 1, 2, 3, 4, 5], [0, 1, 2, 3, 4, 5, 6], [0, 1, 2, 3, 4, 5, 6], [0, 1, 2, 3, 4, 5, 6, 8], [0, 1, 2, 3, 4, 5, 6, 8, 9], [0, 1, 2, 3, 4, 5, 6, 7, 8, 9, 10], [0, 1, 2, 3, 4, 5, 6, 7, 8, 9, 10, 11], [0, 1, 2, 3, 4, 5, 6, 7, 8, 9, 10, 11, 12], [0, 1, 2, 3, 4, 5, 6, 7, 8, 9, 10, 11, 12, 13], [0, 1, 2, 3, 4, 5, 6, 7, 8, 9, 10, 11, 12, 13, 14], [0, 1, 2, 3, 4, 5, 6, 7, 8, 9, 10, 11, 12, 13, 14, 15], [0, 1, 2, 3, 4, 5, 6, 7, 8, 9, 10, 11, 12, 13, 14, 15, 16], [0, 1, 2, 3, 4, 5, 6, 7, 8, 9, 10, 11, 12, 13], [0, 1, 2, 3, 4, 5, 6, 7, 8, 9, 10, 11, 12, 13], [0, 1, 2, 3, 4, 5, 6, 7, 8, 9, 10, 11, 12, 13, 19], [0, 1, 2, 3, 4, 5, 6, 7, 8, 9, 10, 11, 12, 13, 18, 19, 20], [0, 1, 2, 3, 4, 5, 6, 7, 8, 9, 10, 11, 12, 13, 14, 15, 16, 18, 19, 20, 21], [0, 1, 2, 3, 4, 5, 6, 7, 8, 9, 10, 11, 12, 13, 14, 15, 16, 17, 18, 19, 20, 21, 22], [0, 1, 2, 3, 4, 5, 6, 7, 8, 9, 10, 11, 12, 13, 14, 15, 16, 17, 18, 19, 20, 21, 22, 23]]
noncomputable def g_tape_Open_l0 : (List UInt8) × (List (List UInt8)) → Option (((List UInt8) × (List (List UInt8))) ⊕ (((List (List UInt8)) × Int) ⊕ ((List (List UInt8)))))
  | (b4_0, out6_0) => (if (b4_0.length : Int) > (0 : Int) then (if (b4_0.length : Int) < (6 : Int) then some (.inr (.inl (([] : List (List UInt8)), (11 : Int)))) else if 0 ≤ (2 : Int) ∧ (2 : Int) ≤ (b4_0.length : Int) then (g_tape_number (cut b4_0 (0 : Int) (2 : Int))).bind fun r'2 => ((if r'2 < (1 : Int) then some true else (if r'2 > (310 : Int) then some true else (if r'2 > w64 ((b4_0.length : Int) - (6 : Int)) then some true else if 0 ≤ (2 : Int) ∧ (2 : Int) ≤ (6 : Int) ∧ (6 : Int) ≤ (b4_0.length : Int) then (g_tape_number (cut b4_0 (2 : Int) (6 : Int))).bind fun r'3 => if 0 ≤ (6 : Int) ∧ (6 : Int) ≤ w64 ((6 : Int) + r'2) ∧ w64 ((6 : Int) + r'2) ≤ (b4_0.length : Int) then (g_sum_Crc (cut b4_0 (6 : Int) (w64 ((6 : Int) + r'2)))).bind fun r'4 => some (decide (UInt32.ofInt r'3 ≠ r'4)) else none else none)))).bind fun g'5 => (if g'5 = true then some (.inr (.inl (([] : List (List UInt8)), (11 : Int)))) else if 0 ≤ (6 : Int) ∧ (6 : Int) ≤ w64 ((6 : Int) + r'2) ∧ w64 ((6 : Int) + r'2) ≤ (b4_0.length : Int) then if room (([] : List UInt8).length + (cut b4_0 (6 : Int) (w64 ((6 : Int) + r'2))).length) 1 then if room (out6_0.length + ([([] : List UInt8) ++ (cut b4_0 (6 : Int) (w64 ((6 : Int) + r'2)))] : List (List UInt8)).length) 24 then letO (out6_0 ++ ([([] : List UInt8) ++ (cut b4_0 (6 : Int) (w64 ((6 : Int) + r'2)))] : List (List UInt8))) fun out6'6 => if 0 ≤ w64 ((6 : Int) + r'2) ∧ w64 ((6 : Int) + r'2) ≤ (b4_0.length : Int) then some (.inl ((cut b4_0 (w64 ((6 : Int) + r'2)) (b4_0.length : Int)), out6'6)) else none else none else none else none) else none) else some (.inr (.inr out6_0)))
noncomputable def g_tape_Open (d0 : GDisk) : Option ((List (List UInt8)) × Int) :=
  (g_tape_good d0).bind fun r'1 => (if r'1.2 ≠ (0 : Int) then some (([] : List (List UInt8)), r'1.2) else (loopO (g_tape_Open_l0) (r'1.1, ([] : List (List UInt8)))).bind fun o'10 => match o'10 with | .inl y'11 => some y'11 | .inr (y'12) => some (y'12, (0 : Int)))
set_option maxHeartbeats 4000000 in
set_option maxRecDepth 100000 in
theorem g_tape_Open_ac2 {d0 : GDisk} {r : (List (List UInt8)) × Int} (H : g_tape_Open d0 = some r) : AC2 Try.prog 21 (pureT [(.agg (GDisk.cs d0))]) [] (retV [.c (.own 2 r.1.length 1), .i r.2]) [(2, .pure (r.1.map AV.bytes))] := by
 refine AC2_of_body (vs := [.c (.own 2 r.1.length 1), .i r.2]) Try.func21 Y Y (Nat.le_of_ble_eq_true Y) Y ?_
 unfold g_tape_Open at H
 refine as2 [(0, .g (GDisk.cs d0))] [] Y Y Y ?_
 refine sg [0, 1, 2] Y ?_
 refine r_op Y Y (MakeD.opD (n_box 1 Y Y) Y Y Y Y) ?_
 refine rp Y Y (p_asgn Y) ?_
 refine rp Y Y (p_asg Y Y) ?_
 refine rz [(1, .q 1 (0))] [(1, .pure (GDisk.cs d0))] Y Y Y ?_
 refine sg [0, 1, 2, 3, 4, 5, 6] Y ?_
 refine rp Y Y (u_lda Y Y Try.underlying25 Y in_25 Y (Nat.succ_pos _) (Sub.refl _) (GDisk.len d0)) ?_
 refine bindK H fun r'1 h1 H => ?_
 refine rp Y Y (p_callp Y Y Y Try.func34 Y Y (g_tape_good_ac h1) ⟨Y, trivial⟩) ?_
 refine rp Y Y (p_move Y Y) ?_
 refine rp Y Y (p_ext Y Y Y Y) ?_
 refine rp Y Y (p_ext Y Y Y Y) ?_
 refine rp Y Y (p_asg Y Y) ?_
 refine rp Y Y (p_asg Y Y) ?_
 refine rz [(4, .y r'1.1), (5, .i r'1.2)] [] Y Y Y ?_
 refine AW2_seq ?_
 refine sg [0, 1] Y ?_
 refine rp Y Y (p_move Y Y) ?_
 refine rp Y Y (p_ine Y Y Y) ?_
 refine rz [(4, .y r'1.1), (5, .i r'1.2), (14, .b (decide (r'1.2 ≠ (0 : Int))))] [] Y Y Y ?_
 refine AW2_if (p := r'1.2 ≠ (0 : Int)) Y (fun h2 => ?_) (fun h2 => ?_)
 ·replace H := ite_then h2 H
  refine sg [0, 1, 2] Y ?_
  refine rp Y Y (p_move Y Y) ?_
  refine rp Y Y (p_asgn Y) ?_
  refine rp Y Y (p_asg Y Y) ?_
  refine rz [(2, .p .nil), (3, .i r'1.2)] [] Y Y Y ?_
  refine as2 [(2, .p .nil), (3, .i r'1.2)] [] Y Y Y ?_
  refine AW2_gho (Gho_own (d := 2) (b := 2) (z := 1) Y Y Y Y) ?_
  refine AW2_st [(2, .c (.own 2 ([] : List (List UInt8)).length 1)), (3, .i r'1.2)] [(2, .pure (([] : List (List UInt8)).map AV.bytes))] Y ⟨TLes.own Y, TLes.same _, trivial⟩ ⟨Y, trivial⟩ ?_
  refine AW2_ret ?_
  have hz := some_elim H
  subst hz
  exact ⟨⟨res_tmp (.same _), res_tmp (.same _), trivial⟩, ⟨Y, trivial⟩⟩
 ·replace H := ite_else h2 H
  refine as2 [(4, .y r'1.1)] [] Y Y Y ?_
  refine AW2_skip ?_
  refine sg [0] Y ?_
  refine rp Y Y (p_asgn Y) ?_
  refine rz [(4, .y r'1.1), (6, .p .nil)] [] Y Y Y ?_
  refine AW2_seq ?_
  refine AW2_block ?_
  refine as2 [(4, .y r'1.1), (6, .p .nil)] [] Y Y Y ?_
  refine AW2_gho (Gho_own (d := 6) (b := 6) (z := 1) Y Y Y Y) ?_
  refine AW2_st [(4, .y r'1.1), (6, .c (.own 6 ([] : List (List UInt8)).length 1))] [(6, .pure (([] : List (List UInt8)).map AV.bytes))] Y ⟨TLes.same _, TLes.own Y, trivial⟩ ⟨Y, trivial⟩ ?_
  refine bindK H fun o'10 h20 H => ?_
  refine AW2_loopO (fun a'7 : (List UInt8) × (List (List UInt8)) => (⟨[(4, .y a'7.1), (6, .c (.own 6 a'7.2.length 1))], [(6, .pure (a'7.2.map AV.bytes))], 64⟩ : TS)) (fun (o : ((List (List UInt8)) × Int) ⊕ ((List (List UInt8)))) e s' => match o with | .inl y'8 => e = Go.Exit.ret ∧ ResAll Try.prog s' [ResultVar.tmp 2, ResultVar.tmp 3] [.c (.own 2 y'8.1.length 1), .i y'8.2] ∧ HFits s' [(2, .pure (y'8.1.map AV.bytes))] | .inr (y'9) => e = Go.Exit.exit 0 ∧ s' = (⟨[(6, .c (.own 6 y'9.length 1))], [(6, .pure (y'9.map AV.bytes))], 64⟩ : TS)) h20 Y (fun a x hx => ?_) (fun e s' hs => ?_)
  ·clear H
   obtain ⟨b4_0, out6_0⟩ := a
   have H := hx
   clear hx
   unfold g_tape_Open_l0 at H
   refine AW2_seq ?_
   refine sg [0, 1, 2] Y ?_
   refine rp Y Y (p_move Y Y) ?_
   refine rp Y Y (p_lenl Y Try.underlying45 Y Y) ?_
   refine rp Y Y (p_bin Y Y Y Y) ?_
   refine rz [(4, .y b4_0), (6, .c (.own 6 out6_0.length 1)), (18, .b (decide ((b4_0.length : Int) > (0 : Int))))] [(6, .pure (out6_0.map AV.bytes))] Y Y Y ?_
   refine AW2_if (p := (b4_0.length : Int) > (0 : Int)) Y (fun h3 => ?_) (fun h3 => ?_)
   ·replace H := ite_then h3 H
    refine as2 [(4, .y b4_0), (6, .c (.own 6 out6_0.length 1))] [(6, .pure (out6_0.map AV.bytes))] Y Y Y ?_
    refine AW2_skip ?_
    refine AW2_block ?_
    refine AW2_seq ?_
    refine sg [0, 1, 2] Y ?_
    refine rp Y Y (p_move Y Y) ?_
    refine rp Y Y (p_lenl Y Try.underlying45 Y Y) ?_
    refine rp Y Y (p_bin Y Y Y Y) ?_
    refine rz [(4, .y b4_0), (6, .c (.own 6 out6_0.length 1)), (21, .b (decide ((b4_0.length : Int) < (6 : Int))))] [(6, .pure (out6_0.map AV.bytes))] Y Y Y ?_
    refine AW2_if (p := (b4_0.length : Int) < (6 : Int)) Y (fun h4 => ?_) (fun h4 => ?_)
    ·replace H := ite_then h4 H
     refine sg [0, 1] Y ?_
     refine rp Y Y (p_asgn Y) ?_
     refine rp Y Y (p_asg Y Y) ?_
     refine rz [(2, .p .nil), (3, .i (11 : Int))] [] Y Y Y ?_
     refine as2 [(2, .p .nil), (3, .i (11 : Int))] [] Y Y Y ?_
     refine AW2_gho (Gho_own (d := 2) (b := 2) (z := 1) Y Y Y Y) ?_
     refine AW2_st [(2, .c (.own 2 ([] : List (List UInt8)).length 1)), (3, .i (11 : Int))] [(2, .pure (([] : List (List UInt8)).map AV.bytes))] Y ⟨TLes.own Y, TLes.same _, trivial⟩ ⟨Y, trivial⟩ ?_
     refine AW2_ret ?_
     have hz := some_elim H
     subst hz
     exact ⟨Y, ⟨res_tmp (.same _), res_tmp (.same _), trivial⟩, ⟨Y, trivial⟩⟩
    ·replace H := ite_else h4 H
     refine as2 [(4, .y b4_0), (6, .c (.own 6 out6_0.length 1))] [(6, .pure (out6_0.map AV.bytes))] Y Y Y ?_
     refine AW2_skip ?_
     refine sg [0, 1, 2, 3] Y ?_
     refine rp Y Y (p_move Y Y) ?_
     refine chkK H fun h5 H => ?_
     refine rp Y Y (u_cutl (g := (fun l => bcells l)) (a := (0 : Int)) (b := (2 : Int)) Y Y Try.underlying45 in_5 Y bT_zero (bT_i (Int.le_trans (show 0 ≤ (0 : Int) ∧ (0 : Int) ≤ (2 : Int) ∧ (2 : Int) ≤ (b4_0.length : Int) from ⟨Int.le_refl _, h5.1, h5.2⟩).1 (show 0 ≤ (0 : Int) ∧ (0 : Int) ≤ (2 : Int) ∧ (2 : Int) ≤ (b4_0.length : Int) from ⟨Int.le_refl _, h5.1, h5.2⟩).2.1) Y) (.inl Y) (show 0 ≤ (0 : Int) ∧ (0 : Int) ≤ (2 : Int) ∧ (2 : Int) ≤ (b4_0.length : Int) from ⟨Int.le_refl _, h5.1, h5.2⟩) (g_bytes)) ?_
     refine bindK H fun r'2 h6 H => ?_
     refine rp Y Y (p_callp Y Y Y Try.func35 Y Y (g_tape_number_ac h6) ⟨Y, trivial⟩) ?_
     refine rp Y Y (p_asg Y Y) ?_
     refine rz [(4, .y b4_0), (6, .c (.own 6 out6_0.length 1)), (7, .i r'2)] [(6, .pure (out6_0.map AV.bytes))] Y Y Y ?_
     refine AW2_seq ?_
     refine AW2_seq ?_
     refine bindK H fun g'5 h14 H => ?_
     refine AW2_mid (⟨[(4, .y b4_0), (6, .c (.own 6 out6_0.length 1)), (7, .i r'2), (49, .b g'5)], [(6, .pure (out6_0.map AV.bytes))], 64⟩ : TS) ?_ ?_
     ·clear H
      have H := h14
      clear h14
      refine (Classical.em (r'2 < (1 : Int))).elim (fun h7 => ?_) (fun h7 => ?_)
      ·replace H := ite_then h7 H
       have hz := some_elim H
       subst hz
       refine AW2_ghoQ ?_
       refine AW2_draw 23 [23, 24] (fun k => ([.i r'2, .b (decide (r'2 < (1 : Int))), .b (decide (r'2 < (1 : Int))), .p (.tup []), .p (.tup []), .b true, .b true, .p (.tup []), .p (.tup []), .p (.tup []), .p (.tup []), .p (.tup []), .b true, .b true, .p (.tup []), .p (.tup []), .p (.tup []), .p (.tup []), .p (.tup []), .p (.tup []), .p (.tup []), .p (.tup []), .p (.tup [])] : List TV).getD k TV.any) (fun k => g_tape_Open_r9.getD k []) [(4, none), (6, none), (7, none), (38, some 13), (42, some 17), (47, some 22)] [] (fun k => g_tape_Open_r9c.getD k []) mixed (by kernel_rfl) Y Y (a_op (g_x Y (x_p Y (p_move Y Y) Y)) (a_op (g_x Y (x_p Y (p_bin Y Y Y Y) Y)) (a_op (g_x Y (x_p Y (p_move Y Y) Y)) (a_op (g_off Y Y Y Y Y (dT h7) Y Y) (a_op (g_off Y Y Y Y Y (dT h7) Y Y) (a_op (g_x Y (x_p Y (p_pkt Y Y (dT h7) (.same _)) Y)) (a_op (g_x Y (x_p Y (p_move Y Y) Y)) (a_op (g_off Y Y Y Y Y Y Y Y) (a_op (g_off Y Y Y Y Y Y Y Y) (a_op (g_off Y Y Y Y Y Y Y Y) (a_op (g_off Y Y Y Y Y Y Y Y) (a_op (g_off Y Y Y Y Y Y Y Y) (a_op (g_x Y (x_p Y (p_pkt Y Y Y (.same _)) Y)) (a_op (g_x Y (x_p Y (p_move Y Y) Y)) (a_op (g_off Y Y Y Y Y Y Y Y) (a_op (g_off Y Y Y Y Y Y Y Y) (a_op (g_off Y Y Y Y Y Y Y Y) (a_op (g_off Y Y Y Y Y Y Y Y) (a_op (g_off Y Y Y Y Y Y Y Y) (a_op (g_off Y Y Y Y Y Y Y Y) (a_op (g_off Y Y Y Y Y Y Y Y) (a_op (g_off Y Y Y Y Y Y Y Y) (a_op (g_off Y Y Y Y Y Y Y Y) (a_nil)))))))))))))))))))))))) ?_
       refine t_off Y Y Y Y Y Y Y ?_
       refine t_op Y Y (PureD.opD (p_pkt Y Y Y (.same _))) ?_
       refine t_gho (Gho_st (L := [(4, .y b4_0), (6, .c (.own 6 out6_0.length 1)), (7, .i r'2), (49, .b true)]) (H := [(6, .pure (out6_0.map AV.bytes))]) (N := 64) Y ⟨TLes.same _, TLes.same _, TLes.same _, TLes.same _, trivial⟩ ⟨Y, trivial⟩) ?_
       exact rfl
      ·replace H := ite_else h7 H
       refine (Classical.em (r'2 > (310 : Int))).elim (fun h8 => ?_) (fun h8 => ?_)
       ·replace H := ite_then h8 H
        have hz := some_elim H
        subst hz
        refine AW2_ghoQ ?_
        refine AW2_draw 23 [23, 24] (fun k => ([.i r'2, .b (decide (r'2 < (1 : Int))), .b (decide (r'2 < (1 : Int))), .i r'2, .b (decide (r'2 > (310 : Int))), .b (decide (r'2 > (310 : Int))), .b (decide (r'2 > (310 : Int))), .p (.tup []), .p (.tup []), .p (.tup []), .p (.tup []), .p (.tup []), .b true, .b true, .p (.tup []), .p (.tup []), .p (.tup []), .p (.tup []), .p (.tup []), .p (.tup []), .p (.tup []), .p (.tup []), .p (.tup [])] : List TV).getD k TV.any) (fun k => g_tape_Open_r9.getD k []) [(4, none), (6, none), (7, none), (38, some 13), (42, some 17), (47, some 22)] [] (fun k => g_tape_Open_r9c.getD k []) mixed (by kernel_rfl) Y Y (a_op (g_x Y (x_p Y (p_move Y Y) Y)) (a_op (g_x Y (x_p Y (p_bin Y Y Y Y) Y)) (a_op (g_x Y (x_p Y (p_move Y Y) Y)) (a_op (g_on Y Y Y (dF h7) Y (x_p Y (p_move Y Y) Y)) (a_op (g_on Y Y Y (dF h7) Y (x_p Y (p_bin Y Y Y Y) Y)) (a_op (g_x Y (x_p Y (p_pkf Y Y (dF h7) (.same _)) Y)) (a_op (g_x Y (x_p Y (p_move Y Y) Y)) (a_op (g_off Y Y Y Y Y (dT h8) Y Y) (a_op (g_off Y Y Y Y Y (dT h8) Y Y) (a_op (g_off Y Y Y Y Y (dT h8) Y Y) (a_op (g_off Y Y Y Y Y (dT h8) Y Y) (a_op (g_off Y Y Y Y Y (dT h8) Y Y) (a_op (g_x Y (x_p Y (p_pkt Y Y (dT h8) (.same _)) Y)) (a_op (g_x Y (x_p Y (p_move Y Y) Y)) (a_op (g_off Y Y Y Y Y Y Y Y) (a_op (g_off Y Y Y Y Y Y Y Y) (a_op (g_off Y Y Y Y Y Y Y Y) (a_op (g_off Y Y Y Y Y Y Y Y) (a_op (g_off Y Y Y Y Y Y Y Y) (a_op (g_off Y Y Y Y Y Y Y Y) (a_op (g_off Y Y Y Y Y Y Y Y) (a_op (g_off Y Y Y Y Y Y Y Y) (a_op (g_off Y Y Y Y Y Y Y Y) (a_nil)))))))))))))))))))))))) ?_
        refine t_off Y Y Y Y Y Y Y ?_
        refine t_op Y Y (PureD.opD (p_pkt Y Y Y (.same _))) ?_
        refine t_gho (Gho_st (L := [(4, .y b4_0), (6, .c (.own 6 out6_0.length 1)), (7, .i r'2), (49, .b true)]) (H := [(6, .pure (out6_0.map AV.bytes))]) (N := 64) Y ⟨TLes.same _, TLes.same _, TLes.same _, TLes.same _, trivial⟩ ⟨Y, trivial⟩) ?_
        exact rfl
       ·replace H := ite_else h8 H
        refine (Classical.em (r'2 > w64 ((b4_0.length : Int) - (6 : Int)))).elim (fun h9 => ?_) (fun h9 => ?_)
        ·replace H := ite_then h9 H
         have hz := some_elim H
         subst hz
         refine AW2_ghoQ ?_
         refine AW2_draw 23 [23, 24] (fun k => ([.i r'2, .b (decide (r'2 < (1 : Int))), .b (decide (r'2 < (1 : Int))), .i r'2, .b (decide (r'2 > (310 : Int))), .b (decide (r'2 > (310 : Int))), .b (decide (r'2 > (310 : Int))), .i r'2, .y b4_0, .i (b4_0.length : Int), .i (w64 ((b4_0.length : Int) - (6 : Int))), .b (decide (r'2 > w64 ((b4_0.length : Int) - (6 : Int)))), .b (decide (r'2 > w64 ((b4_0.length : Int) - (6 : Int)))), .b (decide (r'2 > w64 ((b4_0.length : Int) - (6 : Int)))), .p (.tup []), .p (.tup []), .p (.tup []), .p (.tup []), .p (.tup []), .p (.tup []), .p (.tup []), .p (.tup []), .p (.tup [])] : List TV).getD k TV.any) (fun k => g_tape_Open_r9.getD k []) [(4, none), (6, none), (7, none), (38, some 13), (42, some 17), (47, some 22)] [] (fun k => g_tape_Open_r9c.getD k []) mixed (by kernel_rfl) Y Y (a_op (g_x Y (x_p Y (p_move Y Y) Y)) (a_op (g_x Y (x_p Y (p_bin Y Y Y Y) Y)) (a_op (g_x Y (x_p Y (p_move Y Y) Y)) (a_op (g_on Y Y Y (dF h7) Y (x_p Y (p_move Y Y) Y)) (a_op (g_on Y Y Y (dF h7) Y (x_p Y (p_bin Y Y Y Y) Y)) (a_op (g_x Y (x_p Y (p_pkf Y Y (dF h7) (.same _)) Y)) (a_op (g_x Y (x_p Y (p_move Y Y) Y)) (a_op (g_on Y Y Y (dF h8) Y (x_p Y (p_move Y Y) Y)) (a_op (g_on Y Y Y (dF h8) Y (x_p Y (p_move Y Y) Y)) (a_op (g_on Y Y Y (dF h8) Y (x_p Y (p_lenl Y Try.underlying45 Y Y) Y)) (a_op (g_on Y Y Y (dF h8) Y (x_p Y (p_bin Y Y Y Y) Y)) (a_op (g_on Y Y Y (dF h8) Y (x_p Y (p_bin Y Y Y Y) Y)) (a_op (g_x Y (x_p Y (p_pkf Y Y (dF h8) (.same _)) Y)) (a_op (g_x Y (x_p Y (p_move Y Y) Y)) (a_op (g_off Y Y Y Y Y (dT h9) Y Y) (a_op (g_off Y Y Y Y Y (dT h9) Y Y) (a_op (g_off Y Y Y Y Y (dT h9) Y Y) (a_op (g_off Y Y Y Y Y (dT h9) Y Y) (a_op (g_off Y Y Y Y Y (dT h9) Y Y) (a_op (g_off Y Y Y Y Y (dT h9) Y Y) (a_op (g_off Y Y Y Y Y (dT h9) Y Y) (a_op (g_off Y Y Y Y Y (dT h9) Y Y) (a_op (g_off Y Y Y Y Y (dT h9) Y Y) (a_nil)))))))))))))))))))))))) ?_
         refine t_off Y Y Y Y (dT h9) Y Y ?_
         refine t_op Y Y (PureD.opD (p_pkt Y Y (dT h9) (.same _))) ?_
         refine t_gho (Gho_st (L := [(4, .y b4_0), (6, .c (.own 6 out6_0.length 1)), (7, .i r'2), (49, .b true)]) (H := [(6, .pure (out6_0.map AV.bytes))]) (N := 64) Y ⟨TLes.same _, TLes.same _, TLes.same _, TLes.same _, trivial⟩ ⟨Y, trivial⟩) ?_
         exact rfl
        ·replace H := ite_else h9 H
         refine chkK H fun h10 H => ?_
         refine bindK H fun r'3 h11 H => ?_
         refine chkK H fun h12 H => ?_
         refine bindK H fun r'4 h13 H => ?_
         have hz := some_elim H
         subst hz
         refine AW2_ghoQ ?_
         refine AW2_draw 23 [23, 24] (fun k => ([.i r'2, .b (decide (r'2 < (1 : Int))), .b (decide (r'2 < (1 : Int))), .i r'2, .b (decide (r'2 > (310 : Int))), .b (decide (r'2 > (310 : Int))), .b (decide (r'2 > (310 : Int))), .i r'2, .y b4_0, .i (b4_0.length : Int), .i (w64 ((b4_0.length : Int) - (6 : Int))), .b (decide (r'2 > w64 ((b4_0.length : Int) - (6 : Int)))), .b (decide (r'2 > w64 ((b4_0.length : Int) - (6 : Int)))), .b (decide (r'2 > w64 ((b4_0.length : Int) - (6 : Int)))), .y b4_0, .y (cut b4_0 (2 : Int) (6 : Int)), .i r'3, .p (AV.u32 (UInt32.ofInt r'3)), .y b4_0, .i r'2, .i (w64 ((6 : Int) + r'2)), .y (cut b4_0 (6 : Int) (w64 ((6 : Int) + r'2))), .p (AV.u32 r'4)] : List TV).getD k TV.any) (fun k => g_tape_Open_r9.getD k []) [(4, none), (6, none), (7, none), (38, some 13), (42, some 17), (47, some 22)] [] (fun k => g_tape_Open_r9c.getD k []) mixed (by kernel_rfl) Y Y (a_op (g_x Y (x_p Y (p_move Y Y) Y)) (a_op (g_x Y (x_p Y (p_bin Y Y Y Y) Y)) (a_op (g_x Y (x_p Y (p_move Y Y) Y)) (a_op (g_on Y Y Y (dF h7) Y (x_p Y (p_move Y Y) Y)) (a_op (g_on Y Y Y (dF h7) Y (x_p Y (p_bin Y Y Y Y) Y)) (a_op (g_x Y (x_p Y (p_pkf Y Y (dF h7) (.same _)) Y)) (a_op (g_x Y (x_p Y (p_move Y Y) Y)) (a_op (g_on Y Y Y (dF h8) Y (x_p Y (p_move Y Y) Y)) (a_op (g_on Y Y Y (dF h8) Y (x_p Y (p_move Y Y) Y)) (a_op (g_on Y Y Y (dF h8) Y (x_p Y (p_lenl Y Try.underlying45 Y Y) Y)) (a_op (g_on Y Y Y (dF h8) Y (x_p Y (p_bin Y Y Y Y) Y)) (a_op (g_on Y Y Y (dF h8) Y (x_p Y (p_bin Y Y Y Y) Y)) (a_op (g_x Y (x_p Y (p_pkf Y Y (dF h8) (.same _)) Y)) (a_op (g_x Y (x_p Y (p_move Y Y) Y)) (a_op (g_on Y Y Y (dF h9) Y (x_p Y (p_move Y Y) Y)) (a_op (g_on Y Y Y (dF h9) Y (x_p Y (u_cutl (g := (fun l => bcells l)) (a := (2 : Int)) (b := (6 : Int)) Y Y Try.underlying45 in_5 Y (bT_i (show 0 ≤ (2 : Int) ∧ (2 : Int) ≤ (6 : Int) ∧ (6 : Int) ≤ (b4_0.length : Int) from h10).1 Y) (bT_i (Int.le_trans (show 0 ≤ (2 : Int) ∧ (2 : Int) ≤ (6 : Int) ∧ (6 : Int) ≤ (b4_0.length : Int) from h10).1 (show 0 ≤ (2 : Int) ∧ (2 : Int) ≤ (6 : Int) ∧ (6 : Int) ≤ (b4_0.length : Int) from h10).2.1) Y) (.inl Y) (show 0 ≤ (2 : Int) ∧ (2 : Int) ≤ (6 : Int) ∧ (6 : Int) ≤ (b4_0.length : Int) from h10) (g_bytes)) Y)) (a_op (g_on Y Y Y (dF h9) Y (x_p Y (p_callp Y Y Y Try.func35 Y Y (g_tape_number_ac h11) ⟨Y, trivial⟩) Y)) (a_op (g_on Y Y Y (dF h9) Y (x_p Y (p_i_u32 Y Try.underlying3 Try.underlying78 Y) Y)) (a_op (g_on Y Y Y (dF h9) Y (x_p Y (p_move Y Y) Y)) (a_op (g_on Y Y Y (dF h9) Y (x_p Y (p_move Y Y) Y)) (a_op (g_on Y Y Y (dF h9) Y (x_p Y (p_bin Y Y Y Y) Y)) (a_op (g_on Y Y Y (dF h9) Y (x_p Y (u_cutl (g := (fun l => bcells l)) (a := (6 : Int)) (b := w64 ((6 : Int) + r'2)) Y Y Try.underlying45 in_5 Y (bT_i (show 0 ≤ (6 : Int) ∧ (6 : Int) ≤ w64 ((6 : Int) + r'2) ∧ w64 ((6 : Int) + r'2) ≤ (b4_0.length : Int) from h12).1 Y) (bT_i (Int.le_trans (show 0 ≤ (6 : Int) ∧ (6 : Int) ≤ w64 ((6 : Int) + r'2) ∧ w64 ((6 : Int) + r'2) ≤ (b4_0.length : Int) from h12).1 (show 0 ≤ (6 : Int) ∧ (6 : Int) ≤ w64 ((6 : Int) + r'2) ∧ w64 ((6 : Int) + r'2) ≤ (b4_0.length : Int) from h12).2.1) Y) (.inl Y) (show 0 ≤ (6 : Int) ∧ (6 : Int) ≤ w64 ((6 : Int) + r'2) ∧ w64 ((6 : Int) + r'2) ≤ (b4_0.length : Int) from h12) (g_bytes)) Y)) (a_op (g_on Y Y Y (dF h9) Y (x_p Y (p_callp Y Y Y Try.func36 Y Y (g_sum_Crc_ac h13) ⟨Y, trivial⟩) Y)) (a_nil)))))))))))))))))))))))) ?_
         refine t_on Y Y Y Y (dF h9) Y (PureD.opD (p_u32ne (a := UInt32.ofInt r'3) (b := r'4) Y Y Y)) ?_
         refine t_op Y Y (PureD.opD (p_pkf Y Y (dF h9) (.same _))) ?_
         refine t_gho (Gho_st (L := [(4, .y b4_0), (6, .c (.own 6 out6_0.length 1)), (7, .i r'2), (49, .b (decide (UInt32.ofInt r'3 ≠ r'4)))]) (H := [(6, .pure (out6_0.map AV.bytes))]) (N := 64) Y ⟨TLes.same _, TLes.same _, TLes.same _, TLes.same _, trivial⟩ ⟨Y, trivial⟩) ?_
         exact rfl
     ·refine AW2_cond Y (fun h15 => ?_) (fun h15 => ?_)
      ·replace H := ite_then h15 H
       refine sg [0, 1] Y ?_
       refine rp Y Y (p_asgn Y) ?_
       refine rp Y Y (p_asg Y Y) ?_
       refine rz [(2, .p .nil), (3, .i (11 : Int))] [] Y Y Y ?_
       refine as2 [(2, .p .nil), (3, .i (11 : Int))] [] Y Y Y ?_
       refine AW2_gho (Gho_own (d := 2) (b := 2) (z := 1) Y Y Y Y) ?_
       refine AW2_st [(2, .c (.own 2 ([] : List (List UInt8)).length 1)), (3, .i (11 : Int))] [(2, .pure (([] : List (List UInt8)).map AV.bytes))] Y ⟨TLes.own Y, TLes.same _, trivial⟩ ⟨Y, trivial⟩ ?_
       refine AW2_ret ?_
       have hz := some_elim H
       subst hz
       exact ⟨Y, ⟨res_tmp (.same _), res_tmp (.same _), trivial⟩, ⟨Y, trivial⟩⟩
      ·replace H := ite_else (ne_true h15) H
       refine as2 [(4, .y b4_0), (6, .c (.own 6 out6_0.length 1)), (7, .i r'2)] [(6, .pure (out6_0.map AV.bytes))] Y Y Y ?_
       refine AW2_skip ?_
       refine sg [0, 1, 2, 3, 4, 5, 6, 7, 8, 9] Y ?_
       refine rp Y Y (p_move Y Y) ?_
       refine r_op Y Y (MakeD.opD (n_bs0 51 Y Try.underlying45 in_5) Y Y Y Y) ?_
       refine rp Y Y (p_move Y Y) ?_
       refine rp Y Y (p_move Y Y) ?_
       refine rp Y Y (p_bin Y Y Y Y) ?_
       refine chkK H fun h16 H => ?_
       refine rp Y Y (u_cutl (g := (fun l => bcells l)) (a := (6 : Int)) (b := w64 ((6 : Int) + r'2)) Y Y Try.underlying45 in_5 Y (bT_i (show 0 ≤ (6 : Int) ∧ (6 : Int) ≤ w64 ((6 : Int) + r'2) ∧ w64 ((6 : Int) + r'2) ≤ (b4_0.length : Int) from h16).1 Y) (bT_i (Int.le_trans (show 0 ≤ (6 : Int) ∧ (6 : Int) ≤ w64 ((6 : Int) + r'2) ∧ w64 ((6 : Int) + r'2) ≤ (b4_0.length : Int) from h16).1 (show 0 ≤ (6 : Int) ∧ (6 : Int) ≤ w64 ((6 : Int) + r'2) ∧ w64 ((6 : Int) + r'2) ≤ (b4_0.length : Int) from h16).2.1) Y) (.inl Y) (show 0 ≤ (6 : Int) ∧ (6 : Int) ≤ w64 ((6 : Int) + r'2) ∧ w64 ((6 : Int) + r'2) ≤ (b4_0.length : Int) from h16) (g_bytes)) ?_
       refine chkK H fun h17 H => ?_
       refine r_op Y Y (u_app [51] Y Y Y Y Try.underlying45 Try.underlying45 in_5 Y Y Y (bl ([] : List UInt8)) (by decide) Y (bl (cut b4_0 (6 : Int) (w64 ((6 : Int) + r'2)))) h17 (by decide) Y Y (bapp ([] : List UInt8) (cut b4_0 (6 : Int) (w64 ((6 : Int) + r'2)))) (lapp ([] : List UInt8) (cut b4_0 (6 : Int) (w64 ((6 : Int) + r'2))))) ?_
       refine RunW_gho (Gho_pubs [56] ⟨Y, trivial⟩ Y (bl (([] : List UInt8) ++ (cut b4_0 (6 : Int) (w64 ((6 : Int) + r'2))))) (by decide)) ?_
       refine r_op Y Y (MakeD.opD (u_bs 57 Y Try.underlying40 in_45 Y one_45 (by decide) (by decide) Y Y Y) Y Y Y Y) ?_
       refine chkK H fun h18 H => ?_
       refine r_op Y Y (u_app [6, 50] Y Y Y Y Try.underlying40 Try.underlying40 in_45 Y Y Y (ml AV.bytes out6_0) (by decide) (srcT_o Y Y (ml AV.bytes ([([] : List UInt8) ++ (cut b4_0 (6 : Int) (w64 ((6 : Int) + r'2)))] : List (List UInt8))) (by decide)) (ml AV.bytes ([([] : List UInt8) ++ (cut b4_0 (6 : Int) (w64 ((6 : Int) + r'2)))] : List (List UInt8))) h18 (by decide) Y Y (mapp AV.bytes out6_0 ([([] : List UInt8) ++ (cut b4_0 (6 : Int) (w64 ((6 : Int) + r'2)))] : List (List UInt8))) (lapp out6_0 ([([] : List UInt8) ++ (cut b4_0 (6 : Int) (w64 ((6 : Int) + r'2)))] : List (List UInt8)))) ?_
       refine rp Y Y (p_asg Y Y) ?_
       refine rz [(4, .y b4_0), (6, .c (.own 6 (out6_0 ++ ([([] : List UInt8) ++ (cut b4_0 (6 : Int) (w64 ((6 : Int) + r'2)))] : List (List UInt8))).length 1)), (7, .i r'2)] [(6, .pure ((out6_0 ++ ([([] : List UInt8) ++ (cut b4_0 (6 : Int) (w64 ((6 : Int) + r'2)))] : List (List UInt8))).map AV.bytes))] Y Y Y ?_
       refine gen1 (fun out6'6 => (⟨[(4, .y b4_0), (6, .c (.own 6 out6'6.length 1)), (7, .i r'2)], [(6, .pure (out6'6.map AV.bytes))], 64⟩ : TS)) H ?_
       intro out6'6 H
       refine AW2_reg [0, 1, 2, 3, 4] Y ?_
       refine rp Y Y (p_move Y Y) ?_
       refine rp Y Y (p_move Y Y) ?_
       refine rp Y Y (p_bin Y Y Y Y) ?_
       refine chkK H fun h19 H => ?_
       refine rp Y Y (u_cutl (g := (fun l => bcells l)) (a := w64 ((6 : Int) + r'2)) (b := (b4_0.length : Int)) Y Y Try.underlying45 in_5 Y (bT_i (show 0 ≤ w64 ((6 : Int) + r'2) ∧ w64 ((6 : Int) + r'2) ≤ (b4_0.length : Int) ∧ (b4_0.length : Int) ≤ (b4_0.length : Int) from ⟨h19.1, h19.2, Int.le_refl _⟩).1 Y) (bT_len _) (.inl Y) (show 0 ≤ w64 ((6 : Int) + r'2) ∧ w64 ((6 : Int) + r'2) ≤ (b4_0.length : Int) ∧ (b4_0.length : Int) ≤ (b4_0.length : Int) from ⟨h19.1, h19.2, Int.le_refl _⟩) (g_bytes)) ?_
       refine rp Y Y (p_asg Y Y) ?_
       refine rz [(4, .y (cut b4_0 (w64 ((6 : Int) + r'2)) (b4_0.length : Int))), (6, .c (.own 6 out6'6.length 1))] [(6, .pure (out6'6.map AV.bytes))] Y Y Y ?_
       have hz := some_elim H
       subst hz
       exact ⟨Y, Y⟩
   ·replace H := ite_else h3 H
    refine as2 [(6, .c (.own 6 out6_0.length 1))] [(6, .pure (out6_0.map AV.bytes))] Y Y Y ?_
    refine AW2_exit ?_
    refine thenQ2_exit ?_
    have hz := some_elim H
    subst hz
    exact ⟨Y, Y⟩
  ·rcases o'10 with y'11 | y'12
   ·obtain ⟨rfl, hs⟩ := hs
    refine ⟨by simp, ?_⟩
    have hz := some_elim H
    subst hz
    exact ⟨hs.1, hs.2⟩
   ·obtain ⟨rfl, rfl⟩ := hs
    refine ⟨by simp, ?_⟩
    refine blockQ2_exit ?_
    refine sg [0, 1, 2] Y ?_
    refine rp Y Y (p_move Y Y) ?_
    refine rp Y Y (p_asg Y Y) ?_
    refine rp Y Y (p_asg Y Y) ?_
    refine rs [(2, .c (.own 6 y'12.length 1)), (3, .i (0 : Int))] [(6, .pure (y'12.map AV.bytes))] Y Y Y ?_
    refine RunW_gho (Gho_ren 6 2 Y Y Y Y Y) ?_
    refine rz [(2, .c (.own 2 y'12.length 1)), (3, .i (0 : Int))] [(2, .pure (y'12.map AV.bytes))] Y Y Y ?_
    refine as2 [(2, .c (.own 2 y'12.length 1)), (3, .i (0 : Int))] [(2, .pure (y'12.map AV.bytes))] Y Y Y ?_
    refine AW2_ret ?_
    have hz := some_elim H
    subst hz
    exact ⟨⟨res_tmp (.same _), res_tmp (.same _), trivial⟩, ⟨Y, trivial⟩⟩
theorem g_tape_Open_ac {d0 : GDisk} {r : (List (List UInt8)) × Int} (H : g_tape_Open d0 = some r) : ACp Try.prog 21 [(.agg (GDisk.cs d0))] (.tup [(AV.lists r.1), (AV.int r.2)]) := ACp_pub (g_tape_Open_ac2 H) (fun _ _ hm => lent_tup ⟨lent_own hm rfl (ml AV.bytes r.1) (by decide), .same _, trivial⟩)

/-! chirographref.DiskFault -/
noncomputable def g_ref_DiskFault_l0 (d0 : GDisk) : Int → Option (Int ⊕ (Int ⊕ Unit))
  | t24_0 => (if t24_0 < (d0.Writes.length : Int) then if 0 ≤ t24_0 ∧ t24_0 < (d0.Writes.length : Int) then (if ((lrd d0.Writes t24_0.toNat).At < (0 : Int)) ∨ ((lrd d0.Writes t24_0.toNat).At ≥ (d0.Lasts.length : Int)) then some (.inr (.inl (6 : Int))) else some (.inl (w64 (t24_0 + (1 : Int))))) else none else some (.inr (.inr ())))
noncomputable def g_ref_DiskFault (d0 : GDisk) : Option (Int) :=
  (if (((d0.Lasts.length : Int) = (0 : Int)) ∨ ((d0.Lasts.length : Int) > (400 : Int))) ∨ ((d0.Writes.length : Int) > (60 : Int)) then some (1 : Int) else (loopO (g_ref_DiskFault_l0 d0) (0 : Int)).bind fun o'4 => match o'4 with | .inl y'5 => some y'5 | .inr (y'6) => some (0 : Int))
set_option maxHeartbeats 4000000 in
set_option maxRecDepth 100000 in
theorem g_ref_DiskFault_ac {d0 : GDisk} {r : Int} (H : g_ref_DiskFault d0 = some r) : ACp Try.prog 12 [(.agg (GDisk.cs d0))] (AV.int r) := by
 refine ACp_of (AC2_of_body (vs := [.i r]) Try.func12 Y Y (Nat.le_of_ble_eq_true Y) Y ?_) (fun _ => .same _)
 unfold g_ref_DiskFault at H
 refine as2 [(0, .g (GDisk.cs d0))] [] Y Y Y ?_
 refine sg [0, 1] Y ?_
 refine r_op Y Y (MakeD.opD (n_box 1 Y Y) Y Y Y Y) ?_
 refine rp Y Y (p_asg Y Y) ?_
 refine rz [(1, .q 1 (0))] [(1, .pure (GDisk.cs d0))] Y Y Y ?_
 refine sg [0, 1, 2, 3] Y ?_
 refine rp Y Y (u_fa Y Y Try.underlying25 Y in_22 nz Y Y (nl (GDisk.len d0))) ?_
 refine rp Y Y (u_ld Y Y Try.underlying22 Y Y ((Sub.refl _).trans (GDisk.sub0 d0))) ?_
 refine rp Y Y (p_lenl Y Try.underlying22 Y Y) ?_
 refine rp Y Y (p_asg Y Y) ?_
 refine rz [(1, .q 1 (0)), (3, .i (d0.Lasts.length : Int))] [(1, .pure (GDisk.cs d0))] Y Y Y ?_
 refine AW2_seq ?_
 refine AW2_seq ?_
 refine AW2_mid (⟨[(1, .q 1 (0)), (3, .i (d0.Lasts.length : Int)), (20, .b (decide ((((d0.Lasts.length : Int) = (0 : Int)) ∨ ((d0.Lasts.length : Int) > (400 : Int))) ∨ ((d0.Writes.length : Int) > (60 : Int)))))], [(1, .pure (GDisk.cs d0))], 38⟩ : TS) ?_ ?_
 ·refine AW2_reg [0, 1, 2, 3, 4, 5, 6, 7, 8, 9, 10, 11] Y ?_
  refine rp Y Y (p_move Y Y) ?_
  refine rp Y Y (p_ieq Y Y Y) ?_
  refine rp Y Y (p_move Y Y) ?_
  refine (Classical.em ((d0.Lasts.length : Int) = (0 : Int))).elim (fun h1 => ?_) (fun h1 => ?_)
  ·refine r_off Y Y Y Y (dT h1) Y Y ?_
   refine r_off Y Y Y Y (dT h1) Y Y ?_
   refine rp Y Y (p_pkt Y Y (dT h1) (tb (dT (p := ((d0.Lasts.length : Int) = (0 : Int)) ∨ ((d0.Lasts.length : Int) > (400 : Int))) (Or.inl h1)).symm)) ?_
   refine rp Y Y (p_move Y Y) ?_
   refine r_off Y Y Y Y (dT (p := ((d0.Lasts.length : Int) = (0 : Int)) ∨ ((d0.Lasts.length : Int) > (400 : Int))) (Or.inl h1)) Y Y ?_
   refine r_off Y Y Y Y (dT (p := ((d0.Lasts.length : Int) = (0 : Int)) ∨ ((d0.Lasts.length : Int) > (400 : Int))) (Or.inl h1)) Y Y ?_
   refine r_off Y Y Y Y (dT (p := ((d0.Lasts.length : Int) = (0 : Int)) ∨ ((d0.Lasts.length : Int) > (400 : Int))) (Or.inl h1)) Y Y ?_
   refine r_off Y Y Y Y (dT (p := ((d0.Lasts.length : Int) = (0 : Int)) ∨ ((d0.Lasts.length : Int) > (400 : Int))) (Or.inl h1)) Y Y ?_
   refine rp Y Y (p_pkt Y Y (dT (p := ((d0.Lasts.length : Int) = (0 : Int)) ∨ ((d0.Lasts.length : Int) > (400 : Int))) (Or.inl h1)) (tb (dT (p := (((d0.Lasts.length : Int) = (0 : Int)) ∨ ((d0.Lasts.length : Int) > (400 : Int))) ∨ ((d0.Writes.length : Int) > (60 : Int))) (Or.inl (Or.inl h1))).symm)) ?_
   refine rs [(1, .q 1 (0)), (3, .i (d0.Lasts.length : Int)), (20, .b (decide ((((d0.Lasts.length : Int) = (0 : Int)) ∨ ((d0.Lasts.length : Int) > (400 : Int))) ∨ ((d0.Writes.length : Int) > (60 : Int)))))] [(1, .pure (GDisk.cs d0))] Y Y Y ?_
   exact RunW_nil rfl
  ·refine r_on Y Y Y Y (dF h1) Y (PureD.opD (p_move Y Y)) ?_
   refine r_on Y Y Y Y (dF h1) Y (PureD.opD (p_bin Y Y Y Y)) ?_
   refine rp Y Y (p_pkf Y Y (dF h1) (tb ((or_l (p := (d0.Lasts.length : Int) = (0 : Int)) (q := (d0.Lasts.length : Int) > (400 : Int)) h1)))) ?_
   refine rp Y Y (p_move Y Y) ?_
   refine (Classical.em ((d0.Lasts.length : Int) > (400 : Int))).elim (fun h2 => ?_) (fun h2 => ?_)
   ·refine r_off Y Y Y Y (dT (p := ((d0.Lasts.length : Int) = (0 : Int)) ∨ ((d0.Lasts.length : Int) > (400 : Int))) (Or.inr h2)) Y Y ?_
    refine r_off Y Y Y Y (dT (p := ((d0.Lasts.length : Int) = (0 : Int)) ∨ ((d0.Lasts.length : Int) > (400 : Int))) (Or.inr h2)) Y Y ?_
    refine r_off Y Y Y Y (dT (p := ((d0.Lasts.length : Int) = (0 : Int)) ∨ ((d0.Lasts.length : Int) > (400 : Int))) (Or.inr h2)) Y Y ?_
    refine r_off Y Y Y Y (dT (p := ((d0.Lasts.length : Int) = (0 : Int)) ∨ ((d0.Lasts.length : Int) > (400 : Int))) (Or.inr h2)) Y Y ?_
    refine rp Y Y (p_pkt Y Y (dT (p := ((d0.Lasts.length : Int) = (0 : Int)) ∨ ((d0.Lasts.length : Int) > (400 : Int))) (Or.inr h2)) (tb (dT (p := (((d0.Lasts.length : Int) = (0 : Int)) ∨ ((d0.Lasts.length : Int) > (400 : Int))) ∨ ((d0.Writes.length : Int) > (60 : Int))) (Or.inl (Or.inr h2))).symm)) ?_
    refine rs [(1, .q 1 (0)), (3, .i (d0.Lasts.length : Int)), (20, .b (decide ((((d0.Lasts.length : Int) = (0 : Int)) ∨ ((d0.Lasts.length : Int) > (400 : Int))) ∨ ((d0.Writes.length : Int) > (60 : Int)))))] [(1, .pure (GDisk.cs d0))] Y Y Y ?_
    exact RunW_nil rfl
   ·refine r_on Y Y Y Y (dF (p := ((d0.Lasts.length : Int) = (0 : Int)) ∨ ((d0.Lasts.length : Int) > (400 : Int))) (not_or.2 ⟨h1, h2⟩)) Y (PureD.opD (u_fa Y Y Try.underlying25 Y in_23 nz Y Y (nl (GDisk.len d0)))) ?_
    refine r_on Y Y Y Y (dF (p := ((d0.Lasts.length : Int) = (0 : Int)) ∨ ((d0.Lasts.length : Int) > (400 : Int))) (not_or.2 ⟨h1, h2⟩)) Y (PureD.opD (u_ld Y Y Try.underlying23 Y Y ((Sub.refl _).trans (GDisk.sub1 d0)))) ?_
    refine r_on Y Y Y Y (dF (p := ((d0.Lasts.length : Int) = (0 : Int)) ∨ ((d0.Lasts.length : Int) > (400 : Int))) (not_or.2 ⟨h1, h2⟩)) Y (PureD.opD (p_lenl Y Try.underlying23 Y Y)) ?_
    refine r_on Y Y Y Y (dF (p := ((d0.Lasts.length : Int) = (0 : Int)) ∨ ((d0.Lasts.length : Int) > (400 : Int))) (not_or.2 ⟨h1, h2⟩)) Y (PureD.opD (p_bin Y Y Y Y)) ?_
    refine rp Y Y (p_pkf Y Y (dF (p := ((d0.Lasts.length : Int) = (0 : Int)) ∨ ((d0.Lasts.length : Int) > (400 : Int))) (not_or.2 ⟨h1, h2⟩)) (tb ((or_l (p := ((d0.Lasts.length : Int) = (0 : Int)) ∨ ((d0.Lasts.length : Int) > (400 : Int))) (q := (d0.Writes.length : Int) > (60 : Int)) (not_or.2 ⟨h1, h2⟩))))) ?_
    refine rs [(1, .q 1 (0)), (3, .i (d0.Lasts.length : Int)), (20, .b (decide ((((d0.Lasts.length : Int) = (0 : Int)) ∨ ((d0.Lasts.length : Int) > (400 : Int))) ∨ ((d0.Writes.length : Int) > (60 : Int)))))] [(1, .pure (GDisk.cs d0))] Y Y Y ?_
    exact RunW_nil rfl
 ·refine AW2_if (p := (((d0.Lasts.length : Int) = (0 : Int)) ∨ ((d0.Lasts.length : Int) > (400 : Int))) ∨ ((d0.Writes.length : Int) > (60 : Int))) Y (fun h3 => ?_) (fun h3 => ?_)
  ·replace H := ite_then h3 H
   refine sg [0] Y ?_
   refine rp Y Y (p_asg Y Y) ?_
   refine rz [(2, .i (1 : Int))] [] Y Y Y ?_
   refine AW2_ret ?_
   have hz := some_elim H
   subst hz
   exact ⟨⟨res_tmp (.same _), trivial⟩, trivial⟩
  ·replace H := ite_else h3 H
   refine as2 [(1, .q 1 (0)), (3, .i (d0.Lasts.length : Int))] [(1, .pure (GDisk.cs d0))] Y Y Y ?_
   refine AW2_skip ?_
   refine AW2_seq ?_
   refine sg [0, 1, 2, 3] Y ?_
   refine rp Y Y (u_fa Y Y Try.underlying25 Y in_23 nz Y Y (nl (GDisk.len d0))) ?_
   refine rp Y Y (u_ld Y Y Try.underlying23 Y Y ((Sub.refl _).trans (GDisk.sub1 d0))) ?_
   refine rp Y Y (p_lenl Y Try.underlying23 Y Y) ?_
   refine rp Y Y (p_move Y Y) ?_
   refine rz [(3, .i (d0.Lasts.length : Int)), (22, .p ((fun q : List GPut => AV.lst (q.flatMap GPut.cs) q.length) d0.Writes)), (23, .i (d0.Writes.length : Int)), (24, .i (0 : Int))] [] Y Y Y ?_
   refine AW2_block ?_
   refine as2 [(3, .i (d0.Lasts.length : Int)), (22, .p ((fun q : List GPut => AV.lst (q.flatMap GPut.cs) q.length) d0.Writes)), (23, .i (d0.Writes.length : Int)), (24, .i (0 : Int))] [] Y Y Y ?_
   refine bindK H fun o'4 h8 H => ?_
   refine AW2_loopO (fun a'1 : Int => (⟨[(3, .i (d0.Lasts.length : Int)), (22, .p ((fun q : List GPut => AV.lst (q.flatMap GPut.cs) q.length) d0.Writes)), (23, .i (d0.Writes.length : Int)), (24, .i a'1)], [], 38⟩ : TS)) (fun (o : Int ⊕ Unit) e s' => match o with | .inl y'2 => e = Go.Exit.ret ∧ ResAll Try.prog s' [ResultVar.tmp 2] [.i y'2] ∧ HFits s' [] | .inr (y'3) => e = Go.Exit.exit 0 ∧ s' = (⟨[], [], 38⟩ : TS)) h8 Y (fun t24_0 x hx => ?_) (fun e s' hs => ?_)
   ·clear H
    have H := hx
    clear hx
    unfold g_ref_DiskFault_l0 at H
    refine sg [0] Y ?_
    refine rp Y Y (p_bin Y Y Y Y) ?_
    refine rz [(3, .i (d0.Lasts.length : Int)), (22, .p ((fun q : List GPut => AV.lst (q.flatMap GPut.cs) q.length) d0.Writes)), (23, .i (d0.Writes.length : Int)), (24, .i t24_0), (25, .b (decide (t24_0 < (d0.Writes.length : Int))))] [] Y Y Y ?_
    refine AW2_seq ?_
    refine AW2_if (p := t24_0 < (d0.Writes.length : Int)) Y (fun h4 => ?_) (fun h4 => ?_)
    ·replace H := ite_then h4 H
     refine as2 [(3, .i (d0.Lasts.length : Int)), (22, .p ((fun q : List GPut => AV.lst (q.flatMap GPut.cs) q.length) d0.Writes)), (23, .i (d0.Writes.length : Int)), (24, .i t24_0)] [] Y Y Y ?_
     refine AW2_skip ?_
     refine AW2_seq ?_
     refine AW2_block ?_
     refine sg [0, 1, 2, 3] Y ?_
     refine chkK H fun h5 H => ?_
     refine rp Y Y (u_ixl Y Y Try.underlying23 in_70 Y Y (ixe h5) (ixn h5) (fne (fun x => (GPut.len x)) (by decide) (ixn h5))) ?_
     refine rp Y Y (u_lda Y Y Try.underlying70 Y in_70 Y (Nat.succ_pos _) (Sub.fm default (fun x => (GPut.len x)) (ixn h5)) (GPut.len (lrd d0.Writes t24_0.toNat))) ?_
     refine r_op Y Y (MakeD.opD (u_alloc 5 Y in_70 one_70 zc_70) Y Y Y Y) ?_
     refine r_op Y Y (u_st Y Y Y Y Y in_70 (GPut.len (lrd d0.Writes t24_0.toNat)) (nl (GPut.len GPut.zero)) (Upd.refl ((GPut.len (lrd d0.Writes t24_0.toNat)).trans (GPut.len GPut.zero).symm))) ?_
     refine rz [(3, .i (d0.Lasts.length : Int)), (5, .q 5 (0)), (22, .p ((fun q : List GPut => AV.lst (q.flatMap GPut.cs) q.length) d0.Writes)), (23, .i (d0.Writes.length : Int)), (24, .i t24_0)] [(5, .pure (GPut.cs (lrd d0.Writes t24_0.toNat)))] Y Y Y ?_
     refine AW2_seq ?_
     refine AW2_mid (⟨[(3, .i (d0.Lasts.length : Int)), (22, .p ((fun q : List GPut => AV.lst (q.flatMap GPut.cs) q.length) d0.Writes)), (23, .i (d0.Writes.length : Int)), (24, .i t24_0), (36, .b (decide (((lrd d0.Writes t24_0.toNat).At < (0 : Int)) ∨ ((lrd d0.Writes t24_0.toNat).At ≥ (d0.Lasts.length : Int)))))], [], 38⟩ : TS) ?_ ?_
     ·refine AW2_reg [0, 1, 2, 3, 4, 5, 6, 7, 8] Y ?_
      refine rp Y Y (u_fa Y Y Try.underlying70 Y in_3 nz Y Y (nl (GPut.len (lrd d0.Writes t24_0.toNat)))) ?_
      refine rp Y Y (u_ld Y Y Try.underlying3 Y Y ((Sub.refl _).trans (GPut.sub0 (lrd d0.Writes t24_0.toNat)))) ?_
      refine rp Y Y (p_bin Y Y Y Y) ?_
      refine rp Y Y (p_move Y Y) ?_
      refine (Classical.em ((lrd d0.Writes t24_0.toNat).At < (0 : Int))).elim (fun h6 => ?_) (fun h6 => ?_)
      ·refine r_off Y Y Y Y (dT h6) Y Y ?_
       refine r_off Y Y Y Y (dT h6) Y Y ?_
       refine r_off Y Y Y Y (dT h6) Y Y ?_
       refine r_off Y Y Y Y (dT h6) Y Y ?_
       refine rp Y Y (p_pkt Y Y (dT h6) (tb (dT (p := ((lrd d0.Writes t24_0.toNat).At < (0 : Int)) ∨ ((lrd d0.Writes t24_0.toNat).At ≥ (d0.Lasts.length : Int))) (Or.inl h6)).symm)) ?_
       refine rs [(3, .i (d0.Lasts.length : Int)), (22, .p ((fun q : List GPut => AV.lst (q.flatMap GPut.cs) q.length) d0.Writes)), (23, .i (d0.Writes.length : Int)), (24, .i t24_0), (36, .b (decide (((lrd d0.Writes t24_0.toNat).At < (0 : Int)) ∨ ((lrd d0.Writes t24_0.toNat).At ≥ (d0.Lasts.length : Int)))))] [] Y Y Y ?_
       exact RunW_nil rfl
      ·refine r_on Y Y Y Y (dF h6) Y (PureD.opD (u_fa Y Y Try.underlying70 Y in_3 nz Y Y (nl (GPut.len (lrd d0.Writes t24_0.toNat))))) ?_
       refine r_on Y Y Y Y (dF h6) Y (PureD.opD (u_ld Y Y Try.underlying3 Y Y ((Sub.refl _).trans (GPut.sub0 (lrd d0.Writes t24_0.toNat))))) ?_
       refine r_on Y Y Y Y (dF h6) Y (PureD.opD (p_move Y Y)) ?_
       refine r_on Y Y Y Y (dF h6) Y (PureD.opD (p_bin Y Y Y Y)) ?_
       refine rp Y Y (p_pkf Y Y (dF h6) (tb ((or_l (p := (lrd d0.Writes t24_0.toNat).At < (0 : Int)) (q := (lrd d0.Writes t24_0.toNat).At ≥ (d0.Lasts.length : Int)) h6)))) ?_
       refine rs [(3, .i (d0.Lasts.length : Int)), (22, .p ((fun q : List GPut => AV.lst (q.flatMap GPut.cs) q.length) d0.Writes)), (23, .i (d0.Writes.length : Int)), (24, .i t24_0), (36, .b (decide (((lrd d0.Writes t24_0.toNat).At < (0 : Int)) ∨ ((lrd d0.Writes t24_0.toNat).At ≥ (d0.Lasts.length : Int)))))] [] Y Y Y ?_
       exact RunW_nil rfl
     ·refine AW2_if (p := ((lrd d0.Writes t24_0.toNat).At < (0 : Int)) ∨ ((lrd d0.Writes t24_0.toNat).At ≥ (d0.Lasts.length : Int))) Y (fun h7 => ?_) (fun h7 => ?_)
      ·replace H := ite_then h7 H
       refine sg [0] Y ?_
       refine rp Y Y (p_asg Y Y) ?_
       refine rz [(2, .i (6 : Int))] [] Y Y Y ?_
       refine AW2_ret ?_
       have hz := some_elim H
       subst hz
       exact ⟨Y, ⟨res_tmp (.same _), trivial⟩, trivial⟩
      ·replace H := ite_else h7 H
       refine as2 [(3, .i (d0.Lasts.length : Int)), (22, .p ((fun q : List GPut => AV.lst (q.flatMap GPut.cs) q.length) d0.Writes)), (23, .i (d0.Writes.length : Int)), (24, .i t24_0)] [] Y Y Y ?_
       refine AW2_skip ?_
       refine AW2_reg [0, 1] Y ?_
       refine rp Y Y (p_bin Y Y Y Y) ?_
       refine rp Y Y (p_move Y Y) ?_
       refine rz [(3, .i (d0.Lasts.length : Int)), (22, .p ((fun q : List GPut => AV.lst (q.flatMap GPut.cs) q.length) d0.Writes)), (23, .i (d0.Writes.length : Int)), (24, .i (w64 (t24_0 + (1 : Int))))] [] Y Y Y ?_
       have hz := some_elim H
       subst hz
       exact ⟨Y, Y⟩
    ·replace H := ite_else h4 H
     refine as2 [] [] Y Y Y ?_
     refine AW2_exit ?_
     refine thenQ2_exit ?_
     have hz := some_elim H
     subst hz
     exact ⟨Y, Y⟩
   ·rcases o'4 with y'5 | y'6
    ·obtain ⟨rfl, hs⟩ := hs
     refine ⟨by simp, ?_⟩
     have hz := some_elim H
     subst hz
     exact ⟨hs.1, hs.2⟩
    ·obtain ⟨rfl, rfl⟩ := hs
     refine ⟨by simp, ?_⟩
     refine blockQ2_exit ?_
     refine sg [0] Y ?_
     refine rp Y Y (p_asg Y Y) ?_
     refine rz [(2, .i (0 : Int))] [] Y Y Y ?_
     refine AW2_ret ?_
     have hz := some_elim H
     subst hz
     exact ⟨⟨res_tmp (.same _), trivial⟩, trivial⟩

/-! chirographref.sectorFault -/
noncomputable def g_ref_sectorFault (d0 : GDisk) (i1 : Int) : Option (Int) :=
  (g_ref_DiskFault d0).bind fun r'1 => (if r'1 ≠ (0 : Int) then some r'1 else (if (i1 < (0 : Int)) ∨ (i1 ≥ (d0.Lasts.length : Int)) then some (6 : Int) else some (0 : Int)))
set_option maxHeartbeats 4000000 in
set_option maxRecDepth 100000 in
theorem g_ref_sectorFault_ac {d0 : GDisk} {i1 : Int} {r : Int} (H : g_ref_sectorFault d0 i1 = some r) : ACp Try.prog 29 [(.agg (GDisk.cs d0)), (AV.int i1)] (AV.int r) := by
 refine ACp_of (AC2_of_body (vs := [.i r]) Try.func29 Y Y (Nat.le_of_ble_eq_true Y) Y ?_) (fun _ => .same _)
 unfold g_ref_sectorFault at H
 refine as2 [(0, .g (GDisk.cs d0)), (1, .i i1)] [] Y Y Y ?_
 refine sg [0, 1] Y ?_
 refine r_op Y Y (MakeD.opD (n_box 2 Y Y) Y Y Y Y) ?_
 refine rp Y Y (p_asg Y Y) ?_
 refine rz [(1, .i i1), (2, .q 2 (0))] [(2, .pure (GDisk.cs d0))] Y Y Y ?_
 refine AW2_seq ?_
 refine sg [0, 1, 2] Y ?_
 refine rp Y Y (u_lda Y Y Try.underlying25 Y in_25 Y (Nat.succ_pos _) (Sub.refl _) (GDisk.len d0)) ?_
 refine bindK H fun r'1 h1 H => ?_
 refine rp Y Y (p_callp Y Y Y Try.func12 Y Y (g_ref_DiskFault_ac h1) ⟨Y, trivial⟩) ?_
 refine rp Y Y (p_asg Y Y) ?_
 refine rz [(1, .i i1), (2, .q 2 (0)), (5, .i r'1)] [(2, .pure (GDisk.cs d0))] Y Y Y ?_
 refine sg [0, 1] Y ?_
 refine rp Y Y (p_move Y Y) ?_
 refine rp Y Y (p_ine Y Y Y) ?_
 refine rz [(1, .i i1), (2, .q 2 (0)), (5, .i r'1), (9, .b (decide (r'1 ≠ (0 : Int))))] [(2, .pure (GDisk.cs d0))] Y Y Y ?_
 refine AW2_if (p := r'1 ≠ (0 : Int)) Y (fun h2 => ?_) (fun h2 => ?_)
 ·replace H := ite_then h2 H
  refine sg [0, 1] Y ?_
  refine rp Y Y (p_move Y Y) ?_
  refine rp Y Y (p_asg Y Y) ?_
  refine rz [(4, .i r'1)] [] Y Y Y ?_
  refine AW2_ret ?_
  have hz := some_elim H
  subst hz
  exact ⟨⟨res_tmp (.same _), trivial⟩, trivial⟩
 ·replace H := ite_else h2 H
  refine as2 [(1, .i i1), (2, .q 2 (0))] [(2, .pure (GDisk.cs d0))] Y Y Y ?_
  refine AW2_skip ?_
  refine AW2_seq ?_
  refine AW2_seq ?_
  refine AW2_mid (⟨[(19, .b (decide ((i1 < (0 : Int)) ∨ (i1 ≥ (d0.Lasts.length : Int)))))], [], 20⟩ : TS) ?_ ?_
  ·refine AW2_reg [0, 1, 2, 3, 4, 5, 6, 7, 8] Y ?_
   refine rp Y Y (p_move Y Y) ?_
   refine rp Y Y (p_bin Y Y Y Y) ?_
   refine rp Y Y (p_move Y Y) ?_
   refine (Classical.em (i1 < (0 : Int))).elim (fun h3 => ?_) (fun h3 => ?_)
   ·refine r_off Y Y Y Y (dT h3) Y Y ?_
    refine r_off Y Y Y Y (dT h3) Y Y ?_
    refine r_off Y Y Y Y (dT h3) Y Y ?_
    refine r_off Y Y Y Y (dT h3) Y Y ?_
    refine r_off Y Y Y Y (dT h3) Y Y ?_
    refine rp Y Y (p_pkt Y Y (dT h3) (tb (dT (p := (i1 < (0 : Int)) ∨ (i1 ≥ (d0.Lasts.length : Int))) (Or.inl h3)).symm)) ?_
    refine rs [(19, .b (decide ((i1 < (0 : Int)) ∨ (i1 ≥ (d0.Lasts.length : Int)))))] [] Y Y Y ?_
    exact RunW_nil rfl
   ·refine r_on Y Y Y Y (dF h3) Y (PureD.opD (p_move Y Y)) ?_
    refine r_on Y Y Y Y (dF h3) Y (PureD.opD (u_fa Y Y Try.underlying25 Y in_22 nz Y Y (nl (GDisk.len d0)))) ?_
    refine r_on Y Y Y Y (dF h3) Y (PureD.opD (u_ld Y Y Try.underlying22 Y Y ((Sub.refl _).trans (GDisk.sub0 d0)))) ?_
    refine r_on Y Y Y Y (dF h3) Y (PureD.opD (p_lenl Y Try.underlying22 Y Y)) ?_
    refine r_on Y Y Y Y (dF h3) Y (PureD.opD (p_bin Y Y Y Y)) ?_
    refine rp Y Y (p_pkf Y Y (dF h3) (tb ((or_l (p := i1 < (0 : Int)) (q := i1 ≥ (d0.Lasts.length : Int)) h3)))) ?_
    refine rs [(19, .b (decide ((i1 < (0 : Int)) ∨ (i1 ≥ (d0.Lasts.length : Int)))))] [] Y Y Y ?_
    exact RunW_nil rfl
  ·refine AW2_if (p := (i1 < (0 : Int)) ∨ (i1 ≥ (d0.Lasts.length : Int))) Y (fun h4 => ?_) (fun h4 => ?_)
   ·replace H := ite_then h4 H
    refine sg [0] Y ?_
    refine rp Y Y (p_asg Y Y) ?_
    refine rz [(4, .i (6 : Int))] [] Y Y Y ?_
    refine AW2_ret ?_
    have hz := some_elim H
    subst hz
    exact ⟨⟨res_tmp (.same _), trivial⟩, trivial⟩
   ·replace H := ite_else h4 H
    refine as2 [] [] Y Y Y ?_
    refine AW2_skip ?_
    refine sg [0] Y ?_
    refine rp Y Y (p_asg Y Y) ?_
    refine rz [(4, .i (0 : Int))] [] Y Y Y ?_
    refine AW2_ret ?_
    have hz := some_elim H
    subst hz
    exact ⟨⟨res_tmp (.same _), trivial⟩, trivial⟩

/-! chirographref.SectorOf -/
noncomputable def g_ref_SectorOf_l0 (d0 : GDisk) (i1 : Int) : Int → Option (Int ⊕ (((Vector UInt8 32) × Int) ⊕ Unit))
  | k7_0 => (if k7_0 ≥ (0 : Int) then if 0 ≤ k7_0 ∧ k7_0 < (d0.Writes.length : Int) then (if (lrd d0.Writes k7_0.toNat).At = i1 then if 0 ≤ k7_0 ∧ k7_0 < (d0.Writes.length : Int) then some (.inr (.inl ((lrd d0.Writes k7_0.toNat).Data, (0 : Int)))) else none else some (.inl (w64 (k7_0 - (1 : Int))))) else none else some (.inr (.inr ())))
noncomputable def g_ref_SectorOf (d0 : GDisk) (i1 : Int) : Option ((Vector UInt8 32) × Int) :=
  (g_ref_sectorFault d0 i1).bind fun r'1 => (if r'1 ≠ (0 : Int) then some ((Vector.replicate 32 (0 : UInt8)), r'1) else (loopO (g_ref_SectorOf_l0 d0 i1) (w64 ((d0.Writes.length : Int) - (1 : Int)))).bind fun o'5 => match o'5 with | .inl y'6 => some y'6 | .inr (y'7) => if 0 ≤ i1 ∧ i1 < (d0.Lasts.length : Int) then some ((lrd d0.Lasts i1.toNat), (0 : Int)) else none)
set_option maxHeartbeats 4000000 in
set_option maxRecDepth 100000 in
theorem g_ref_SectorOf_ac {d0 : GDisk} {i1 : Int} {r : (Vector UInt8 32) × Int} (H : g_ref_SectorOf d0 i1 = some r) : ACp Try.prog 15 [(.agg (GDisk.cs d0)), (AV.int i1)] (.tup [(.agg (bcells r.1.toList)), (AV.int r.2)]) := by
 refine ACp_of (AC2_of_body (vs := [.g (bcells r.1.toList), .i r.2]) Try.func15 Y Y (Nat.le_of_ble_eq_true Y) Y ?_) (fun _ => .same _)
 unfold g_ref_SectorOf at H
 refine as2 [(0, .g (GDisk.cs d0)), (1, .i i1)] [] Y Y Y ?_
 refine sg [0, 1, 2] Y ?_
 refine r_op Y Y (MakeD.opD (n_box 2 Y Y) Y Y Y Y) ?_
 refine r_op Y Y (MakeD.opD (u_alloc 4 Y in_32 one_32 zc_32) Y Y Y Y) ?_
 refine rp Y Y (p_asg Y Y) ?_
 refine rz [(1, .i i1), (2, .q 2 (0)), (4, .q 4 (0))] [(2, .pure (GDisk.cs d0)), (4, .pure (bcells ((Vector.replicate 32 (0 : UInt8)).toList)))] Y Y Y ?_
 refine AW2_seq ?_
 refine sg [0, 1, 2, 3] Y ?_
 refine rp Y Y (u_lda Y Y Try.underlying25 Y in_25 Y (Nat.succ_pos _) (Sub.refl _) (GDisk.len d0)) ?_
 refine rp Y Y (p_move Y Y) ?_
 refine bindK H fun r'1 h1 H => ?_
 refine rp Y Y (p_callp Y Y Y Try.func29 Y Y (g_ref_sectorFault_ac h1) ⟨Y, Y, trivial⟩) ?_
 refine rp Y Y (p_asg Y Y) ?_
 refine rz [(1, .i i1), (2, .q 2 (0)), (4, .q 4 (0)), (6, .i r'1)] [(2, .pure (GDisk.cs d0)), (4, .pure (bcells ((Vector.replicate 32 (0 : UInt8)).toList)))] Y Y Y ?_
 refine sg [0, 1] Y ?_
 refine rp Y Y (p_move Y Y) ?_
 refine rp Y Y (p_ine Y Y Y) ?_
 refine rz [(1, .i i1), (2, .q 2 (0)), (4, .q 4 (0)), (6, .i r'1), (12, .b (decide (r'1 ≠ (0 : Int))))] [(2, .pure (GDisk.cs d0)), (4, .pure (bcells ((Vector.replicate 32 (0 : UInt8)).toList)))] Y Y Y ?_
 refine AW2_if (p := r'1 ≠ (0 : Int)) Y (fun h2 => ?_) (fun h2 => ?_)
 ·replace H := ite_then h2 H
  refine sg [0, 1, 2, 3] Y ?_
  refine rp Y Y (u_blda Y in_32 one_32 zc_32 Try.underlying32 in_5 Y Y) ?_
  refine rp Y Y (p_move Y Y) ?_
  refine r_op Y Y (u_st Y Y Y Y Y in_32 ((bcells_length _).trans (vlen (Vector.replicate 32 (0 : UInt8)))) (nl ((bcells_length _).trans (vlen (Vector.replicate 32 (0 : UInt8))))) (Upd.refl (((bcells_length _).trans (vlen (Vector.replicate 32 (0 : UInt8)))).trans ((bcells_length _).trans (vlen (Vector.replicate 32 (0 : UInt8)))).symm))) ?_
  refine rp Y Y (p_asg Y Y) ?_
  refine rz [(4, .q 4 (0)), (5, .i r'1)] [(4, .pure (bcells ((Vector.replicate 32 (0 : UInt8)).toList)))] Y Y Y ?_
  refine AW2_ret ?_
  have hz := some_elim H
  subst hz
  exact ⟨⟨res_cella Try.underlying32 Y in_32.sz Y (Sub.le (Sub.refl _) ((bcells_length _).trans (vlen (Vector.replicate 32 (0 : UInt8))))) (by decide) (Sub.take (Sub.refl _) ((bcells_length _).trans (vlen (Vector.replicate 32 (0 : UInt8))))), res_tmp (.same _), trivial⟩, trivial⟩
 ·replace H := ite_else h2 H
  refine as2 [(1, .i i1), (2, .q 2 (0)), (4, .q 4 (0))] [(2, .pure (GDisk.cs d0)), (4, .pure (bcells ((Vector.replicate 32 (0 : UInt8)).toList)))] Y Y Y ?_
  refine AW2_skip ?_
  refine AW2_seq ?_
  refine sg [0, 1, 2, 3, 4] Y ?_
  refine rp Y Y (u_fa Y Y Try.underlying25 Y in_23 nz Y Y (nl (GDisk.len d0))) ?_
  refine rp Y Y (u_ld Y Y Try.underlying23 Y Y ((Sub.refl _).trans (GDisk.sub1 d0))) ?_
  refine rp Y Y (p_lenl Y Try.underlying23 Y Y) ?_
  refine rp Y Y (p_bin Y Y Y Y) ?_
  refine rp Y Y (p_asg Y Y) ?_
  refine rz [(1, .i i1), (2, .q 2 (0)), (4, .q 4 (0)), (7, .i (w64 ((d0.Writes.length : Int) - (1 : Int))))] [(2, .pure (GDisk.cs d0)), (4, .pure (bcells ((Vector.replicate 32 (0 : UInt8)).toList)))] Y Y Y ?_
  refine AW2_block ?_
  refine as2 [(1, .i i1), (2, .q 2 (0)), (4, .q 4 (0)), (7, .i (w64 ((d0.Writes.length : Int) - (1 : Int))))] [(2, .pure (GDisk.cs d0)), (4, .pure (bcells ((Vector.replicate 32 (0 : UInt8)).toList)))] Y Y Y ?_
  refine bindK H fun o'5 h7 H => ?_
  refine AW2_loopO (fun a'2 : Int => (⟨[(1, .i i1), (2, .q 2 (0)), (4, .q 4 (0)), (7, .i a'2)], [(2, .pure (GDisk.cs d0)), (4, .pure (bcells ((Vector.replicate 32 (0 : UInt8)).toList)))], 42⟩ : TS)) (fun (o : ((Vector UInt8 32) × Int) ⊕ Unit) e s' => match o with | .inl y'3 => e = Go.Exit.ret ∧ ResAll Try.prog s' [ResultVar.cell 4 32, ResultVar.tmp 5] [.g (bcells y'3.1.toList), .i y'3.2] ∧ HFits s' [] | .inr (y'4) => e = Go.Exit.exit 0 ∧ s' = (⟨[(1, .i i1), (2, .q 2 (0)), (4, .q 4 (0))], [(2, .pure (GDisk.cs d0)), (4, .pure (bcells ((Vector.replicate 32 (0 : UInt8)).toList)))], 42⟩ : TS)) h7 Y (fun k7_0 x hx => ?_) (fun e s' hs => ?_)
  ·clear H
   have H := hx
   clear hx
   unfold g_ref_SectorOf_l0 at H
   refine AW2_seq ?_
   refine sg [0, 1] Y ?_
   refine rp Y Y (p_move Y Y) ?_
   refine rp Y Y (p_bin Y Y Y Y) ?_
   refine rz [(1, .i i1), (2, .q 2 (0)), (4, .q 4 (0)), (7, .i k7_0), (20, .b (decide (k7_0 ≥ (0 : Int))))] [(2, .pure (GDisk.cs d0)), (4, .pure (bcells ((Vector.replicate 32 (0 : UInt8)).toList)))] Y Y Y ?_
   refine AW2_if (p := k7_0 ≥ (0 : Int)) Y (fun h3 => ?_) (fun h3 => ?_)
   ·replace H := ite_then h3 H
    refine as2 [(1, .i i1), (2, .q 2 (0)), (4, .q 4 (0)), (7, .i k7_0)] [(2, .pure (GDisk.cs d0)), (4, .pure (bcells ((Vector.replicate 32 (0 : UInt8)).toList)))] Y Y Y ?_
    refine AW2_skip ?_
    refine AW2_seq ?_
    refine AW2_block ?_
    refine sg [0, 1, 2, 3, 4, 5, 6, 7] Y ?_
    refine rp Y Y (u_fa Y Y Try.underlying25 Y in_23 nz Y Y (nl (GDisk.len d0))) ?_
    refine rp Y Y (u_ld Y Y Try.underlying23 Y Y ((Sub.refl _).trans (GDisk.sub1 d0))) ?_
    refine rp Y Y (p_move Y Y) ?_
    refine chkK H fun h4 H => ?_
    refine rp Y Y (u_ixl Y Y Try.underlying23 in_70 Y Y (ixe h4) (ixn h4) (fne (fun x => (GPut.len x)) (by decide) (ixn h4))) ?_
    refine rp Y Y (u_far Y Y Try.underlying70 Y in_3 nz Y) ?_
    refine rp Y Y (u_ld Y Y Try.underlying3 Y Y ((Sub.fm default (fun x => (GPut.len x)) (ixn h4)).trans (GPut.sub0 (lrd d0.Writes k7_0.toNat)))) ?_
    refine rp Y Y (p_move Y Y) ?_
    refine rp Y Y (p_ieq Y Y Y) ?_
    refine rz [(1, .i i1), (2, .q 2 (0)), (4, .q 4 (0)), (7, .i k7_0), (30, .b (decide ((lrd d0.Writes k7_0.toNat).At = i1)))] [(2, .pure (GDisk.cs d0)), (4, .pure (bcells ((Vector.replicate 32 (0 : UInt8)).toList)))] Y Y Y ?_
    refine AW2_if (p := (lrd d0.Writes k7_0.toNat).At = i1) Y (fun h5 => ?_) (fun h5 => ?_)
    ·replace H := ite_then h5 H
     refine sg [0, 1, 2, 3, 4, 5, 6, 7] Y ?_
     refine rp Y Y (u_fa Y Y Try.underlying25 Y in_23 nz Y Y (nl (GDisk.len d0))) ?_
     refine rp Y Y (u_ld Y Y Try.underlying23 Y Y ((Sub.refl _).trans (GDisk.sub1 d0))) ?_
     refine rp Y Y (p_move Y Y) ?_
     refine chkK H fun h6 H => ?_
     refine rp Y Y (u_ixl Y Y Try.underlying23 in_70 Y Y (ixe h6) (ixn h6) (fne (fun x => (GPut.len x)) (by decide) (ixn h6))) ?_
     refine rp Y Y (u_far Y Y Try.underlying70 Y in_32 nz Y) ?_
     refine rp Y Y (u_lda Y Y Try.underlying32 Y in_32 Y (Nat.succ_pos _) ((Sub.fm default (fun x => (GPut.len x)) (ixn h6)).trans (GPut.sub1 (lrd d0.Writes k7_0.toNat))) ((bcells_length _).trans (vlen ((lrd d0.Writes k7_0.toNat).Data)))) ?_
     refine r_op Y Y (u_st Y Y Y Y Y in_32 ((bcells_length _).trans (vlen ((lrd d0.Writes k7_0.toNat).Data))) (nl ((bcells_length _).trans (vlen (Vector.replicate 32 (0 : UInt8))))) (Upd.refl (((bcells_length _).trans (vlen ((lrd d0.Writes k7_0.toNat).Data))).trans ((bcells_length _).trans (vlen (Vector.replicate 32 (0 : UInt8)))).symm))) ?_
     refine rp Y Y (p_asg Y Y) ?_
     refine rz [(4, .q 4 (0)), (5, .i (0 : Int))] [(4, .pure (bcells (((lrd d0.Writes k7_0.toNat).Data).toList)))] Y Y Y ?_
     refine AW2_ret ?_
     have hz := some_elim H
     subst hz
     exact ⟨Y, ⟨res_cella Try.underlying32 Y in_32.sz Y (Sub.le (Sub.refl _) ((bcells_length _).trans (vlen ((lrd d0.Writes k7_0.toNat).Data)))) (by decide) (Sub.take (Sub.refl _) ((bcells_length _).trans (vlen ((lrd d0.Writes k7_0.toNat).Data)))), res_tmp (.same _), trivial⟩, trivial⟩
    ·replace H := ite_else h5 H
     refine as2 [(1, .i i1), (2, .q 2 (0)), (4, .q 4 (0)), (7, .i k7_0)] [(2, .pure (GDisk.cs d0)), (4, .pure (bcells ((Vector.replicate 32 (0 : UInt8)).toList)))] Y Y Y ?_
     refine AW2_skip ?_
     refine AW2_reg [0, 1, 2] Y ?_
     refine rp Y Y (p_move Y Y) ?_
     refine rp Y Y (p_bin Y Y Y Y) ?_
     refine rp Y Y (p_asg Y Y) ?_
     refine rz [(1, .i i1), (2, .q 2 (0)), (4, .q 4 (0)), (7, .i (w64 (k7_0 - (1 : Int))))] [(2, .pure (GDisk.cs d0)), (4, .pure (bcells ((Vector.replicate 32 (0 : UInt8)).toList)))] Y Y Y ?_
     have hz := some_elim H
     subst hz
     exact ⟨Y, Y⟩
   ·replace H := ite_else h3 H
    refine as2 [(1, .i i1), (2, .q 2 (0)), (4, .q 4 (0))] [(2, .pure (GDisk.cs d0)), (4, .pure (bcells ((Vector.replicate 32 (0 : UInt8)).toList)))] Y Y Y ?_
    refine AW2_exit ?_
    refine thenQ2_exit ?_
    have hz := some_elim H
    subst hz
    exact ⟨Y, Y⟩
  ·rcases o'5 with y'6 | y'7
   ·obtain ⟨rfl, hs⟩ := hs
    refine ⟨by simp, ?_⟩
    have hz := some_elim H
    subst hz
    exact ⟨hs.1, hs.2⟩
   ·obtain ⟨rfl, rfl⟩ := hs
    refine ⟨by simp, ?_⟩
    refine blockQ2_exit ?_
    refine sg [0, 1, 2, 3, 4, 5, 6] Y ?_
    refine rp Y Y (u_fa Y Y Try.underlying25 Y in_22 nz Y Y (nl (GDisk.len d0))) ?_
    refine rp Y Y (u_ld Y Y Try.underlying22 Y Y ((Sub.refl _).trans (GDisk.sub0 d0))) ?_
    refine rp Y Y (p_move Y Y) ?_
    refine chkK H fun h8 H => ?_
    refine rp Y Y (u_ixl Y Y Try.underlying22 in_32 Y Y (ixe h8) (ixn h8) (fne (fun x => ((bcells_length _).trans (vlen x))) (by decide) (ixn h8))) ?_
    refine rp Y Y (u_lda Y Y Try.underlying32 Y in_32 Y (Nat.succ_pos _) (Sub.fm default (fun x => ((bcells_length _).trans (vlen x))) (ixn h8)) ((bcells_length _).trans (vlen (lrd d0.Lasts i1.toNat)))) ?_
    refine r_op Y Y (u_st Y Y Y Y Y in_32 ((bcells_length _).trans (vlen (lrd d0.Lasts i1.toNat))) (nl ((bcells_length _).trans (vlen (Vector.replicate 32 (0 : UInt8))))) (Upd.refl (((bcells_length _).trans (vlen (lrd d0.Lasts i1.toNat))).trans ((bcells_length _).trans (vlen (Vector.replicate 32 (0 : UInt8)))).symm))) ?_
    refine rp Y Y (p_asg Y Y) ?_
    refine rz [(4, .q 4 (0)), (5, .i (0 : Int))] [(4, .pure (bcells ((lrd d0.Lasts i1.toNat).toList)))] Y Y Y ?_
    refine AW2_ret ?_
    have hz := some_elim H
    subst hz
    exact ⟨⟨res_cella Try.underlying32 Y in_32.sz Y (Sub.le (Sub.refl _) ((bcells_length _).trans (vlen (lrd d0.Lasts i1.toNat)))) (by decide) (Sub.take (Sub.refl _) ((bcells_length _).trans (vlen (lrd d0.Lasts i1.toNat)))), res_tmp (.same _), trivial⟩, trivial⟩

/-! chirographref.number -/
noncomputable def g_ref_number_l0 (s0 : List UInt8) : UInt64 × Int → Option ((UInt64 × Int) ⊕ (UInt64))
  | (n3_0, i4_0) => (if i4_0 < (s0.length : Int) then if 0 ≤ i4_0 ∧ i4_0 < (s0.length : Int) then some (.inl ((n3_0 * (256 : UInt64)) + ((lrd s0 i4_0.toNat).toUInt64), w64 (i4_0 + (1 : Int)))) else none else some (.inr n3_0))
noncomputable def g_ref_number (s0 : List UInt8) : Option (UInt64) :=
  (loopO (g_ref_number_l0 s0) ((0 : UInt64), (0 : Int))).bind fun y'4 => some y'4
set_option maxHeartbeats 4000000 in
set_option maxRecDepth 100000 in
theorem g_ref_number_ac {s0 : List UInt8} {r : UInt64} (H : g_ref_number s0 = some r) : ACp Try.prog 38 [(AV.txt s0)] (AV.u64 r) := by
 refine ACp_of (AC2_of_body (vs := [.p (AV.u64 r)]) Try.func38 Y Y (Nat.le_of_ble_eq_true Y) Y ?_) (fun _ => .same _)
 unfold g_ref_number at H
 refine as2 [(0, .t s0)] [] Y Y Y ?_
 refine sg [0] Y ?_
 refine rp Y Y (p_asg Y Y) ?_
 refine rz [(0, .t s0)] [] Y Y Y ?_
 refine sg [0] Y ?_
 refine rp Y Y (p_asg Y Y) ?_
 refine rz [(0, .t s0), (3, .p (AV.u64 (0 : UInt64)))] [] Y Y Y ?_
 refine AW2_seq ?_
 refine sg [0] Y ?_
 refine rp Y Y (p_asg Y Y) ?_
 refine rz [(0, .t s0), (3, .p (AV.u64 (0 : UInt64))), (4, .i (0 : Int))] [] Y Y Y ?_
 refine AW2_block ?_
 refine as2 [(0, .t s0), (3, .p (AV.u64 (0 : UInt64))), (4, .i (0 : Int))] [] Y Y Y ?_
 refine bindK H fun y'4 h3 H => ?_
 refine AW2_loopO (fun a'1 : UInt64 × Int => (⟨[(0, .t s0), (3, .p (AV.u64 a'1.1)), (4, .i a'1.2)], [], 19⟩ : TS)) (fun (y'2 : UInt64) e s' => e = Go.Exit.exit 0 ∧ s' = (⟨[(3, .p (AV.u64 y'2))], [], 19⟩ : TS)) h3 Y (fun a x hx => ?_) (fun e s' hs => ?_)
 ·clear H
  obtain ⟨n3_0, i4_0⟩ := a
  have H := hx
  clear hx
  unfold g_ref_number_l0 at H
  refine AW2_seq ?_
  refine sg [0, 1, 2, 3] Y ?_
  refine rp Y Y (p_move Y Y) ?_
  refine rp Y Y (p_move Y Y) ?_
  refine rp Y Y (p_lent Y Try.underlying9 Y) ?_
  refine rp Y Y (p_bin Y Y Y Y) ?_
  refine rz [(0, .t s0), (3, .p (AV.u64 n3_0)), (4, .i i4_0), (8, .b (decide (i4_0 < (s0.length : Int))))] [] Y Y Y ?_
  refine AW2_if (p := i4_0 < (s0.length : Int)) Y (fun h1 => ?_) (fun h1 => ?_)
  ·replace H := ite_then h1 H
   refine as2 [(0, .t s0), (3, .p (AV.u64 n3_0)), (4, .i i4_0)] [] Y Y Y ?_
   refine AW2_skip ?_
   refine AW2_seq ?_
   refine AW2_block ?_
   refine AW2_reg [0, 1, 2, 3, 4, 5, 6, 7] Y ?_
   refine rp Y Y (p_move Y Y) ?_
   refine rp Y Y (p_u64mul (a := n3_0) (b := (256 : UInt64)) Y Y Y) ?_
   refine rp Y Y (p_move Y Y) ?_
   refine rp Y Y (p_move Y Y) ?_
   refine chkK H fun h2 H => ?_
   refine rp Y Y (p_ixt Y Try.underlying9 Y Y (ixe h2) (lrd_get (ixn h2))) ?_
   refine rp Y Y (p_u8_u64 (a := (lrd s0 i4_0.toNat)) Y Try.underlying5 Try.underlying82 Y) ?_
   refine rp Y Y (p_u64add (a := n3_0 * (256 : UInt64)) (b := (lrd s0 i4_0.toNat).toUInt64) Y Y Y) ?_
   refine rp Y Y (p_asg Y Y) ?_
   refine rz [(0, .t s0), (3, .p (AV.u64 ((n3_0 * (256 : UInt64)) + ((lrd s0 i4_0.toNat).toUInt64)))), (4, .i i4_0)] [] Y Y Y ?_
   refine AW2_reg [0, 1, 2] Y ?_
   refine rp Y Y (p_move Y Y) ?_
   refine rp Y Y (p_bin Y Y Y Y) ?_
   refine rp Y Y (p_asg Y Y) ?_
   refine rz [(0, .t s0), (3, .p (AV.u64 ((n3_0 * (256 : UInt64)) + ((lrd s0 i4_0.toNat).toUInt64)))), (4, .i (w64 (i4_0 + (1 : Int))))] [] Y Y Y ?_
   have hz := some_elim H
   subst hz
   exact ⟨Y, Y⟩
  ·replace H := ite_else h1 H
   refine as2 [(3, .p (AV.u64 n3_0))] [] Y Y Y ?_
   refine AW2_exit ?_
   refine thenQ2_exit ?_
   have hz := some_elim H
   subst hz
   exact ⟨Y, Y⟩
 ·obtain ⟨rfl, rfl⟩ := hs
  refine ⟨by simp, ?_⟩
  refine blockQ2_exit ?_
  refine sg [0, 1] Y ?_
  refine rp Y Y (p_move Y Y) ?_
  refine rp Y Y (p_asg Y Y) ?_
  refine rz [(2, .p (AV.u64 y'4))] [] Y Y Y ?_
  refine AW2_ret ?_
  have hz := some_elim H
  subst hz
  exact ⟨⟨res_tmp (.same _), trivial⟩, trivial⟩

/-! chirographref.tapeText -/
def g_ref_tapeText_r11 : List (List (Nat × Option Nat)) := [[(5, none)], [(35, some 0)], [(5, none)], [(37, some 2)], [(36, some 1)]]
def g_ref_tapeText_r11c : List (List Nat) := [[], [0], [], [2], [0, 1], [0, 1, 2, 3, 4]]
noncomputable def g_ref_tapeText_l0 (d0 : GDisk) : (List UInt8) × Int → Option (((List UInt8) × Int) ⊕ (((List UInt8))))
  | (all5_0, t21_0) => (if t21_0 < (d0.Lasts.length : Int) then (g_ref_SectorOf d0 t21_0).bind fun r'2 => if all5_0.length + r'2.1.toList.length ≤ 9223372036854775807 then some (.inl (all5_0 ++ r'2.1.toList, w64 (t21_0 + (1 : Int)))) else none else some (.inr all5_0))
noncomputable def g_ref_tapeText_l1 (y'6 : (List UInt8)) : Int → Option (Int ⊕ (((List UInt8) × Int) ⊕ Unit))
  | i12_1 => (if i12_1 < (32 : Int) then if 0 ≤ i12_1 ∧ i12_1 < ((cut y'6 (0 : Int) (32 : Int)).length : Int) then (if (lrd (cut y'6 (0 : Int) (32 : Int)) i12_1.toNat) ≠ (0 : UInt8) then some (.inr (.inl ([], (11 : Int)))) else some (.inl (w64 (i12_1 + (1 : Int))))) else none else some (.inr (.inr ())))
noncomputable def g_ref_tapeText (d0 : GDisk) : Option ((List UInt8) × Int) :=
  (g_ref_DiskFault d0).bind fun r'1 => (if r'1 ≠ (0 : Int) then some ([], r'1) else (loopO (g_ref_tapeText_l0 d0) ([], (0 : Int))).bind fun y'6 => if 0 ≤ (32 : Int) ∧ (32 : Int) ≤ (y'6.length : Int) then if 0 ≤ (32 : Int) ∧ (32 : Int) ≤ (y'6.length : Int) then if 0 ≤ (8 : Int) ∧ (8 : Int) ≤ ((cut y'6 (0 : Int) (32 : Int)).length : Int) then (g_ref_number (cut (cut y'6 (0 : Int) (32 : Int)) (0 : Int) (8 : Int))).bind fun r'7 => (if UInt64.ofInt ((cut y'6 (32 : Int) (y'6.length : Int)).length : Int) < r'7 then some ([], (11 : Int)) else (loopO (g_ref_tapeText_l1 y'6) (8 : Int)).bind fun o'11 => match o'11 with | .inl y'12 => some y'12 | .inr (y'13) => if 0 ≤ (r'7.toNat : Int) ∧ (r'7.toNat : Int) ≤ ((cut y'6 (32 : Int) (y'6.length : Int)).length : Int) then letO ((cut (cut y'6 (32 : Int) (y'6.length : Int)) (0 : Int) (r'7.toNat : Int))) fun t2'14 => some (t2'14, (0 : Int)) else none) else none else none else none)
set_option maxHeartbeats 4000000 in
set_option maxRecDepth 100000 in
theorem g_ref_tapeText_ac {d0 : GDisk} {r : (List UInt8) × Int} (H : g_ref_tapeText d0 = some r) : ACp Try.prog 37 [(.agg (GDisk.cs d0))] (.tup [(AV.txt r.1), (AV.int r.2)]) := by
 refine ACp_of (AC2_of_body (vs := [.t r.1, .i r.2]) Try.func37 Y Y (Nat.le_of_ble_eq_true Y) Y ?_) (fun _ => .same _)
 unfold g_ref_tapeText at H
 refine as2 [(0, .g (GDisk.cs d0))] [] Y Y Y ?_
 refine sg [0, 1, 2] Y ?_
 refine r_op Y Y (MakeD.opD (n_box 1 Y Y) Y Y Y Y) ?_
 refine rp Y Y (p_asg Y Y) ?_
 refine rp Y Y (p_asg Y Y) ?_
 refine rz [(1, .q 1 (0))] [(1, .pure (GDisk.cs d0))] Y Y Y ?_
 refine AW2_seq ?_
 refine sg [0, 1, 2] Y ?_
 refine rp Y Y (u_lda Y Y Try.underlying25 Y in_25 Y (Nat.succ_pos _) (Sub.refl _) (GDisk.len d0)) ?_
 refine bindK H fun r'1 h1 H => ?_
 refine rp Y Y (p_callp Y Y Y Try.func12 Y Y (g_ref_DiskFault_ac h1) ⟨Y, trivial⟩) ?_
 refine rp Y Y (p_asg Y Y) ?_
 refine rz [(1, .q 1 (0)), (4, .i r'1)] [(1, .pure (GDisk.cs d0))] Y Y Y ?_
 refine sg [0, 1] Y ?_
 refine rp Y Y (p_move Y Y) ?_
 refine rp Y Y (p_ine Y Y Y) ?_
 refine rz [(1, .q 1 (0)), (4, .i r'1), (16, .b (decide (r'1 ≠ (0 : Int))))] [(1, .pure (GDisk.cs d0))] Y Y Y ?_
 refine AW2_if (p := r'1 ≠ (0 : Int)) Y (fun h2 => ?_) (fun h2 => ?_)
 ·replace H := ite_then h2 H
  refine sg [0, 1, 2] Y ?_
  refine rp Y Y (p_move Y Y) ?_
  refine rp Y Y (p_asg Y Y) ?_
  refine rp Y Y (p_asg Y Y) ?_
  refine rz [(2, .t []), (3, .i r'1)] [] Y Y Y ?_
  refine AW2_ret ?_
  have hz := some_elim H
  subst hz
  exact ⟨⟨res_tmp (.same _), res_tmp (.same _), trivial⟩, trivial⟩
 ·replace H := ite_else h2 H
  refine as2 [(1, .q 1 (0))] [(1, .pure (GDisk.cs d0))] Y Y Y ?_
  refine AW2_skip ?_
  refine sg [0] Y ?_
  refine rp Y Y (p_asg Y Y) ?_
  refine rz [(1, .q 1 (0)), (5, .t [])] [(1, .pure (GDisk.cs d0))] Y Y Y ?_
  refine AW2_seq ?_
  refine sg [0, 1, 2, 3] Y ?_
  refine rp Y Y (u_fa Y Y Try.underlying25 Y in_22 nz Y Y (nl (GDisk.len d0))) ?_
  refine rp Y Y (u_ld Y Y Try.underlying22 Y Y ((Sub.refl _).trans (GDisk.sub0 d0))) ?_
  refine rp Y Y (p_lenl Y Try.underlying22 Y Y) ?_
  refine rp Y Y (p_move Y Y) ?_
  refine rz [(1, .q 1 (0)), (5, .t []), (20, .i (d0.Lasts.length : Int)), (21, .i (0 : Int))] [(1, .pure (GDisk.cs d0))] Y Y Y ?_
  refine AW2_block ?_
  refine as2 [(1, .q 1 (0)), (5, .t []), (20, .i (d0.Lasts.length : Int)), (21, .i (0 : Int))] [(1, .pure (GDisk.cs d0))] Y Y Y ?_
  refine bindK H fun y'6 h6 H => ?_
  refine AW2_loopO (fun a'3 : (List UInt8) × Int => (⟨[(1, .q 1 (0)), (5, .t a'3.1), (20, .i (d0.Lasts.length : Int)), (21, .i a'3.2)], [(1, .pure (GDisk.cs d0))], 58⟩ : TS)) (fun (y'4 : ((List UInt8))) e s' => e = Go.Exit.exit 0 ∧ s' = (⟨[(5, .t y'4)], [], 58⟩ : TS)) h6 Y (fun a x hx => ?_) (fun e s' hs => ?_)
  ·clear H
   obtain ⟨all5_0, t21_0⟩ := a
   have H := hx
   clear hx
   unfold g_ref_tapeText_l0 at H
   refine sg [0] Y ?_
   refine rp Y Y (p_bin Y Y Y Y) ?_
   refine rz [(1, .q 1 (0)), (5, .t all5_0), (20, .i (d0.Lasts.length : Int)), (21, .i t21_0), (22, .b (decide (t21_0 < (d0.Lasts.length : Int))))] [(1, .pure (GDisk.cs d0))] Y Y Y ?_
   refine AW2_seq ?_
   refine AW2_if (p := t21_0 < (d0.Lasts.length : Int)) Y (fun h3 => ?_) (fun h3 => ?_)
   ·replace H := ite_then h3 H
    refine as2 [(1, .q 1 (0)), (5, .t all5_0), (20, .i (d0.Lasts.length : Int)), (21, .i t21_0)] [(1, .pure (GDisk.cs d0))] Y Y Y ?_
    refine AW2_skip ?_
    refine AW2_seq ?_
    refine AW2_block ?_
    refine sg [0, 1] Y ?_
    refine rp Y Y (p_move Y Y) ?_
    refine rp Y Y (p_asg Y Y) ?_
    refine rz [(1, .q 1 (0)), (5, .t all5_0), (6, .i t21_0), (20, .i (d0.Lasts.length : Int)), (21, .i t21_0)] [(1, .pure (GDisk.cs d0))] Y Y Y ?_
    refine sg [0, 1, 2, 3, 4, 5, 6, 7, 8] Y ?_
    refine rp Y Y (u_lda Y Y Try.underlying25 Y in_25 Y (Nat.succ_pos _) (Sub.refl _) (GDisk.len d0)) ?_
    refine rp Y Y (p_move Y Y) ?_
    refine bindK H fun r'2 h4 H => ?_
    refine rp Y Y (p_callp Y Y Y Try.func15 Y Y (g_ref_SectorOf_ac h4) ⟨Y, Y, trivial⟩) ?_
    refine rp Y Y (p_move Y Y) ?_
    refine rp Y Y (p_ext Y Y Y Y) ?_
    refine rp Y Y (p_ext Y Y Y Y) ?_
    refine r_op Y Y (MakeD.opD (u_alloc 7 Y in_32 one_32 zc_32) Y Y Y Y) ?_
    refine r_op Y Y (u_st Y Y Y Y Y in_32 ((bcells_length _).trans (vlen r'2.1)) (nl ((bcells_length _).trans (vlen (Vector.replicate 32 (0 : UInt8))))) (Upd.refl (((bcells_length _).trans (vlen r'2.1)).trans ((bcells_length _).trans (vlen (Vector.replicate 32 (0 : UInt8)))).symm))) ?_
    refine rp Y Y (p_asg Y Y) ?_
    refine rz [(1, .q 1 (0)), (5, .t all5_0), (7, .q 7 (0)), (20, .i (d0.Lasts.length : Int)), (21, .i t21_0)] [(1, .pure (GDisk.cs d0)), (7, .pure (bcells r'2.1.toList))] Y Y Y ?_
    refine AW2_reg [0, 1, 2, 3, 4] Y ?_
    refine rp Y Y (p_move Y Y) ?_
    refine rp Y Y (u_cuta Y Y Try.underlying32 in_5 Y Y (nl ((bcells_length _).trans (vlen r'2.1))) (Sub.refl _) (((bcells_length _).trans (vlen r'2.1)).trans (by decide))) ?_
    refine rp Y Y (u_cbl Y Y Try.underlying45 Try.underlying5 Try.underlying9 (bs := r'2.1.toList) (vlen _) Y Y (nl ((bcells_length _).trans (vlen r'2.1))) (Sub.refl _)) ?_
    refine chkK H fun h5 H => ?_
    refine rp Y Y (p_cat Y Y Y h5) ?_
    refine rp Y Y (p_asg Y Y) ?_
    refine rz [(1, .q 1 (0)), (5, .t (all5_0 ++ r'2.1.toList)), (20, .i (d0.Lasts.length : Int)), (21, .i t21_0)] [(1, .pure (GDisk.cs d0))] Y Y Y ?_
    refine AW2_reg [0, 1] Y ?_
    refine rp Y Y (p_bin Y Y Y Y) ?_
    refine rp Y Y (p_move Y Y) ?_
    refine rz [(1, .q 1 (0)), (5, .t (all5_0 ++ r'2.1.toList)), (20, .i (d0.Lasts.length : Int)), (21, .i (w64 (t21_0 + (1 : Int))))] [(1, .pure (GDisk.cs d0))] Y Y Y ?_
    have hz := some_elim H
    subst hz
    exact ⟨Y, Y⟩
   ·replace H := ite_else h3 H
    refine as2 [(5, .t all5_0)] [] Y Y Y ?_
    refine AW2_exit ?_
    refine thenQ2_exit ?_
    have hz := some_elim H
    subst hz
    exact ⟨Y, Y⟩
  ·obtain ⟨rfl, rfl⟩ := hs
   refine ⟨by simp, ?_⟩
   refine blockQ2_exit ?_
   refine AW2_seq ?_
   refine chkK H fun h7 H => ?_
   refine chkK H fun h8 H => ?_
   refine AW2_ghoQ ?_
   refine AW2_draw 5 [5] (fun k => ([.t y'6, .t (cut y'6 (0 : Int) (32 : Int)), .t y'6, .t (cut y'6 (32 : Int) (y'6.length : Int)), .t (cut y'6 (0 : Int) (32 : Int))] : List TV).getD k TV.any) (fun k => g_ref_tapeText_r11.getD k []) [(9, some 4), (38, some 3)] [] (fun k => g_ref_tapeText_r11c.getD k []) mixed (by kernel_rfl) Y Y (a_op (g_x Y (x_p Y (p_move Y Y) Y)) (a_op (g_x Y (x_p Y (u_cutt (a := (0 : Int)) (b := (32 : Int)) Y Try.underlying9 Y bT_zero (bT_i (Int.le_trans (show 0 ≤ (0 : Int) ∧ (0 : Int) ≤ (32 : Int) ∧ (32 : Int) ≤ (y'6.length : Int) from ⟨Int.le_refl _, h7.1, h7.2⟩).1 (show 0 ≤ (0 : Int) ∧ (0 : Int) ≤ (32 : Int) ∧ (32 : Int) ≤ (y'6.length : Int) from ⟨Int.le_refl _, h7.1, h7.2⟩).2.1) Y) (show 0 ≤ (0 : Int) ∧ (0 : Int) ≤ (32 : Int) ∧ (32 : Int) ≤ (y'6.length : Int) from ⟨Int.le_refl _, h7.1, h7.2⟩)) Y)) (a_op (g_x Y (x_p Y (p_move Y Y) Y)) (a_op (g_x Y (x_p Y (u_cutt (a := (32 : Int)) (b := (y'6.length : Int)) Y Try.underlying9 Y (bT_i (show 0 ≤ (32 : Int) ∧ (32 : Int) ≤ (y'6.length : Int) ∧ (y'6.length : Int) ≤ (y'6.length : Int) from ⟨h8.1, h8.2, Int.le_refl _⟩).1 Y) (bT_len _) (show 0 ≤ (32 : Int) ∧ (32 : Int) ≤ (y'6.length : Int) ∧ (y'6.length : Int) ≤ (y'6.length : Int) from ⟨h8.1, h8.2, Int.le_refl _⟩)) Y)) (a_op (g_x Y (x_p Y (p_asg Y Y) Y)) (a_nil)))))) ?_
   refine t_op Y Y (PureD.opD (p_asg Y Y)) ?_
   refine t_gho (Gho_st (L := [(9, .t (cut y'6 (0 : Int) (32 : Int))), (10, .t (cut y'6 (32 : Int) (y'6.length : Int)))]) (H := []) (N := 58) Y ⟨TLes.same _, TLes.same _, trivial⟩ trivial) ?_
   refine sg [0, 1, 2, 3] Y ?_
   refine rp Y Y (p_move Y Y) ?_
   refine chkK H fun h9 H => ?_
   refine rp Y Y (u_cutt (a := (0 : Int)) (b := (8 : Int)) Y Try.underlying9 Y bT_zero (bT_i (Int.le_trans (show 0 ≤ (0 : Int) ∧ (0 : Int) ≤ (8 : Int) ∧ (8 : Int) ≤ ((cut y'6 (0 : Int) (32 : Int)).length : Int) from ⟨Int.le_refl _, h9.1, h9.2⟩).1 (show 0 ≤ (0 : Int) ∧ (0 : Int) ≤ (8 : Int) ∧ (8 : Int) ≤ ((cut y'6 (0 : Int) (32 : Int)).length : Int) from ⟨Int.le_refl _, h9.1, h9.2⟩).2.1) Y) (show 0 ≤ (0 : Int) ∧ (0 : Int) ≤ (8 : Int) ∧ (8 : Int) ≤ ((cut y'6 (0 : Int) (32 : Int)).length : Int) from ⟨Int.le_refl _, h9.1, h9.2⟩)) ?_
   refine bindK H fun r'7 h10 H => ?_
   refine rp Y Y (p_callp Y Y Y Try.func38 Y Y (g_ref_number_ac h10) ⟨Y, trivial⟩) ?_
   refine rp Y Y (p_asg Y Y) ?_
   refine rz [(9, .t (cut y'6 (0 : Int) (32 : Int))), (10, .t (cut y'6 (32 : Int) (y'6.length : Int))), (11, .p (AV.u64 r'7))] [] Y Y Y ?_
   refine AW2_seq ?_
   refine sg [0, 1, 2, 3, 4] Y ?_
   refine rp Y Y (p_move Y Y) ?_
   refine rp Y Y (p_move Y Y) ?_
   refine rp Y Y (p_lent Y Try.underlying9 Y) ?_
   refine rp Y Y (p_i_u64 Y Try.underlying3 Try.underlying82 Y) ?_
   refine rp Y Y (p_u64gt (a := r'7) (b := UInt64.ofInt ((cut y'6 (32 : Int) (y'6.length : Int)).length : Int)) Y Y Y) ?_
   refine rz [(9, .t (cut y'6 (0 : Int) (32 : Int))), (10, .t (cut y'6 (32 : Int) (y'6.length : Int))), (11, .p (AV.u64 r'7)), (46, .b (decide (UInt64.ofInt ((cut y'6 (32 : Int) (y'6.length : Int)).length : Int) < r'7)))] [] Y Y Y ?_
   refine AW2_if (p := UInt64.ofInt ((cut y'6 (32 : Int) (y'6.length : Int)).length : Int) < r'7) Y (fun h11 => ?_) (fun h11 => ?_)
   ·replace H := ite_then h11 H
    refine sg [0, 1] Y ?_
    refine rp Y Y (p_asg Y Y) ?_
    refine rp Y Y (p_asg Y Y) ?_
    refine rz [(2, .t []), (3, .i (11 : Int))] [] Y Y Y ?_
    refine AW2_ret ?_
    have hz := some_elim H
    subst hz
    exact ⟨⟨res_tmp (.same _), res_tmp (.same _), trivial⟩, trivial⟩
   ·replace H := ite_else h11 H
    refine as2 [(9, .t (cut y'6 (0 : Int) (32 : Int))), (10, .t (cut y'6 (32 : Int) (y'6.length : Int))), (11, .p (AV.u64 r'7))] [] Y Y Y ?_
    refine AW2_skip ?_
    refine AW2_seq ?_
    refine sg [0] Y ?_
    refine rp Y Y (p_asg Y Y) ?_
    refine rz [(9, .t (cut y'6 (0 : Int) (32 : Int))), (10, .t (cut y'6 (32 : Int) (y'6.length : Int))), (11, .p (AV.u64 r'7)), (12, .i (8 : Int))] [] Y Y Y ?_
    refine AW2_block ?_
    refine as2 [(9, .t (cut y'6 (0 : Int) (32 : Int))), (10, .t (cut y'6 (32 : Int) (y'6.length : Int))), (11, .p (AV.u64 r'7)), (12, .i (8 : Int))] [] Y Y Y ?_
    refine bindK H fun o'11 h15 H => ?_
    refine AW2_loopO (fun a'8 : Int => (⟨[(9, .t (cut y'6 (0 : Int) (32 : Int))), (10, .t (cut y'6 (32 : Int) (y'6.length : Int))), (11, .p (AV.u64 r'7)), (12, .i a'8)], [], 58⟩ : TS)) (fun (o : ((List UInt8) × Int) ⊕ Unit) e s' => match o with | .inl y'9 => e = Go.Exit.ret ∧ ResAll Try.prog s' [ResultVar.tmp 2, ResultVar.tmp 3] [.t y'9.1, .i y'9.2] ∧ HFits s' [] | .inr (y'10) => e = Go.Exit.exit 2 ∧ s' = (⟨[(10, .t (cut y'6 (32 : Int) (y'6.length : Int))), (11, .p (AV.u64 r'7))], [], 58⟩ : TS)) h15 Y (fun i12_1 x hx => ?_) (fun e s' hs => ?_)
    ·clear H
     have H := hx
     clear hx
     unfold g_ref_tapeText_l1 at H
     refine AW2_seq ?_
     refine sg [0, 1] Y ?_
     refine rp Y Y (p_move Y Y) ?_
     refine rp Y Y (p_bin Y Y Y Y) ?_
     refine rz [(9, .t (cut y'6 (0 : Int) (32 : Int))), (10, .t (cut y'6 (32 : Int) (y'6.length : Int))), (11, .p (AV.u64 r'7)), (12, .i i12_1), (48, .b (decide (i12_1 < (32 : Int))))] [] Y Y Y ?_
     refine AW2_if (p := i12_1 < (32 : Int)) Y (fun h12 => ?_) (fun h12 => ?_)
     ·replace H := ite_then h12 H
      refine as2 [(9, .t (cut y'6 (0 : Int) (32 : Int))), (10, .t (cut y'6 (32 : Int) (y'6.length : Int))), (11, .p (AV.u64 r'7)), (12, .i i12_1)] [] Y Y Y ?_
      refine AW2_skip ?_
      refine AW2_seq ?_
      refine AW2_block ?_
      refine sg [0, 1, 2, 3] Y ?_
      refine rp Y Y (p_move Y Y) ?_
      refine rp Y Y (p_move Y Y) ?_
      refine chkK H fun h13 H => ?_
      refine rp Y Y (p_ixt Y Try.underlying9 Y Y (ixe h13) (lrd_get (ixn h13))) ?_
      refine rp Y Y (p_u8ne (a := (lrd (cut y'6 (0 : Int) (32 : Int)) i12_1.toNat)) (b := (0 : UInt8)) Y Y Y) ?_
      refine rz [(9, .t (cut y'6 (0 : Int) (32 : Int))), (10, .t (cut y'6 (32 : Int) (y'6.length : Int))), (11, .p (AV.u64 r'7)), (12, .i i12_1), (54, .b (decide ((lrd (cut y'6 (0 : Int) (32 : Int)) i12_1.toNat) ≠ (0 : UInt8))))] [] Y Y Y ?_
      refine AW2_if (p := (lrd (cut y'6 (0 : Int) (32 : Int)) i12_1.toNat) ≠ (0 : UInt8)) Y (fun h14 => ?_) (fun h14 => ?_)
      ·replace H := ite_then h14 H
       refine sg [0, 1] Y ?_
       refine rp Y Y (p_asg Y Y) ?_
       refine rp Y Y (p_asg Y Y) ?_
       refine rz [(2, .t []), (3, .i (11 : Int))] [] Y Y Y ?_
       refine AW2_ret ?_
       have hz := some_elim H
       subst hz
       exact ⟨Y, ⟨res_tmp (.same _), res_tmp (.same _), trivial⟩, trivial⟩
      ·replace H := ite_else h14 H
       refine as2 [(9, .t (cut y'6 (0 : Int) (32 : Int))), (10, .t (cut y'6 (32 : Int) (y'6.length : Int))), (11, .p (AV.u64 r'7)), (12, .i i12_1)] [] Y Y Y ?_
       refine AW2_skip ?_
       refine AW2_reg [0, 1, 2] Y ?_
       refine rp Y Y (p_move Y Y) ?_
       refine rp Y Y (p_bin Y Y Y Y) ?_
       refine rp Y Y (p_asg Y Y) ?_
       refine rz [(9, .t (cut y'6 (0 : Int) (32 : Int))), (10, .t (cut y'6 (32 : Int) (y'6.length : Int))), (11, .p (AV.u64 r'7)), (12, .i (w64 (i12_1 + (1 : Int))))] [] Y Y Y ?_
       have hz := some_elim H
       subst hz
       exact ⟨Y, Y⟩
     ·replace H := ite_else h12 H
      refine as2 [(10, .t (cut y'6 (32 : Int) (y'6.length : Int))), (11, .p (AV.u64 r'7))] [] Y Y Y ?_
      refine AW2_exit ?_
      refine thenQ2_exit ?_
      have hz := some_elim H
      subst hz
      exact ⟨Y, Y⟩
    ·rcases o'11 with y'12 | y'13
     ·obtain ⟨rfl, hs⟩ := hs
      refine ⟨by simp, ?_⟩
      have hz := some_elim H
      subst hz
      exact ⟨hs.1, hs.2⟩
     ·obtain ⟨rfl, rfl⟩ := hs
      refine ⟨by simp, ?_⟩
      refine blockQ2_exit ?_
      refine sg [0, 1, 2, 3, 4] Y ?_
      refine rp Y Y (p_move Y Y) ?_
      refine rp Y Y (p_move Y Y) ?_
      refine chkK H fun h16 H => ?_
      refine rp Y Y (u_cutt (a := (0 : Int)) (b := (r'7.toNat : Int)) Y Try.underlying9 Y bT_zero (bT_i (Int.le_trans (show 0 ≤ (0 : Int) ∧ (0 : Int) ≤ (r'7.toNat : Int) ∧ (r'7.toNat : Int) ≤ ((cut y'6 (32 : Int) (y'6.length : Int)).length : Int) from ⟨Int.le_refl _, h16.1, h16.2⟩).1 (show 0 ≤ (0 : Int) ∧ (0 : Int) ≤ (r'7.toNat : Int) ∧ (r'7.toNat : Int) ≤ ((cut y'6 (32 : Int) (y'6.length : Int)).length : Int) from ⟨Int.le_refl _, h16.1, h16.2⟩).2.1) Y) (show 0 ≤ (0 : Int) ∧ (0 : Int) ≤ (r'7.toNat : Int) ∧ (r'7.toNat : Int) ≤ ((cut y'6 (32 : Int) (y'6.length : Int)).length : Int) from ⟨Int.le_refl _, h16.1, h16.2⟩)) ?_
      refine rp Y Y (p_asg Y Y) ?_
      refine rp Y Y (p_asg Y Y) ?_
      refine rz [(2, .t (cut (cut y'6 (32 : Int) (y'6.length : Int)) (0 : Int) (r'7.toNat : Int))), (3, .i (0 : Int))] [] Y Y Y ?_
      refine gen1 (fun t2'14 => (⟨[(2, .t t2'14), (3, .i (0 : Int))], [], 58⟩ : TS)) H ?_
      intro t2'14 H
      refine AW2_ret ?_
      have hz := some_elim H
      subst hz
      exact ⟨⟨res_tmp (.same _), res_tmp (.same _), trivial⟩, trivial⟩

/-! chirographref.big -/
noncomputable def g_ref_big_l0 (size1 : Int) : UInt64 × (List UInt8) × Int → Option ((UInt64 × (List UInt8) × Int) ⊕ (((List UInt8))))
  | (n0_0, s5_0, t7_0) => (if t7_0 < size1 then if ([n0_0.toUInt8] : List UInt8).length + s5_0.length ≤ 9223372036854775807 then some (.inl (shr_u64 n0_0 8, ([n0_0.toUInt8] : List UInt8) ++ s5_0, w64 (t7_0 + (1 : Int)))) else none else some (.inr s5_0))
noncomputable def g_ref_big (n0 : UInt64) (size1 : Int) : Option ((List UInt8)) :=
  (loopO (g_ref_big_l0 size1) (n0, [], (0 : Int))).bind fun y'4 => some y'4
set_option maxHeartbeats 4000000 in
set_option maxRecDepth 100000 in
theorem g_ref_big_ac {n0 : UInt64} {size1 : Int} {r : (List UInt8)} (H : g_ref_big n0 size1 = some r) : ACp Try.prog 43 [(AV.u64 n0), (AV.int size1)] (AV.txt r) := by
 refine ACp_of (AC2_of_body (vs := [.t r]) Try.func43 Y Y (Nat.le_of_ble_eq_true Y) Y ?_) (fun _ => .same _)
 unfold g_ref_big at H
 refine as2 [(0, .p (AV.u64 n0)), (1, .i size1)] [] Y Y Y ?_
 refine sg [0] Y ?_
 refine rp Y Y (p_asg Y Y) ?_
 refine rz [(0, .p (AV.u64 n0)), (1, .i size1)] [] Y Y Y ?_
 refine sg [0] Y ?_
 refine rp Y Y (p_asg Y Y) ?_
 refine rz [(0, .p (AV.u64 n0)), (1, .i size1), (5, .t [])] [] Y Y Y ?_
 refine AW2_seq ?_
 refine sg [0, 1] Y ?_
 refine rp Y Y (p_move Y Y) ?_
 refine rp Y Y (p_move Y Y) ?_
 refine rz [(0, .p (AV.u64 n0)), (5, .t []), (6, .i size1), (7, .i (0 : Int))] [] Y Y Y ?_
 refine AW2_block ?_
 refine as2 [(0, .p (AV.u64 n0)), (5, .t []), (6, .i size1), (7, .i (0 : Int))] [] Y Y Y ?_
 refine bindK H fun y'4 h3 H => ?_
 refine AW2_loopO (fun a'1 : UInt64 × (List UInt8) × Int => (⟨[(0, .p (AV.u64 a'1.1)), (5, .t a'1.2.1), (6, .i size1), (7, .i a'1.2.2)], [], 19⟩ : TS)) (fun (y'2 : ((List UInt8))) e s' => e = Go.Exit.exit 0 ∧ s' = (⟨[(5, .t y'2)], [], 19⟩ : TS)) h3 Y (fun a x hx => ?_) (fun e s' hs => ?_)
 ·clear H
  obtain ⟨n0_0, s5_0, t7_0⟩ := a
  have H := hx
  clear hx
  unfold g_ref_big_l0 at H
  refine sg [0] Y ?_
  refine rp Y Y (p_bin Y Y Y Y) ?_
  refine rz [(0, .p (AV.u64 n0_0)), (5, .t s5_0), (6, .i size1), (7, .i t7_0), (8, .b (decide (t7_0 < size1)))] [] Y Y Y ?_
  refine AW2_seq ?_
  refine AW2_if (p := t7_0 < size1) Y (fun h1 => ?_) (fun h1 => ?_)
  ·replace H := ite_then h1 H
   refine as2 [(0, .p (AV.u64 n0_0)), (5, .t s5_0), (6, .i size1), (7, .i t7_0)] [] Y Y Y ?_
   refine AW2_skip ?_
   refine AW2_seq ?_
   refine AW2_block ?_
   refine sg [0, 1, 2, 3, 4, 5, 6] Y ?_
   refine rp Y Y (p_move Y Y) ?_
   refine rp Y Y (p_u64_u8 (a := n0_0) Y Try.underlying82 Try.underlying5 Y) ?_
   refine r_op Y Y (MakeD.opD (u_bs 11 Y Try.underlying45 in_5 Y one_5 (by decide) (by decide) Y Y Y) Y Y Y Y) ?_
   refine rp Y Y (p_cbo (bs := ([n0_0.toUInt8] : List UInt8)) Y Y Try.underlying45 Try.underlying5 Try.underlying9 Y Y) ?_
   refine rp Y Y (p_move Y Y) ?_
   refine chkK H fun h2 H => ?_
   refine rp Y Y (p_cat Y Y Y h2) ?_
   refine rp Y Y (p_asg Y Y) ?_
   refine rz [(0, .p (AV.u64 n0_0)), (5, .t (([n0_0.toUInt8] : List UInt8) ++ s5_0)), (6, .i size1), (7, .i t7_0)] [] Y Y Y ?_
   refine AW2_reg [0, 1, 2] Y ?_
   refine rp Y Y (p_move Y Y) ?_
   refine rp Y Y (p_u64shr (n := 8) Y Y Y Y) ?_
   refine rp Y Y (p_asg Y Y) ?_
   refine rz [(0, .p (AV.u64 (shr_u64 n0_0 8))), (5, .t (([n0_0.toUInt8] : List UInt8) ++ s5_0)), (6, .i size1), (7, .i t7_0)] [] Y Y Y ?_
   refine AW2_reg [0, 1] Y ?_
   refine rp Y Y (p_bin Y Y Y Y) ?_
   refine rp Y Y (p_move Y Y) ?_
   refine rz [(0, .p (AV.u64 (shr_u64 n0_0 8))), (5, .t (([n0_0.toUInt8] : List UInt8) ++ s5_0)), (6, .i size1), (7, .i (w64 (t7_0 + (1 : Int))))] [] Y Y Y ?_
   have hz := some_elim H
   subst hz
   exact ⟨Y, Y⟩
  ·replace H := ite_else h1 H
   refine as2 [(5, .t s5_0)] [] Y Y Y ?_
   refine AW2_exit ?_
   refine thenQ2_exit ?_
   have hz := some_elim H
   subst hz
   exact ⟨Y, Y⟩
 ·obtain ⟨rfl, rfl⟩ := hs
  refine ⟨by simp, ?_⟩
  refine blockQ2_exit ?_
  refine sg [0, 1] Y ?_
  refine rp Y Y (p_move Y Y) ?_
  refine rp Y Y (p_asg Y Y) ?_
  refine rz [(4, .t y'4)] [] Y Y Y ?_
  refine AW2_ret ?_
  have hz := some_elim H
  subst hz
  exact ⟨⟨res_tmp (.same _), trivial⟩, trivial⟩
end Go.Proofs.Ytglgdaeimfdpfaa.VM
