/- Functions of the program, as they answer, and that their code comes to these answers. -/
import Derived.Test.YtglgdaeimfdpfaaVtTyped
import Derived.Test.YtglgdaeimfdpfaaVtShort
namespace Go.Proofs.Ytglgdaeimfdpfaa.VM
open Go Go.RowKit

structure GPut where
  At : Int
  Data : Vector UInt8 32
deriving DecidableEq, Inhabited
def GPut.zero : GPut := ⟨(0 : Int), (Vector.replicate 32 (0 : UInt8))⟩
def GPut.cs (x : GPut) : List AV := ([(AV.int x.At)]) ++ (bcells x.Data.toList)
theorem GPut.len (x : GPut) : (GPut.cs x).length = 33 := by
  simp only [GPut.cs, List.length_append]
  rw [show ([(AV.int x.At)]).length = 1 from (show ([(AV.int x.At)]).length = 1 from rfl), show (bcells x.Data.toList).length = 32 from ((bcells_length _).trans (vlen x.Data))]
theorem GPut.sub0 (x : GPut) : Sub (GPut.cs x) 0 ([(AV.int x.At)]) := Sub.head _ _
abbrev GPut.w0 (x : GPut) (y : Int) : GPut := { x with At := y }
theorem GPut.upd0 (x : GPut) (y : Int) : Upd (GPut.cs x) 0 ([(AV.int y)]) (GPut.cs { x with At := y }) := Upd.head (show ([(AV.int y)]).length = ([(AV.int x.At)]).length from rfl)
theorem GPut.sub1 (x : GPut) : Sub (GPut.cs x) 1 (bcells x.Data.toList) := Sub.skip (k := 1) (show ([(AV.int x.At)]).length = 1 from rfl) (Sub.refl _)
abbrev GPut.w1 (x : GPut) (y : Vector UInt8 32) : GPut := { x with Data := y }
theorem GPut.upd1 (x : GPut) (y : Vector UInt8 32) : Upd (GPut.cs x) 1 (bcells y.toList) (GPut.cs { x with Data := y }) := Upd.skip (k := 1) (show ([(AV.int x.At)]).length = 1 from rfl) (Upd.refl (((bcells_length _).trans (vlen y)).trans ((bcells_length _).trans (vlen x.Data)).symm))
theorem GPut.nl (x : GPut) : (GPut.cs x).all noLst1 = true := nlA rfl ((nlB _))
structure GDisk where
  Lasts : List (Vector UInt8 32)
  Writes : List GPut
deriving DecidableEq, Inhabited
def GDisk.zero : GDisk := ⟨[], []⟩
def GDisk.cs (x : GDisk) : List AV := ([((fun q : List (Vector UInt8 32) => AV.lst (q.flatMap (fun v : Vector UInt8 32 => bcells v.toList)) q.length) x.Lasts)]) ++ ([((fun q : List GPut => AV.lst (q.flatMap GPut.cs) q.length) x.Writes)])
theorem GDisk.len (x : GDisk) : (GDisk.cs x).length = 2 := by
  simp only [GDisk.cs, List.length_append]
  rw [show ([((fun q : List (Vector UInt8 32) => AV.lst (q.flatMap (fun v : Vector UInt8 32 => bcells v.toList)) q.length) x.Lasts)]).length = 1 from (show ([((fun q : List (Vector UInt8 32) => AV.lst (q.flatMap (fun v : Vector UInt8 32 => bcells v.toList)) q.length) x.Lasts)]).length = 1 from rfl), show ([((fun q : List GPut => AV.lst (q.flatMap GPut.cs) q.length) x.Writes)]).length = 1 from (show ([((fun q : List GPut => AV.lst (q.flatMap GPut.cs) q.length) x.Writes)]).length = 1 from rfl)]
theorem GDisk.sub0 (x : GDisk) : Sub (GDisk.cs x) 0 ([((fun q : List (Vector UInt8 32) => AV.lst (q.flatMap (fun v : Vector UInt8 32 => bcells v.toList)) q.length) x.Lasts)]) := Sub.head _ _
abbrev GDisk.w0 (x : GDisk) (y : List (Vector UInt8 32)) : GDisk := { x with Lasts := y }
theorem GDisk.upd0 (x : GDisk) (y : List (Vector UInt8 32)) : Upd (GDisk.cs x) 0 ([((fun q : List (Vector UInt8 32) => AV.lst (q.flatMap (fun v : Vector UInt8 32 => bcells v.toList)) q.length) y)]) (GDisk.cs { x with Lasts := y }) := Upd.head (show ([((fun q : List (Vector UInt8 32) => AV.lst (q.flatMap (fun v : Vector UInt8 32 => bcells v.toList)) q.length) y)]).length = ([((fun q : List (Vector UInt8 32) => AV.lst (q.flatMap (fun v : Vector UInt8 32 => bcells v.toList)) q.length) x.Lasts)]).length from rfl)
theorem GDisk.sub1 (x : GDisk) : Sub (GDisk.cs x) 1 ([((fun q : List GPut => AV.lst (q.flatMap GPut.cs) q.length) x.Writes)]) := Sub.skip (k := 1) (show ([((fun q : List (Vector UInt8 32) => AV.lst (q.flatMap (fun v : Vector UInt8 32 => bcells v.toList)) q.length) x.Lasts)]).length = 1 from rfl) (Sub.refl _)
abbrev GDisk.w1 (x : GDisk) (y : List GPut) : GDisk := { x with Writes := y }
theorem GDisk.upd1 (x : GDisk) (y : List GPut) : Upd (GDisk.cs x) 1 ([((fun q : List GPut => AV.lst (q.flatMap GPut.cs) q.length) y)]) (GDisk.cs { x with Writes := y }) := Upd.skip (k := 1) (show ([((fun q : List (Vector UInt8 32) => AV.lst (q.flatMap (fun v : Vector UInt8 32 => bcells v.toList)) q.length) x.Lasts)]).length = 1 from rfl) (Upd.refl (show ([((fun q : List GPut => AV.lst (q.flatMap GPut.cs) q.length) y)]).length = ([((fun q : List GPut => AV.lst (q.flatMap GPut.cs) q.length) x.Writes)]).length from rfl))
theorem in_22 : Info Try.prog 22 1 24 (.slice none 0 0) := by unfold Info; kernel_rfl
theorem one_22 : (.slice none 0 0 : Value).cells.all (·.oneCell') = true := by kernel_rfl
theorem zc_22 : ((.slice none 0 0 : Value).cells.toList.map zcell) = [((fun q : List (Vector UInt8 32) => AV.lst (q.flatMap (fun v : Vector UInt8 32 => bcells v.toList)) q.length) [])] := by rfl
theorem in_23 : Info Try.prog 23 1 24 (.slice none 0 0) := by unfold Info; kernel_rfl
theorem one_23 : (.slice none 0 0 : Value).cells.all (·.oneCell') = true := by kernel_rfl
theorem zc_23 : ((.slice none 0 0 : Value).cells.toList.map zcell) = [((fun q : List GPut => AV.lst (q.flatMap GPut.cs) q.length) [])] := by rfl
theorem in_70 : Info Try.prog 70 33 40 (.agg #[.int .i64 0, .int .u8 0, .int .u8 0, .int .u8 0, .int .u8 0, .int .u8 0, .int .u8 0, .int .u8 0, .int .u8 0, .int .u8 0, .int .u8 0, .int .u8 0, .int .u8 0, .int .u8 0, .int .u8 0, .int .u8 0, .int .u8 0, .int .u8 0, .int .u8 0, .int .u8 0, .int .u8 0, .int .u8 0, .int .u8 0, .int .u8 0, .int .u8 0, .int .u8 0, .int .u8 0, .int .u8 0, .int .u8 0, .int .u8 0, .int .u8 0, .int .u8 0, .int .u8 0]) := by unfold Info; kernel_rfl
theorem one_70 : (.agg #[.int .i64 0, .int .u8 0, .int .u8 0, .int .u8 0, .int .u8 0, .int .u8 0, .int .u8 0, .int .u8 0, .int .u8 0, .int .u8 0, .int .u8 0, .int .u8 0, .int .u8 0, .int .u8 0, .int .u8 0, .int .u8 0, .int .u8 0, .int .u8 0, .int .u8 0, .int .u8 0, .int .u8 0, .int .u8 0, .int .u8 0, .int .u8 0, .int .u8 0, .int .u8 0, .int .u8 0, .int .u8 0, .int .u8 0, .int .u8 0, .int .u8 0, .int .u8 0, .int .u8 0] : Value).cells.all (·.oneCell') = true := by kernel_rfl
theorem zc_70 : ((.agg #[.int .i64 0, .int .u8 0, .int .u8 0, .int .u8 0, .int .u8 0, .int .u8 0, .int .u8 0, .int .u8 0, .int .u8 0, .int .u8 0, .int .u8 0, .int .u8 0, .int .u8 0, .int .u8 0, .int .u8 0, .int .u8 0, .int .u8 0, .int .u8 0, .int .u8 0, .int .u8 0, .int .u8 0, .int .u8 0, .int .u8 0, .int .u8 0, .int .u8 0, .int .u8 0, .int .u8 0, .int .u8 0, .int .u8 0, .int .u8 0, .int .u8 0, .int .u8 0, .int .u8 0] : Value).cells.toList.map zcell) = GPut.cs GPut.zero := by rfl
theorem pl_70 : placesOf Try.prog 70 = some [(0, 1), (1, 32)] := by kernel_rfl
theorem in_3 : Info Try.prog 3 1 8 (.int .i64 0) := by unfold Info; kernel_rfl
theorem one_3 : (.int .i64 0 : Value).cells.all (·.oneCell') = true := by kernel_rfl
theorem zc_3 : ((.int .i64 0 : Value).cells.toList.map zcell) = [(AV.int (0 : Int))] := by rfl
theorem in_25 : Info Try.prog 25 2 48 (.agg #[.slice none 0 0, .slice none 0 0]) := by unfold Info; kernel_rfl
theorem one_25 : (.agg #[.slice none 0 0, .slice none 0 0] : Value).cells.all (·.oneCell') = true := by kernel_rfl
theorem zc_25 : ((.agg #[.slice none 0 0, .slice none 0 0] : Value).cells.toList.map zcell) = GDisk.cs GDisk.zero := by rfl
theorem pl_25 : placesOf Try.prog 25 = some [(0, 1), (1, 1)] := by kernel_rfl
theorem in_32 : Info Try.prog 32 32 32 (.agg #[.int .u8 0, .int .u8 0, .int .u8 0, .int .u8 0, .int .u8 0, .int .u8 0, .int .u8 0, .int .u8 0, .int .u8 0, .int .u8 0, .int .u8 0, .int .u8 0, .int .u8 0, .int .u8 0, .int .u8 0, .int .u8 0, .int .u8 0, .int .u8 0, .int .u8 0, .int .u8 0, .int .u8 0, .int .u8 0, .int .u8 0, .int .u8 0, .int .u8 0, .int .u8 0, .int .u8 0, .int .u8 0, .int .u8 0, .int .u8 0, .int .u8 0, .int .u8 0]) := by unfold Info; kernel_rfl
theorem one_32 : (.agg #[.int .u8 0, .int .u8 0, .int .u8 0, .int .u8 0, .int .u8 0, .int .u8 0, .int .u8 0, .int .u8 0, .int .u8 0, .int .u8 0, .int .u8 0, .int .u8 0, .int .u8 0, .int .u8 0, .int .u8 0, .int .u8 0, .int .u8 0, .int .u8 0, .int .u8 0, .int .u8 0, .int .u8 0, .int .u8 0, .int .u8 0, .int .u8 0, .int .u8 0, .int .u8 0, .int .u8 0, .int .u8 0, .int .u8 0, .int .u8 0, .int .u8 0, .int .u8 0] : Value).cells.all (·.oneCell') = true := by kernel_rfl
theorem zc_32 : ((.agg #[.int .u8 0, .int .u8 0, .int .u8 0, .int .u8 0, .int .u8 0, .int .u8 0, .int .u8 0, .int .u8 0, .int .u8 0, .int .u8 0, .int .u8 0, .int .u8 0, .int .u8 0, .int .u8 0, .int .u8 0, .int .u8 0, .int .u8 0, .int .u8 0, .int .u8 0, .int .u8 0, .int .u8 0, .int .u8 0, .int .u8 0, .int .u8 0, .int .u8 0, .int .u8 0, .int .u8 0, .int .u8 0, .int .u8 0, .int .u8 0, .int .u8 0, .int .u8 0] : Value).cells.toList.map zcell) = bcells ((Vector.replicate 32 (0 : UInt8)).toList) := by rfl

/-! disk.Check -/
noncomputable def g_disk_Check_l0 (d0 : GDisk) : Int → Option (Int ⊕ (Int ⊕ Unit))
  | t24_0 => (if t24_0 < (d0.Writes.length : Int) then if 0 ≤ t24_0 ∧ t24_0 < (d0.Writes.length : Int) then (if ((lrd d0.Writes t24_0.toNat).At < (0 : Int)) ∨ ((lrd d0.Writes t24_0.toNat).At ≥ (d0.Lasts.length : Int)) then some (.inr (.inl (6 : Int))) else some (.inl (w64 (t24_0 + (1 : Int))))) else none else some (.inr (.inr ())))
noncomputable def g_disk_Check (d0 : GDisk) : Option (Int) :=
  (if (((d0.Lasts.length : Int) < (1 : Int)) ∨ ((d0.Lasts.length : Int) > (400 : Int))) ∨ ((d0.Writes.length : Int) > (60 : Int)) then some (1 : Int) else (loopO (g_disk_Check_l0 d0) (0 : Int)).bind fun o'4 => match o'4 with | .inl y'5 => some y'5 | .inr (y'6) => some (0 : Int))
set_option maxHeartbeats 4000000 in
set_option maxRecDepth 100000 in
theorem g_disk_Check_ac {d0 : GDisk} {r : Int} (H : g_disk_Check d0 = some r) : ACp Try.prog 10 [(.agg (GDisk.cs d0))] (AV.int r) := by
 refine ACp_of (AC2_of_body (vs := [.i r]) Try.func10 rfl rfl (Nat.le_of_ble_eq_true rfl) rfl ?_) (fun _ => .same _)
 unfold g_disk_Check at H
 refine as2 [(0, .g (GDisk.cs d0))] [] rfl rfl rfl ?_
 refine sg [0, 1] rfl ?_
 refine r_op rfl rfl (MakeD.opD (n_box 1 rfl rfl) rfl rfl rfl rfl) ?_
 refine rp rfl rfl (p_asg rfl rfl) ?_
 refine rz [(1, .q 1 (0))] [(1, .pure (GDisk.cs d0))] rfl rfl rfl ?_
 refine AW2_seq ?_
 refine AW2_seq ?_
 refine AW2_mid (⟨[(1, .q 1 (0)), (20, .b (decide ((((d0.Lasts.length : Int) < (1 : Int)) ∨ ((d0.Lasts.length : Int) > (400 : Int))) ∨ ((d0.Writes.length : Int) > (60 : Int)))))], [(1, .pure (GDisk.cs d0))], 40⟩ : TS) ?_ ?_
 ·refine AW2_reg [0, 1, 2, 3, 4, 5, 6, 7, 8, 9, 10, 11, 12, 13, 14, 15] rfl ?_
  refine rp rfl rfl (u_fa rfl rfl Try.underlying25 rfl in_22 (Nat.succ_ne_zero _) rfl rfl (ne_of_lt (n := 0) (Nat.lt_of_lt_of_eq (by decide) (Eq.symm (GDisk.len d0))))) ?_
  refine rp rfl rfl (u_ld rfl rfl Try.underlying22 rfl rfl ((Sub.refl _).trans (GDisk.sub0 d0))) ?_
  refine rp rfl rfl (p_lenl rfl Try.underlying22 rfl rfl) ?_
  refine rp rfl rfl (p_bin rfl rfl rfl rfl) ?_
  refine rp rfl rfl (p_move rfl rfl) ?_
  refine (Classical.em ((d0.Lasts.length : Int) < (1 : Int))).elim (fun h1 => ?_) (fun h1 => ?_)
  ·refine r_off rfl rfl rfl rfl (decide_eq_true h1) rfl rfl ?_
   refine r_off rfl rfl rfl rfl (decide_eq_true h1) rfl rfl ?_
   refine r_off rfl rfl rfl rfl (decide_eq_true h1) rfl rfl ?_
   refine r_off rfl rfl rfl rfl (decide_eq_true h1) rfl rfl ?_
   refine rp rfl rfl (p_pkt rfl rfl (decide_eq_true h1) (tb (decide_eq_true (p := ((d0.Lasts.length : Int) < (1 : Int)) ∨ ((d0.Lasts.length : Int) > (400 : Int))) (Or.inl h1)).symm)) ?_
   refine rp rfl rfl (p_move rfl rfl) ?_
   refine r_off rfl rfl rfl rfl (decide_eq_true (p := ((d0.Lasts.length : Int) < (1 : Int)) ∨ ((d0.Lasts.length : Int) > (400 : Int))) (Or.inl h1)) rfl rfl ?_
   refine r_off rfl rfl rfl rfl (decide_eq_true (p := ((d0.Lasts.length : Int) < (1 : Int)) ∨ ((d0.Lasts.length : Int) > (400 : Int))) (Or.inl h1)) rfl rfl ?_
   refine r_off rfl rfl rfl rfl (decide_eq_true (p := ((d0.Lasts.length : Int) < (1 : Int)) ∨ ((d0.Lasts.length : Int) > (400 : Int))) (Or.inl h1)) rfl rfl ?_
   refine r_off rfl rfl rfl rfl (decide_eq_true (p := ((d0.Lasts.length : Int) < (1 : Int)) ∨ ((d0.Lasts.length : Int) > (400 : Int))) (Or.inl h1)) rfl rfl ?_
   refine rp rfl rfl (p_pkt rfl rfl (decide_eq_true (p := ((d0.Lasts.length : Int) < (1 : Int)) ∨ ((d0.Lasts.length : Int) > (400 : Int))) (Or.inl h1)) (tb (decide_eq_true (p := (((d0.Lasts.length : Int) < (1 : Int)) ∨ ((d0.Lasts.length : Int) > (400 : Int))) ∨ ((d0.Writes.length : Int) > (60 : Int))) (Or.inl (Or.inl h1))).symm)) ?_
   refine rs [(1, .q 1 (0)), (20, .b (decide ((((d0.Lasts.length : Int) < (1 : Int)) ∨ ((d0.Lasts.length : Int) > (400 : Int))) ∨ ((d0.Writes.length : Int) > (60 : Int)))))] [(1, .pure (GDisk.cs d0))] rfl rfl rfl ?_
   exact RunW_nil rfl
  ·refine r_on rfl rfl rfl rfl (decide_eq_false h1) rfl (PureD.opD (u_fa rfl rfl Try.underlying25 rfl in_22 (Nat.succ_ne_zero _) rfl rfl (ne_of_lt (n := 0) (Nat.lt_of_lt_of_eq (by decide) (Eq.symm (GDisk.len d0)))))) ?_
   refine r_on rfl rfl rfl rfl (decide_eq_false h1) rfl (PureD.opD (u_ld rfl rfl Try.underlying22 rfl rfl ((Sub.refl _).trans (GDisk.sub0 d0)))) ?_
   refine r_on rfl rfl rfl rfl (decide_eq_false h1) rfl (PureD.opD (p_lenl rfl Try.underlying22 rfl rfl)) ?_
   refine r_on rfl rfl rfl rfl (decide_eq_false h1) rfl (PureD.opD (p_bin rfl rfl rfl rfl)) ?_
   refine rp rfl rfl (p_pkf rfl rfl (decide_eq_false h1) (tb ((or_l (p := (d0.Lasts.length : Int) < (1 : Int)) (q := (d0.Lasts.length : Int) > (400 : Int)) h1)))) ?_
   refine rp rfl rfl (p_move rfl rfl) ?_
   refine (Classical.em ((d0.Lasts.length : Int) > (400 : Int))).elim (fun h2 => ?_) (fun h2 => ?_)
   ·refine r_off rfl rfl rfl rfl (decide_eq_true (p := ((d0.Lasts.length : Int) < (1 : Int)) ∨ ((d0.Lasts.length : Int) > (400 : Int))) (Or.inr h2)) rfl rfl ?_
    refine r_off rfl rfl rfl rfl (decide_eq_true (p := ((d0.Lasts.length : Int) < (1 : Int)) ∨ ((d0.Lasts.length : Int) > (400 : Int))) (Or.inr h2)) rfl rfl ?_
    refine r_off rfl rfl rfl rfl (decide_eq_true (p := ((d0.Lasts.length : Int) < (1 : Int)) ∨ ((d0.Lasts.length : Int) > (400 : Int))) (Or.inr h2)) rfl rfl ?_
    refine r_off rfl rfl rfl rfl (decide_eq_true (p := ((d0.Lasts.length : Int) < (1 : Int)) ∨ ((d0.Lasts.length : Int) > (400 : Int))) (Or.inr h2)) rfl rfl ?_
    refine rp rfl rfl (p_pkt rfl rfl (decide_eq_true (p := ((d0.Lasts.length : Int) < (1 : Int)) ∨ ((d0.Lasts.length : Int) > (400 : Int))) (Or.inr h2)) (tb (decide_eq_true (p := (((d0.Lasts.length : Int) < (1 : Int)) ∨ ((d0.Lasts.length : Int) > (400 : Int))) ∨ ((d0.Writes.length : Int) > (60 : Int))) (Or.inl (Or.inr h2))).symm)) ?_
    refine rs [(1, .q 1 (0)), (20, .b (decide ((((d0.Lasts.length : Int) < (1 : Int)) ∨ ((d0.Lasts.length : Int) > (400 : Int))) ∨ ((d0.Writes.length : Int) > (60 : Int)))))] [(1, .pure (GDisk.cs d0))] rfl rfl rfl ?_
    exact RunW_nil rfl
   ·refine r_on rfl rfl rfl rfl (decide_eq_false (p := ((d0.Lasts.length : Int) < (1 : Int)) ∨ ((d0.Lasts.length : Int) > (400 : Int))) (not_or.2 ⟨h1, h2⟩)) rfl (PureD.opD (u_fa rfl rfl Try.underlying25 rfl in_23 (Nat.succ_ne_zero _) rfl rfl (ne_of_lt (n := 0) (Nat.lt_of_lt_of_eq (by decide) (Eq.symm (GDisk.len d0)))))) ?_
    refine r_on rfl rfl rfl rfl (decide_eq_false (p := ((d0.Lasts.length : Int) < (1 : Int)) ∨ ((d0.Lasts.length : Int) > (400 : Int))) (not_or.2 ⟨h1, h2⟩)) rfl (PureD.opD (u_ld rfl rfl Try.underlying23 rfl rfl ((Sub.refl _).trans (GDisk.sub1 d0)))) ?_
    refine r_on rfl rfl rfl rfl (decide_eq_false (p := ((d0.Lasts.length : Int) < (1 : Int)) ∨ ((d0.Lasts.length : Int) > (400 : Int))) (not_or.2 ⟨h1, h2⟩)) rfl (PureD.opD (p_lenl rfl Try.underlying23 rfl rfl)) ?_
    refine r_on rfl rfl rfl rfl (decide_eq_false (p := ((d0.Lasts.length : Int) < (1 : Int)) ∨ ((d0.Lasts.length : Int) > (400 : Int))) (not_or.2 ⟨h1, h2⟩)) rfl (PureD.opD (p_bin rfl rfl rfl rfl)) ?_
    refine rp rfl rfl (p_pkf rfl rfl (decide_eq_false (p := ((d0.Lasts.length : Int) < (1 : Int)) ∨ ((d0.Lasts.length : Int) > (400 : Int))) (not_or.2 ⟨h1, h2⟩)) (tb ((or_l (p := ((d0.Lasts.length : Int) < (1 : Int)) ∨ ((d0.Lasts.length : Int) > (400 : Int))) (q := (d0.Writes.length : Int) > (60 : Int)) (not_or.2 ⟨h1, h2⟩))))) ?_
    refine rs [(1, .q 1 (0)), (20, .b (decide ((((d0.Lasts.length : Int) < (1 : Int)) ∨ ((d0.Lasts.length : Int) > (400 : Int))) ∨ ((d0.Writes.length : Int) > (60 : Int)))))] [(1, .pure (GDisk.cs d0))] rfl rfl rfl ?_
    exact RunW_nil rfl
 ·refine AW2_if (p := (((d0.Lasts.length : Int) < (1 : Int)) ∨ ((d0.Lasts.length : Int) > (400 : Int))) ∨ ((d0.Writes.length : Int) > (60 : Int))) rfl (fun h3 => ?_) (fun h3 => ?_)
  ·replace H := ite_then h3 H
   refine sg [0] rfl ?_
   refine rp rfl rfl (p_asg rfl rfl) ?_
   refine rz [(2, .i (1 : Int))] [] rfl rfl rfl ?_
   refine AW2_ret ?_
   have hz := some_elim H
   subst hz
   exact ⟨⟨res_tmp (.same _), trivial⟩, trivial⟩
  ·replace H := ite_else h3 H
   refine as2 [(1, .q 1 (0))] [(1, .pure (GDisk.cs d0))] rfl rfl rfl ?_
   refine AW2_skip ?_
   refine AW2_seq ?_
   refine sg [0, 1, 2, 3] rfl ?_
   refine rp rfl rfl (u_fa rfl rfl Try.underlying25 rfl in_23 (Nat.succ_ne_zero _) rfl rfl (ne_of_lt (n := 0) (Nat.lt_of_lt_of_eq (by decide) (Eq.symm (GDisk.len d0))))) ?_
   refine rp rfl rfl (u_ld rfl rfl Try.underlying23 rfl rfl ((Sub.refl _).trans (GDisk.sub1 d0))) ?_
   refine rp rfl rfl (p_lenl rfl Try.underlying23 rfl rfl) ?_
   refine rp rfl rfl (p_move rfl rfl) ?_
   refine rz [(1, .q 1 (0)), (22, .p ((fun q : List GPut => AV.lst (q.flatMap GPut.cs) q.length) d0.Writes)), (23, .i (d0.Writes.length : Int)), (24, .i (0 : Int))] [(1, .pure (GDisk.cs d0))] rfl rfl rfl ?_
   refine AW2_block ?_
   refine as2 [(1, .q 1 (0)), (22, .p ((fun q : List GPut => AV.lst (q.flatMap GPut.cs) q.length) d0.Writes)), (23, .i (d0.Writes.length : Int)), (24, .i (0 : Int))] [(1, .pure (GDisk.cs d0))] rfl rfl rfl ?_
   refine bindK H fun o'4 h8 H => ?_
   refine AW2_loopO (fun a'1 : Int => (⟨[(1, .q 1 (0)), (22, .p ((fun q : List GPut => AV.lst (q.flatMap GPut.cs) q.length) d0.Writes)), (23, .i (d0.Writes.length : Int)), (24, .i a'1)], [(1, .pure (GDisk.cs d0))], 40⟩ : TS)) (fun (o : Int ⊕ Unit) e s' => match o with | .inl y'2 => e = Go.Exit.ret ∧ ResAll Try.prog s' [ResultVar.tmp 2] [.i y'2] ∧ HFits s' [] | .inr (y'3) => e = Go.Exit.exit 0 ∧ s' = (⟨[], [], 40⟩ : TS)) h8 rfl (fun t24_0 x hx => ?_) (fun e s' hs => ?_)
   ·clear H
    have H := hx
    clear hx
    unfold g_disk_Check_l0 at H
    refine sg [0] rfl ?_
    refine rp rfl rfl (p_bin rfl rfl rfl rfl) ?_
    refine rz [(1, .q 1 (0)), (22, .p ((fun q : List GPut => AV.lst (q.flatMap GPut.cs) q.length) d0.Writes)), (23, .i (d0.Writes.length : Int)), (24, .i t24_0), (25, .b (decide (t24_0 < (d0.Writes.length : Int))))] [(1, .pure (GDisk.cs d0))] rfl rfl rfl ?_
    refine AW2_seq ?_
    refine AW2_if (p := t24_0 < (d0.Writes.length : Int)) rfl (fun h4 => ?_) (fun h4 => ?_)
    ·replace H := ite_then h4 H
     refine as2 [(1, .q 1 (0)), (22, .p ((fun q : List GPut => AV.lst (q.flatMap GPut.cs) q.length) d0.Writes)), (23, .i (d0.Writes.length : Int)), (24, .i t24_0)] [(1, .pure (GDisk.cs d0))] rfl rfl rfl ?_
     refine AW2_skip ?_
     refine AW2_seq ?_
     refine AW2_block ?_
     refine sg [0, 1, 2, 3] rfl ?_
     refine chkK H fun h5 H => ?_
     refine rp rfl rfl (u_ixl rfl rfl Try.underlying23 in_70 rfl rfl (ixe h5) (ixn h5) (fne (fun x => (GPut.len x)) (by decide) (ixn h5))) ?_
     refine rp rfl rfl (u_lda rfl rfl Try.underlying70 rfl in_70 rfl (Nat.succ_pos _) (Sub.fm default (fun x => (GPut.len x)) (ixn h5)) (GPut.len (lrd d0.Writes t24_0.toNat))) ?_
     refine r_op rfl rfl (MakeD.opD (u_alloc 4 rfl in_70 one_70 zc_70) rfl rfl rfl rfl) ?_
     refine r_op rfl rfl (u_st rfl rfl rfl rfl rfl in_70 (GPut.len (lrd d0.Writes t24_0.toNat)) (ne_of_lt (n := 0) (Nat.lt_of_lt_of_eq (by decide) (Eq.symm (GPut.len GPut.zero)))) (Upd.refl ((GPut.len (lrd d0.Writes t24_0.toNat)).trans (GPut.len GPut.zero).symm))) ?_
     refine rz [(1, .q 1 (0)), (4, .q 4 (0)), (22, .p ((fun q : List GPut => AV.lst (q.flatMap GPut.cs) q.length) d0.Writes)), (23, .i (d0.Writes.length : Int)), (24, .i t24_0)] [(1, .pure (GDisk.cs d0)), (4, .pure (GPut.cs (lrd d0.Writes t24_0.toNat)))] rfl rfl rfl ?_
     refine AW2_seq ?_
     refine AW2_mid (⟨[(1, .q 1 (0)), (22, .p ((fun q : List GPut => AV.lst (q.flatMap GPut.cs) q.length) d0.Writes)), (23, .i (d0.Writes.length : Int)), (24, .i t24_0), (38, .b (decide (((lrd d0.Writes t24_0.toNat).At < (0 : Int)) ∨ ((lrd d0.Writes t24_0.toNat).At ≥ (d0.Lasts.length : Int)))))], [(1, .pure (GDisk.cs d0))], 40⟩ : TS) ?_ ?_
     ·refine AW2_reg [0, 1, 2, 3, 4, 5, 6, 7, 8, 9, 10] rfl ?_
      refine rp rfl rfl (u_fa rfl rfl Try.underlying70 rfl in_3 (Nat.succ_ne_zero _) rfl rfl (ne_of_lt (n := 0) (Nat.lt_of_lt_of_eq (by decide) (Eq.symm (GPut.len (lrd d0.Writes t24_0.toNat)))))) ?_
      refine rp rfl rfl (u_ld rfl rfl Try.underlying3 rfl rfl ((Sub.refl _).trans (GPut.sub0 (lrd d0.Writes t24_0.toNat)))) ?_
      refine rp rfl rfl (p_bin rfl rfl rfl rfl) ?_
      refine rp rfl rfl (p_move rfl rfl) ?_
      refine (Classical.em ((lrd d0.Writes t24_0.toNat).At < (0 : Int))).elim (fun h6 => ?_) (fun h6 => ?_)
      ·refine r_off rfl rfl rfl rfl (decide_eq_true h6) rfl rfl ?_
       refine r_off rfl rfl rfl rfl (decide_eq_true h6) rfl rfl ?_
       refine r_off rfl rfl rfl rfl (decide_eq_true h6) rfl rfl ?_
       refine r_off rfl rfl rfl rfl (decide_eq_true h6) rfl rfl ?_
       refine r_off rfl rfl rfl rfl (decide_eq_true h6) rfl rfl ?_
       refine r_off rfl rfl rfl rfl (decide_eq_true h6) rfl rfl ?_
       refine rp rfl rfl (p_pkt rfl rfl (decide_eq_true h6) (tb (decide_eq_true (p := ((lrd d0.Writes t24_0.toNat).At < (0 : Int)) ∨ ((lrd d0.Writes t24_0.toNat).At ≥ (d0.Lasts.length : Int))) (Or.inl h6)).symm)) ?_
       refine rs [(1, .q 1 (0)), (22, .p ((fun q : List GPut => AV.lst (q.flatMap GPut.cs) q.length) d0.Writes)), (23, .i (d0.Writes.length : Int)), (24, .i t24_0), (38, .b (decide (((lrd d0.Writes t24_0.toNat).At < (0 : Int)) ∨ ((lrd d0.Writes t24_0.toNat).At ≥ (d0.Lasts.length : Int)))))] [(1, .pure (GDisk.cs d0))] rfl rfl rfl ?_
       exact RunW_nil rfl
      ·refine r_on rfl rfl rfl rfl (decide_eq_false h6) rfl (PureD.opD (u_fa rfl rfl Try.underlying70 rfl in_3 (Nat.succ_ne_zero _) rfl rfl (ne_of_lt (n := 0) (Nat.lt_of_lt_of_eq (by decide) (Eq.symm (GPut.len (lrd d0.Writes t24_0.toNat))))))) ?_
       refine r_on rfl rfl rfl rfl (decide_eq_false h6) rfl (PureD.opD (u_ld rfl rfl Try.underlying3 rfl rfl ((Sub.refl _).trans (GPut.sub0 (lrd d0.Writes t24_0.toNat))))) ?_
       refine r_on rfl rfl rfl rfl (decide_eq_false h6) rfl (PureD.opD (u_fa rfl rfl Try.underlying25 rfl in_22 (Nat.succ_ne_zero _) rfl rfl (ne_of_lt (n := 0) (Nat.lt_of_lt_of_eq (by decide) (Eq.symm (GDisk.len d0)))))) ?_
       refine r_on rfl rfl rfl rfl (decide_eq_false h6) rfl (PureD.opD (u_ld rfl rfl Try.underlying22 rfl rfl ((Sub.refl _).trans (GDisk.sub0 d0)))) ?_
       refine r_on rfl rfl rfl rfl (decide_eq_false h6) rfl (PureD.opD (p_lenl rfl Try.underlying22 rfl rfl)) ?_
       refine r_on rfl rfl rfl rfl (decide_eq_false h6) rfl (PureD.opD (p_bin rfl rfl rfl rfl)) ?_
       refine rp rfl rfl (p_pkf rfl rfl (decide_eq_false h6) (tb ((or_l (p := (lrd d0.Writes t24_0.toNat).At < (0 : Int)) (q := (lrd d0.Writes t24_0.toNat).At ≥ (d0.Lasts.length : Int)) h6)))) ?_
       refine rs [(1, .q 1 (0)), (22, .p ((fun q : List GPut => AV.lst (q.flatMap GPut.cs) q.length) d0.Writes)), (23, .i (d0.Writes.length : Int)), (24, .i t24_0), (38, .b (decide (((lrd d0.Writes t24_0.toNat).At < (0 : Int)) ∨ ((lrd d0.Writes t24_0.toNat).At ≥ (d0.Lasts.length : Int)))))] [(1, .pure (GDisk.cs d0))] rfl rfl rfl ?_
       exact RunW_nil rfl
     ·refine AW2_if (p := ((lrd d0.Writes t24_0.toNat).At < (0 : Int)) ∨ ((lrd d0.Writes t24_0.toNat).At ≥ (d0.Lasts.length : Int))) rfl (fun h7 => ?_) (fun h7 => ?_)
      ·replace H := ite_then h7 H
       refine sg [0] rfl ?_
       refine rp rfl rfl (p_asg rfl rfl) ?_
       refine rz [(2, .i (6 : Int))] [] rfl rfl rfl ?_
       refine AW2_ret ?_
       have hz := some_elim H
       subst hz
       exact ⟨rfl, ⟨res_tmp (.same _), trivial⟩, trivial⟩
      ·replace H := ite_else h7 H
       refine as2 [(1, .q 1 (0)), (22, .p ((fun q : List GPut => AV.lst (q.flatMap GPut.cs) q.length) d0.Writes)), (23, .i (d0.Writes.length : Int)), (24, .i t24_0)] [(1, .pure (GDisk.cs d0))] rfl rfl rfl ?_
       refine AW2_skip ?_
       refine AW2_reg [0, 1] rfl ?_
       refine rp rfl rfl (p_bin rfl rfl rfl rfl) ?_
       refine rp rfl rfl (p_move rfl rfl) ?_
       refine rz [(1, .q 1 (0)), (22, .p ((fun q : List GPut => AV.lst (q.flatMap GPut.cs) q.length) d0.Writes)), (23, .i (d0.Writes.length : Int)), (24, .i (w64 (t24_0 + (1 : Int))))] [(1, .pure (GDisk.cs d0))] rfl rfl rfl ?_
       have hz := some_elim H
       subst hz
       exact ⟨rfl, rfl⟩
    ·replace H := ite_else h4 H
     refine as2 [] [] rfl rfl rfl ?_
     refine AW2_exit ?_
     refine thenQ2_exit ?_
     have hz := some_elim H
     subst hz
     exact ⟨rfl, rfl⟩
   ·rcases o'4 with y'5 | y'6
    ·obtain ⟨rfl, hs⟩ := hs
     refine ⟨by simp, ?_⟩
     have hz := some_elim H
     subst hz
     exact ⟨hs.1, hs.2⟩
    ·obtain ⟨rfl, rfl⟩ := hs
     refine ⟨by simp, ?_⟩
     refine blockQ2_exit ?_
     refine sg [0] rfl ?_
     refine rp rfl rfl (p_asg rfl rfl) ?_
     refine rz [(2, .i (0 : Int))] [] rfl rfl rfl ?_
     refine AW2_ret ?_
     have hz := some_elim H
     subst hz
     exact ⟨⟨res_tmp (.same _), trivial⟩, trivial⟩

/-! disk.Sync$1 -/
noncomputable def g_disk_Sync_1 (t0 : Int) : Option (Bool) :=
  some true
set_option maxHeartbeats 4000000 in
set_option maxRecDepth 100000 in
theorem g_disk_Sync_1_ac {t0 : Int} {r : Bool} (H : g_disk_Sync_1 t0 = some r) : ACp Try.prog 31 [(AV.int t0)] (AV.bool r) := by
 refine ACp_of (AC2_of_body (vs := [.b r]) Try.func31 rfl rfl (Nat.le_of_ble_eq_true rfl) rfl ?_) (fun _ => .same _)
 unfold g_disk_Sync_1 at H
 refine as2 [] [] rfl rfl rfl ?_
 refine sg [0] rfl ?_
 refine rp rfl rfl (p_asg rfl rfl) ?_
 refine rz [] [] rfl rfl rfl ?_
 refine sg [0] rfl ?_
 refine rp rfl rfl (p_asg rfl rfl) ?_
 refine rz [(2, .b true)] [] rfl rfl rfl ?_
 refine AW2_ret ?_
 have hz := some_elim H
 subst hz
 exact ⟨⟨res_tmp (.same _), trivial⟩, trivial⟩

/-! disk.fall -/
noncomputable def g_disk_fall_i0_l0 (d0 : GDisk) : Int × (List (Vector UInt8 32)) → Option ((Int × (List (Vector UInt8 32))) ⊕ (((List (Vector UInt8 32)))))
  | (t24_0, t16_0) => (if t24_0 < (d0.Writes.length : Int) then (if 0 ≤ t24_0 ∧ t24_0 < (d0.Writes.length : Int) then (g_disk_Sync_1 t24_0).bind fun r'3 => (if r'3 = true then if 0 ≤ (lrd d0.Writes t24_0.toNat).At ∧ (lrd d0.Writes t24_0.toNat).At < (t16_0.length : Int) then letO ((t16_0.set (((lrd d0.Writes t24_0.toNat).At).toNat) ((lrd d0.Writes t24_0.toNat).Data))) fun t16'4 => some t16'4 else none else some t16_0) else none).bind fun j'2 => some (.inl (w64 (t24_0 + (1 : Int)), j'2)) else some (.inr t16_0))
noncomputable def g_disk_fall_i0 (d0 : GDisk) : Option (GDisk × Int) :=
  (g_disk_Check d0).bind fun r'1 => (if r'1 ≠ (0 : Int) then some (GDisk.zero, r'1) else if room (([] : List (Vector UInt8 32)).length + d0.Lasts.length) 32 then (loopO (g_disk_fall_i0_l0 d0) ((0 : Int), ([] : List (Vector UInt8 32)) ++ d0.Lasts)).bind fun y'8 => some (({ Lasts := y'8, Writes := GDisk.zero.Writes } : GDisk), (0 : Int)) else none)
set_option maxHeartbeats 4000000 in
set_option maxRecDepth 100000 in
theorem g_disk_fall_i0_ac {d0 : GDisk} {r : GDisk × Int} (H : g_disk_fall_i0 d0 = some r) : ACp Try.prog 30 [(.agg (GDisk.cs d0)), .clo 31 []] (.tup [(.agg (GDisk.cs r.1)), (AV.int r.2)]) := by
 refine ACp_of (AC2_of_body (vs := [.g (GDisk.cs r.1), .i r.2]) Try.func30 rfl rfl (Nat.le_of_ble_eq_true rfl) rfl ?_) (fun _ => .same _)
 unfold g_disk_fall_i0 at H
 refine AW2_st [(0, .g (GDisk.cs d0)), (1, .clo 31 [])] [] rfl ⟨TLes.same _, (fun _ => .same _), trivial⟩ trivial ?_
 refine sg [0, 1, 2] rfl ?_
 refine r_op rfl rfl (MakeD.opD (n_box 2 rfl rfl) rfl rfl rfl rfl) ?_
 refine r_op rfl rfl (MakeD.opD (u_alloc 4 rfl in_25 one_25 zc_25) rfl rfl rfl rfl) ?_
 refine rp rfl rfl (p_asg rfl rfl) ?_
 refine RunW_st [(1, .clo 31 []), (2, .q 2 (0)), (4, .q 4 (0))] [(2, .pure (GDisk.cs d0)), (4, .pure (GDisk.cs GDisk.zero))] rfl ⟨(fun _ => .same _), TLes.same _, TLes.same _, trivial⟩ ⟨rfl, rfl, trivial⟩ ?_
 refine RunW_nil ?_
 refine AW2_seq ?_
 refine sg [0, 1, 2] rfl ?_
 refine rp rfl rfl (u_lda rfl rfl Try.underlying25 rfl in_25 rfl (Nat.succ_pos _) (Sub.refl _) (GDisk.len d0)) ?_
 refine bindK H fun r'1 h1 H => ?_
 refine rp rfl rfl (p_callp rfl rfl rfl Try.func10 rfl rfl (g_disk_Check_ac h1) ⟨rfl, trivial⟩) ?_
 refine rp rfl rfl (p_asg rfl rfl) ?_
 refine RunW_st [(1, .clo 31 []), (2, .q 2 (0)), (4, .q 4 (0)), (6, .i r'1)] [(2, .pure (GDisk.cs d0)), (4, .pure (GDisk.cs GDisk.zero))] rfl ⟨(fun _ => .same _), TLes.same _, TLes.same _, TLes.same _, trivial⟩ ⟨rfl, rfl, trivial⟩ ?_
 refine RunW_nil ?_
 refine sg [0, 1] rfl ?_
 refine rp rfl rfl (p_move rfl rfl) ?_
 refine rp rfl rfl (p_ine rfl rfl rfl) ?_
 refine RunW_st [(1, .clo 31 []), (2, .q 2 (0)), (4, .q 4 (0)), (6, .i r'1), (13, .b (decide (r'1 ≠ (0 : Int))))] [(2, .pure (GDisk.cs d0)), (4, .pure (GDisk.cs GDisk.zero))] rfl ⟨(fun _ => .same _), TLes.same _, TLes.same _, TLes.same _, TLes.same _, trivial⟩ ⟨rfl, rfl, trivial⟩ ?_
 refine RunW_nil ?_
 refine AW2_if (p := r'1 ≠ (0 : Int)) rfl (fun h2 => ?_) (fun h2 => ?_)
 ·replace H := ite_then h2 H
  refine sg [0, 1, 2, 3] rfl ?_
  refine rp rfl rfl (u_bld rfl in_25 one_25 zc_25 pl_25 rfl rfl) ?_
  refine rp rfl rfl (p_move rfl rfl) ?_
  refine r_op rfl rfl (u_st rfl rfl rfl rfl rfl in_25 (GDisk.len GDisk.zero) (ne_of_lt (n := 0) (Nat.lt_of_lt_of_eq (by decide) (Eq.symm (GDisk.len GDisk.zero)))) (Upd.refl ((GDisk.len GDisk.zero).trans (GDisk.len GDisk.zero).symm))) ?_
  refine rp rfl rfl (p_asg rfl rfl) ?_
  refine rz [(4, .q 4 (0)), (5, .i r'1)] [(4, .pure (GDisk.cs GDisk.zero))] rfl rfl rfl ?_
  refine AW2_ret ?_
  have hz := some_elim H
  subst hz
  exact ⟨⟨res_cella Try.underlying25 rfl in_25.sz rfl (Sub.le (Sub.refl _) (GDisk.len GDisk.zero)) (by decide) (Sub.take (Sub.refl _) (GDisk.len GDisk.zero)), res_tmp (.same _), trivial⟩, trivial⟩
 ·replace H := ite_else h2 H
  refine AW2_st [(1, .clo 31 []), (2, .q 2 (0)), (4, .q 4 (0))] [(2, .pure (GDisk.cs d0)), (4, .pure (GDisk.cs GDisk.zero))] rfl ⟨(fun _ => .same _), TLes.same _, TLes.same _, trivial⟩ ⟨rfl, rfl, trivial⟩ ?_
  refine AW2_skip ?_
  refine sg [0, 1, 2, 3, 4, 5, 6] rfl ?_
  refine r_op rfl rfl (MakeD.opD (n_bs0 16 rfl Try.underlying22 in_32) rfl rfl rfl rfl) ?_
  refine RunW_st [(1, .clo 31 []), (2, .q 2 (0)), (4, .q 4 (0)), (16, .c (.own 16 ([] : List (Vector UInt8 32)).length 32))] [(2, .pure (GDisk.cs d0)), (4, .pure (GDisk.cs GDisk.zero)), (16, .pure (([] : List (Vector UInt8 32)).flatMap (fun v : Vector UInt8 32 => bcells v.toList)))] rfl ⟨(fun _ => .same _), TLes.same _, TLes.same _, TLes.own rfl, trivial⟩ ⟨rfl, rfl, rfl, trivial⟩ ?_
  refine rp rfl rfl (u_fa rfl rfl Try.underlying25 rfl in_22 (Nat.succ_ne_zero _) rfl rfl (ne_of_lt (n := 0) (Nat.lt_of_lt_of_eq (by decide) (Eq.symm (GDisk.len d0))))) ?_
  refine rp rfl rfl (u_ld rfl rfl Try.underlying22 rfl rfl ((Sub.refl _).trans (GDisk.sub0 d0))) ?_
  refine chkK H fun h3 H => ?_
  refine r_op rfl rfl (u_app [16] rfl rfl rfl rfl Try.underlying22 Try.underlying22 in_32 rfl rfl rfl (fm_length (fun x => ((bcells_length _).trans (vlen x))) ([] : List (Vector UInt8 32))) (by decide) rfl (fm_length (fun x => ((bcells_length _).trans (vlen x))) d0.Lasts) h3 (by decide) rfl rfl (fapp (fun v : Vector UInt8 32 => bcells v.toList) ([] : List (Vector UInt8 32)) d0.Lasts) (lapp ([] : List (Vector UInt8 32)) d0.Lasts)) ?_
  refine rp rfl rfl (u_bldm (ps := [(0, [.own 16 (([] : List (Vector UInt8 32)) ++ d0.Lasts).length 32])]) (cs := [.own 16 (([] : List (Vector UInt8 32)) ++ d0.Lasts).length 32, .p (((fun q : List GPut => AV.lst (q.flatMap GPut.cs) q.length) GDisk.zero.Writes))]) rfl in_25 one_25 zc_25 pl_25 rfl (fun _ => rfl)) ?_
  refine r_op rfl rfl (MakeD.opD (u_alloc 7 rfl in_25 one_25 zc_25) rfl rfl rfl rfl) ?_
  refine r_op rfl rfl (d_stm (o := [.p (((fun q : List (Vector UInt8 32) => AV.lst (q.flatMap (fun v : Vector UInt8 32 => bcells v.toList)) q.length) GDisk.zero.Lasts)), .p (((fun q : List GPut => AV.lst (q.flatMap GPut.cs) q.length) GDisk.zero.Writes))]) (xs := [.own 16 (([] : List (Vector UInt8 32)) ++ d0.Lasts).length 32, .p (((fun q : List GPut => AV.lst (q.flatMap GPut.cs) q.length) GDisk.zero.Writes))]) (o' := [.own 16 (([] : List (Vector UInt8 32)) ++ d0.Lasts).length 32, .p (((fun q : List GPut => AV.lst (q.flatMap GPut.cs) q.length) GDisk.zero.Writes))]) rfl rfl rfl rfl (fun _ => rfl) rfl (in_25).sz (Nat.le_of_ble_eq_true rfl) (List.cons_ne_nil _ _) (fun _ => rfl)) ?_
  refine RunW_st [(1, .clo 31 []), (2, .q 2 (0)), (4, .q 4 (0)), (7, .q 7 (0))] [(2, .pure (GDisk.cs d0)), (4, .pure (GDisk.cs GDisk.zero)), (7, .mix [.own 16 (([] : List (Vector UInt8 32)) ++ d0.Lasts).length 32, .p (((fun q : List GPut => AV.lst (q.flatMap GPut.cs) q.length) GDisk.zero.Writes))]), (16, .pure ((([] : List (Vector UInt8 32)) ++ d0.Lasts).flatMap (fun v : Vector UInt8 32 => bcells v.toList)))] rfl ⟨(fun _ => .same _), TLes.same _, TLes.same _, TLes.same _, trivial⟩ ⟨rfl, rfl, rfl, rfl, trivial⟩ ?_
  refine RunW_nil ?_
  refine AW2_seq ?_
  refine sg [0, 1, 2, 3] rfl ?_
  refine rp rfl rfl (u_fa rfl rfl Try.underlying25 rfl in_23 (Nat.succ_ne_zero _) rfl rfl (ne_of_lt (n := 0) (Nat.lt_of_lt_of_eq (by decide) (Eq.symm (GDisk.len d0))))) ?_
  refine rp rfl rfl (u_ld rfl rfl Try.underlying23 rfl rfl ((Sub.refl _).trans (GDisk.sub1 d0))) ?_
  refine rp rfl rfl (p_lenl rfl Try.underlying23 rfl rfl) ?_
  refine rp rfl rfl (p_move rfl rfl) ?_
  refine RunW_st [(1, .clo 31 []), (4, .q 4 (0)), (7, .q 7 (0)), (22, .p ((fun q : List GPut => AV.lst (q.flatMap GPut.cs) q.length) d0.Writes)), (23, .i (d0.Writes.length : Int)), (24, .i (0 : Int))] [(4, .pure (GDisk.cs GDisk.zero)), (7, .mix [.own 16 (([] : List (Vector UInt8 32)) ++ d0.Lasts).length 32, .p (((fun q : List GPut => AV.lst (q.flatMap GPut.cs) q.length) GDisk.zero.Writes))]), (16, .pure ((([] : List (Vector UInt8 32)) ++ d0.Lasts).flatMap (fun v : Vector UInt8 32 => bcells v.toList)))] rfl ⟨(fun _ => .same _), TLes.same _, TLes.same _, TLes.same _, TLes.same _, TLes.same _, trivial⟩ ⟨rfl, rfl, rfl, trivial⟩ ?_
  refine RunW_nil ?_
  refine AW2_block ?_
  refine AW2_st [(1, .clo 31 []), (4, .q 4 (0)), (7, .q 7 (0)), (22, .p ((fun q : List GPut => AV.lst (q.flatMap GPut.cs) q.length) d0.Writes)), (23, .i (d0.Writes.length : Int)), (24, .i (0 : Int))] [(4, .pure (GDisk.cs GDisk.zero)), (7, .mix [.own 16 (([] : List (Vector UInt8 32)) ++ d0.Lasts).length 32, .p (((fun q : List GPut => AV.lst (q.flatMap GPut.cs) q.length) GDisk.zero.Writes))]), (16, .pure ((([] : List (Vector UInt8 32)) ++ d0.Lasts).flatMap (fun v : Vector UInt8 32 => bcells v.toList)))] rfl ⟨(fun _ => .same _), TLes.same _, TLes.same _, TLes.same _, TLes.same _, TLes.same _, trivial⟩ ⟨rfl, rfl, rfl, trivial⟩ ?_
  refine bindK H fun y'8 h10 H => ?_
  refine AW2_loopO (fun a'5 : Int × (List (Vector UInt8 32)) => (⟨[(1, .clo 31 []), (4, .q 4 (0)), (7, .q 7 (0)), (22, .p ((fun q : List GPut => AV.lst (q.flatMap GPut.cs) q.length) d0.Writes)), (23, .i (d0.Writes.length : Int)), (24, .i a'5.1)], [(4, .pure (GDisk.cs GDisk.zero)), (7, .mix [.own 16 a'5.2.length 32, .p (((fun q : List GPut => AV.lst (q.flatMap GPut.cs) q.length) GDisk.zero.Writes))]), (16, .pure (a'5.2.flatMap (fun v : Vector UInt8 32 => bcells v.toList)))], 41⟩ : TS)) (fun (y'6 : ((List (Vector UInt8 32)))) e s' => e = Go.Exit.exit 0 ∧ s' = (⟨[(4, .q 4 (0)), (7, .q 7 (0))], [(4, .pure (GDisk.cs GDisk.zero)), (7, .mix [.own 16 y'6.length 32, .p (((fun q : List GPut => AV.lst (q.flatMap GPut.cs) q.length) GDisk.zero.Writes))]), (16, .pure (y'6.flatMap (fun v : Vector UInt8 32 => bcells v.toList)))], 41⟩ : TS)) h10 rfl (fun a x hx => ?_) (fun e s' hs => ?_)
  ·clear H
   obtain ⟨t24_0, t16_0⟩ := a
   have H := hx
   clear hx
   unfold g_disk_fall_i0_l0 at H
   refine sg [0] rfl ?_
   refine rp rfl rfl (p_bin rfl rfl rfl rfl) ?_
   refine RunW_st [(1, .clo 31 []), (4, .q 4 (0)), (7, .q 7 (0)), (22, .p ((fun q : List GPut => AV.lst (q.flatMap GPut.cs) q.length) d0.Writes)), (23, .i (d0.Writes.length : Int)), (24, .i t24_0), (25, .b (decide (t24_0 < (d0.Writes.length : Int))))] [(4, .pure (GDisk.cs GDisk.zero)), (7, .mix [.own 16 t16_0.length 32, .p (((fun q : List GPut => AV.lst (q.flatMap GPut.cs) q.length) GDisk.zero.Writes))]), (16, .pure (t16_0.flatMap (fun v : Vector UInt8 32 => bcells v.toList)))] rfl ⟨(fun _ => .same _), TLes.same _, TLes.same _, TLes.same _, TLes.same _, TLes.same _, TLes.same _, trivial⟩ ⟨rfl, rfl, rfl, trivial⟩ ?_
   refine RunW_nil ?_
   refine AW2_seq ?_
   refine AW2_if (p := t24_0 < (d0.Writes.length : Int)) rfl (fun h4 => ?_) (fun h4 => ?_)
   ·replace H := ite_then h4 H
    refine AW2_st [(1, .clo 31 []), (4, .q 4 (0)), (7, .q 7 (0)), (22, .p ((fun q : List GPut => AV.lst (q.flatMap GPut.cs) q.length) d0.Writes)), (23, .i (d0.Writes.length : Int)), (24, .i t24_0)] [(4, .pure (GDisk.cs GDisk.zero)), (7, .mix [.own 16 t16_0.length 32, .p (((fun q : List GPut => AV.lst (q.flatMap GPut.cs) q.length) GDisk.zero.Writes))]), (16, .pure (t16_0.flatMap (fun v : Vector UInt8 32 => bcells v.toList)))] rfl ⟨(fun _ => .same _), TLes.same _, TLes.same _, TLes.same _, TLes.same _, TLes.same _, trivial⟩ ⟨rfl, rfl, rfl, trivial⟩ ?_
    refine AW2_skip ?_
    refine AW2_seq ?_
    refine bindK H fun j'2 h5 H => ?_
    refine AW2_mid (⟨[(1, .clo 31 []), (4, .q 4 (0)), (7, .q 7 (0)), (22, .p ((fun q : List GPut => AV.lst (q.flatMap GPut.cs) q.length) d0.Writes)), (23, .i (d0.Writes.length : Int)), (24, .i t24_0)], [(4, .pure (GDisk.cs GDisk.zero)), (7, .mix [.own 16 j'2.length 32, .p (((fun q : List GPut => AV.lst (q.flatMap GPut.cs) q.length) GDisk.zero.Writes))]), (16, .pure (j'2.flatMap (fun v : Vector UInt8 32 => bcells v.toList)))], 41⟩ : TS) ?_ ?_
    ·clear H
     have H := h5
     clear h5
     refine AW2_block ?_
     refine sg [0, 1, 2, 3, 4, 5] rfl ?_
     refine rp rfl rfl (p_move rfl rfl) ?_
     refine chkK H fun h6 H => ?_
     refine rp rfl rfl (u_ixl rfl rfl Try.underlying23 in_70 rfl rfl (ixe h6) (ixn h6) (fne (fun x => (GPut.len x)) (by decide) (ixn h6))) ?_
     refine rp rfl rfl (u_lda rfl rfl Try.underlying70 rfl in_70 rfl (Nat.succ_pos _) (Sub.fm default (fun x => (GPut.len x)) (ixn h6)) (GPut.len (lrd d0.Writes t24_0.toNat))) ?_
     refine r_op rfl rfl (MakeD.opD (u_alloc 9 rfl in_70 one_70 zc_70) rfl rfl rfl rfl) ?_
     refine rp rfl rfl (p_asg rfl rfl) ?_
     refine r_op rfl rfl (u_st rfl rfl rfl rfl rfl in_70 (GPut.len (lrd d0.Writes t24_0.toNat)) (ne_of_lt (n := 0) (Nat.lt_of_lt_of_eq (by decide) (Eq.symm (GPut.len GPut.zero)))) (Upd.refl ((GPut.len (lrd d0.Writes t24_0.toNat)).trans (GPut.len GPut.zero).symm))) ?_
     refine RunW_st [(1, .clo 31 []), (4, .q 4 (0)), (7, .q 7 (0)), (8, .i t24_0), (9, .q 9 (0)), (22, .p ((fun q : List GPut => AV.lst (q.flatMap GPut.cs) q.length) d0.Writes)), (23, .i (d0.Writes.length : Int)), (24, .i t24_0)] [(4, .pure (GDisk.cs GDisk.zero)), (7, .mix [.own 16 t16_0.length 32, .p (((fun q : List GPut => AV.lst (q.flatMap GPut.cs) q.length) GDisk.zero.Writes))]), (9, .pure (GPut.cs (lrd d0.Writes t24_0.toNat))), (16, .pure (t16_0.flatMap (fun v : Vector UInt8 32 => bcells v.toList)))] rfl ⟨(fun _ => .same _), TLes.same _, TLes.same _, TLes.same _, TLes.same _, TLes.same _, TLes.same _, TLes.same _, trivial⟩ ⟨rfl, rfl, rfl, rfl, trivial⟩ ?_
     refine RunW_nil ?_
     refine sg [0, 1, 2] rfl ?_
     refine rp rfl rfl (p_move rfl rfl) ?_
     refine rp rfl rfl (p_move rfl rfl) ?_
     refine bindK H fun r'3 h7 H => ?_
     refine rp rfl rfl (p_callp rfl rfl rfl Try.func31 rfl rfl (g_disk_Sync_1_ac h7) ⟨rfl, trivial⟩) ?_
     refine RunW_st [(1, .clo 31 []), (4, .q 4 (0)), (7, .q 7 (0)), (9, .q 9 (0)), (22, .p ((fun q : List GPut => AV.lst (q.flatMap GPut.cs) q.length) d0.Writes)), (23, .i (d0.Writes.length : Int)), (24, .i t24_0), (31, .b r'3)] [(4, .pure (GDisk.cs GDisk.zero)), (7, .mix [.own 16 t16_0.length 32, .p (((fun q : List GPut => AV.lst (q.flatMap GPut.cs) q.length) GDisk.zero.Writes))]), (9, .pure (GPut.cs (lrd d0.Writes t24_0.toNat))), (16, .pure (t16_0.flatMap (fun v : Vector UInt8 32 => bcells v.toList)))] rfl ⟨(fun _ => .same _), TLes.same _, TLes.same _, TLes.same _, TLes.same _, TLes.same _, TLes.same _, TLes.same _, trivial⟩ ⟨rfl, rfl, rfl, rfl, trivial⟩ ?_
     refine RunW_nil ?_
     refine AW2_cond rfl (fun h8 => ?_) (fun h8 => ?_)
     ·replace H := ite_then h8 H
      refine AW2_reg [0, 1, 2, 3, 4, 5, 6, 7] rfl ?_
      refine rp rfl rfl (p_fa rfl rfl Try.underlying25 rfl (in_22).sz (Nat.succ_ne_zero _) rfl rfl (fun _ => List.cons_ne_nil _ _)) ?_
      refine rp rfl rfl (p_ldm rfl rfl Try.underlying22 rfl rfl rfl rfl) ?_
      refine rp rfl rfl (u_fa rfl rfl Try.underlying70 rfl in_3 (Nat.succ_ne_zero _) rfl rfl (ne_of_lt (n := 0) (Nat.lt_of_lt_of_eq (by decide) (Eq.symm (GPut.len (lrd d0.Writes t24_0.toNat)))))) ?_
      refine rp rfl rfl (u_ld rfl rfl Try.underlying3 rfl rfl ((Sub.refl _).trans (GPut.sub0 (lrd d0.Writes t24_0.toNat)))) ?_
      refine rp rfl rfl (u_fa rfl rfl Try.underlying70 rfl in_32 (Nat.succ_ne_zero _) rfl rfl (ne_of_lt (n := 0) (Nat.lt_of_lt_of_eq (by decide) (Eq.symm (GPut.len (lrd d0.Writes t24_0.toNat)))))) ?_
      refine rp rfl rfl (u_lda rfl rfl Try.underlying32 rfl in_32 rfl (Nat.succ_pos _) ((Sub.refl _).trans (GPut.sub1 (lrd d0.Writes t24_0.toNat))) ((bcells_length _).trans (vlen ((lrd d0.Writes t24_0.toNat).Data)))) ?_
      refine chkK H fun h9 H => ?_
      refine rp rfl rfl (u_ixo rfl rfl Try.underlying22 in_32 rfl rfl (fne (fun x => ((bcells_length _).trans (vlen x))) (by decide) (ixn h9)) rfl (ixe h9) (ixn h9)) ?_
      refine r_op rfl rfl (u_st rfl rfl rfl rfl rfl in_32 ((bcells_length _).trans (vlen ((lrd d0.Writes t24_0.toNat).Data))) (fne (fun x => ((bcells_length _).trans (vlen x))) (by decide) (ixn h9)) (Upd.trans (Sub.refl _) (Upd.fm (fun x => ((bcells_length _).trans (vlen x))) (ixn h9)) (Upd.refl ((fm_length (fun x => ((bcells_length _).trans (vlen x))) (t16_0.set (((lrd d0.Writes t24_0.toNat).At).toNat) ((lrd d0.Writes t24_0.toNat).Data))).trans ((congrArg (fun n => n * 32) List.length_set).trans (fm_length (fun x => ((bcells_length _).trans (vlen x))) t16_0).symm))))) ?_
      refine RunW_st [(1, .clo 31 []), (4, .q 4 (0)), (7, .q 7 (0)), (22, .p ((fun q : List GPut => AV.lst (q.flatMap GPut.cs) q.length) d0.Writes)), (23, .i (d0.Writes.length : Int)), (24, .i t24_0)] [(4, .pure (GDisk.cs GDisk.zero)), (7, .mix [.own 16 (t16_0.set (((lrd d0.Writes t24_0.toNat).At).toNat) ((lrd d0.Writes t24_0.toNat).Data)).length 32, .p (((fun q : List GPut => AV.lst (q.flatMap GPut.cs) q.length) GDisk.zero.Writes))]), (16, .pure ((t16_0.set (((lrd d0.Writes t24_0.toNat).At).toNat) ((lrd d0.Writes t24_0.toNat).Data)).flatMap (fun v : Vector UInt8 32 => bcells v.toList)))] rfl ⟨(fun _ => .same _), TLes.same _, TLes.same _, TLes.same _, TLes.same _, TLes.same _, trivial⟩ ⟨rfl, (congrArg (fun n'' => some (Blk.mix [.own 16 n'' 32, .p (((fun q : List GPut => AV.lst (q.flatMap GPut.cs) q.length) GDisk.zero.Writes))])) (by simp only [List.length_set])), rfl, trivial⟩ ?_
      refine RunW_nil ?_
      refine gen1 (fun t16'4 => (⟨[(1, .clo 31 []), (4, .q 4 (0)), (7, .q 7 (0)), (22, .p ((fun q : List GPut => AV.lst (q.flatMap GPut.cs) q.length) d0.Writes)), (23, .i (d0.Writes.length : Int)), (24, .i t24_0)], [(4, .pure (GDisk.cs GDisk.zero)), (7, .mix [.own 16 t16'4.length 32, .p (((fun q : List GPut => AV.lst (q.flatMap GPut.cs) q.length) GDisk.zero.Writes))]), (16, .pure (t16'4.flatMap (fun v : Vector UInt8 32 => bcells v.toList)))], 41⟩ : TS)) H ?_
      intro t16'4 H
      have hz := some_elim H
      subst hz
      exact rfl
     ·replace H := ite_else (ne_true h8) H
      refine AW2_st [(1, .clo 31 []), (4, .q 4 (0)), (7, .q 7 (0)), (22, .p ((fun q : List GPut => AV.lst (q.flatMap GPut.cs) q.length) d0.Writes)), (23, .i (d0.Writes.length : Int)), (24, .i t24_0)] [(4, .pure (GDisk.cs GDisk.zero)), (7, .mix [.own 16 t16_0.length 32, .p (((fun q : List GPut => AV.lst (q.flatMap GPut.cs) q.length) GDisk.zero.Writes))]), (16, .pure (t16_0.flatMap (fun v : Vector UInt8 32 => bcells v.toList)))] rfl ⟨(fun _ => .same _), TLes.same _, TLes.same _, TLes.same _, TLes.same _, TLes.same _, trivial⟩ ⟨rfl, rfl, rfl, trivial⟩ ?_
      refine AW2_skip ?_
      have hz := some_elim H
      subst hz
      exact rfl
    ·refine AW2_reg [0, 1] rfl ?_
     refine rp rfl rfl (p_bin rfl rfl rfl rfl) ?_
     refine rp rfl rfl (p_move rfl rfl) ?_
     refine RunW_st [(1, .clo 31 []), (4, .q 4 (0)), (7, .q 7 (0)), (22, .p ((fun q : List GPut => AV.lst (q.flatMap GPut.cs) q.length) d0.Writes)), (23, .i (d0.Writes.length : Int)), (24, .i (w64 (t24_0 + (1 : Int))))] [(4, .pure (GDisk.cs GDisk.zero)), (7, .mix [.own 16 j'2.length 32, .p (((fun q : List GPut => AV.lst (q.flatMap GPut.cs) q.length) GDisk.zero.Writes))]), (16, .pure (j'2.flatMap (fun v : Vector UInt8 32 => bcells v.toList)))] rfl ⟨(fun _ => .same _), TLes.same _, TLes.same _, TLes.same _, TLes.same _, TLes.same _, trivial⟩ ⟨rfl, rfl, rfl, trivial⟩ ?_
     refine RunW_nil ?_
     have hz := some_elim H
     subst hz
     exact ⟨rfl, rfl⟩
   ·replace H := ite_else h4 H
    refine as2 [(4, .q 4 (0)), (7, .q 7 (0))] [(4, .pure (GDisk.cs GDisk.zero)), (7, .mix [.own 16 t16_0.length 32, .p (((fun q : List GPut => AV.lst (q.flatMap GPut.cs) q.length) GDisk.zero.Writes))]), (16, .pure (t16_0.flatMap (fun v : Vector UInt8 32 => bcells v.toList)))] rfl rfl rfl ?_
    refine AW2_exit ?_
    refine thenQ2_exit ?_
    have hz := some_elim H
    subst hz
    exact ⟨rfl, rfl⟩
  ·obtain ⟨rfl, rfl⟩ := hs
   refine ⟨by simp, ?_⟩
   refine blockQ2_exit ?_
   refine sg [0, 1, 2] rfl ?_
   refine rp rfl rfl (p_ldam rfl rfl Try.underlying25 rfl (in_25).sz rfl rfl (Nat.le_of_ble_eq_true rfl) (Nat.succ_pos _) rfl) ?_
   refine rs [(4, .q 4 (0)), (40, .agg [.own 16 y'8.length 32, .p (((fun q : List GPut => AV.lst (q.flatMap GPut.cs) q.length) GDisk.zero.Writes))])] [(4, .pure (GDisk.cs GDisk.zero)), (16, .pure (y'8.flatMap (fun v : Vector UInt8 32 => bcells v.toList)))] rfl rfl rfl ?_
   refine RunW_gho (Gho_puba (b := 16) [(40, .agg [.p (((fun q : List (Vector UInt8 32) => AV.lst (q.flatMap (fun v : Vector UInt8 32 => bcells v.toList)) q.length) y'8)), .p (((fun q : List GPut => AV.lst (q.flatMap GPut.cs) q.length) GDisk.zero.Writes))])] ⟨⟨(.inr (.inl ⟨rfl, rfl⟩)), (.inl rfl), trivial⟩, trivial⟩ rfl (fm_length (fun x => ((bcells_length _).trans (vlen x))) y'8) (by decide)) ?_
   refine RunW_st [(4, .q 4 (0)), (40, .g (GDisk.cs ({ Lasts := y'8, Writes := GDisk.zero.Writes } : GDisk)))] [(4, .pure (GDisk.cs GDisk.zero))] rfl ⟨TLes.same _, (fun _ => .same _), trivial⟩ ⟨rfl, trivial⟩ ?_
   refine r_op rfl rfl (u_st rfl rfl rfl rfl rfl in_25 (GDisk.len ({ Lasts := y'8, Writes := GDisk.zero.Writes } : GDisk)) (ne_of_lt (n := 0) (Nat.lt_of_lt_of_eq (by decide) (Eq.symm (GDisk.len GDisk.zero)))) (Upd.refl ((GDisk.len ({ Lasts := y'8, Writes := GDisk.zero.Writes } : GDisk)).trans (GDisk.len GDisk.zero).symm))) ?_
   refine rp rfl rfl (p_asg rfl rfl) ?_
   refine rz [(4, .q 4 (0)), (5, .i (0 : Int))] [(4, .pure (GDisk.cs ({ Lasts := y'8, Writes := GDisk.zero.Writes } : GDisk)))] rfl rfl rfl ?_
   refine AW2_ret ?_
   have hz := some_elim H
   subst hz
   exact ⟨⟨res_cella Try.underlying25 rfl in_25.sz rfl (Sub.le (Sub.refl _) (GDisk.len ({ Lasts := y'8, Writes := GDisk.zero.Writes } : GDisk))) (by decide) (Sub.take (Sub.refl _) (GDisk.len ({ Lasts := y'8, Writes := GDisk.zero.Writes } : GDisk))), res_tmp (.same _), trivial⟩, trivial⟩
end Go.Proofs.Ytglgdaeimfdpfaa.VM
