/- Functions of the program, as they answer, and that their code comes to these answers. -/
import Derived.Test.YtcahembojhmpbaaDoorKq1
namespace Go.Proofs.YtcahembojhmpbaaDoor.VM
open Go Go.RowKit

structure Gkinds_sort where
  kind_ : Int
  null_ : Bool
deriving DecidableEq, Inhabited
def Gkinds_sort.zero : Gkinds_sort := ⟨(0 : Int), false⟩
def Gkinds_sort.cs (x : Gkinds_sort) : List AV := ([(AV.int x.kind_)]) ++ ([(AV.bool x.null_)])
theorem Gkinds_sort.len (x : Gkinds_sort) : (Gkinds_sort.cs x).length = 2 := by
  simp only [Gkinds_sort.cs, List.length_append]
  rw [show ([(AV.int x.kind_)]).length = 1 from (show ([(AV.int x.kind_)]).length = 1 from rfl), show ([(AV.bool x.null_)]).length = 1 from (show ([(AV.bool x.null_)]).length = 1 from rfl)]
theorem Gkinds_sort.sub0 (x : Gkinds_sort) : Sub (Gkinds_sort.cs x) 0 ([(AV.int x.kind_)]) := Sub.head _ _
abbrev Gkinds_sort.w0 (x : Gkinds_sort) (y : Int) : Gkinds_sort := { x with kind_ := y }
theorem Gkinds_sort.upd0 (x : Gkinds_sort) (y : Int) : Upd (Gkinds_sort.cs x) 0 ([(AV.int y)]) (Gkinds_sort.cs { x with kind_ := y }) := Upd.head (show ([(AV.int y)]).length = ([(AV.int x.kind_)]).length from rfl)
theorem Gkinds_sort.sub1 (x : Gkinds_sort) : Sub (Gkinds_sort.cs x) 1 ([(AV.bool x.null_)]) := Sub.skip (k := 1) (show ([(AV.int x.kind_)]).length = 1 from rfl) (Sub.refl _)
abbrev Gkinds_sort.w1 (x : Gkinds_sort) (y : Bool) : Gkinds_sort := { x with null_ := y }
theorem Gkinds_sort.upd1 (x : Gkinds_sort) (y : Bool) : Upd (Gkinds_sort.cs x) 1 ([(AV.bool y)]) (Gkinds_sort.cs { x with null_ := y }) := Upd.skip (k := 1) (show ([(AV.int x.kind_)]).length = 1 from rfl) (Upd.refl (show ([(AV.bool y)]).length = ([(AV.bool x.null_)]).length from rfl))
theorem Gkinds_sort.nl (x : Gkinds_sort) : (Gkinds_sort.cs x).all noLst1 = true := nlA rfl (rfl)
structure GItem where
  Agg : Int
  Expr : GExpr
def GItem.zero : GItem := ⟨(0 : Int), GExpr.zero⟩
instance : Inhabited GItem := ⟨GItem.zero⟩
def GItem.cs (x : GItem) : List AV := ([(AV.int x.Agg)]) ++ (GExpr.cs x.Expr)
theorem GItem.len (x : GItem) : (GItem.cs x).length = 8 := by
  simp only [GItem.cs, List.length_append]
  rw [show ([(AV.int x.Agg)]).length = 1 from (show ([(AV.int x.Agg)]).length = 1 from rfl), show (GExpr.cs x.Expr).length = 7 from (GExpr.len x.Expr)]
theorem GItem.sub0 (x : GItem) : Sub (GItem.cs x) 0 ([(AV.int x.Agg)]) := Sub.head _ _
abbrev GItem.w0 (x : GItem) (y : Int) : GItem := { x with Agg := y }
theorem GItem.upd0 (x : GItem) (y : Int) : Upd (GItem.cs x) 0 ([(AV.int y)]) (GItem.cs { x with Agg := y }) := Upd.head (show ([(AV.int y)]).length = ([(AV.int x.Agg)]).length from rfl)
theorem GItem.sub1 (x : GItem) : Sub (GItem.cs x) 1 (GExpr.cs x.Expr) := Sub.skip (k := 1) (show ([(AV.int x.Agg)]).length = 1 from rfl) (Sub.refl _)
abbrev GItem.w1 (x : GItem) (y : GExpr) : GItem := { x with Expr := y }
theorem GItem.upd1 (x : GItem) (y : GExpr) : Upd (GItem.cs x) 1 (GExpr.cs y) (GItem.cs { x with Expr := y }) := Upd.skip (k := 1) (show ([(AV.int x.Agg)]).length = 1 from rfl) (Upd.refl ((GExpr.len y).trans (GExpr.len x.Expr).symm))
structure GSort where
  Item : Int
  Down : Bool
deriving DecidableEq, Inhabited
def GSort.zero : GSort := ⟨(0 : Int), false⟩
def GSort.cs (x : GSort) : List AV := ([(AV.int x.Item)]) ++ ([(AV.bool x.Down)])
theorem GSort.len (x : GSort) : (GSort.cs x).length = 2 := by
  simp only [GSort.cs, List.length_append]
  rw [show ([(AV.int x.Item)]).length = 1 from (show ([(AV.int x.Item)]).length = 1 from rfl), show ([(AV.bool x.Down)]).length = 1 from (show ([(AV.bool x.Down)]).length = 1 from rfl)]
theorem GSort.sub0 (x : GSort) : Sub (GSort.cs x) 0 ([(AV.int x.Item)]) := Sub.head _ _
abbrev GSort.w0 (x : GSort) (y : Int) : GSort := { x with Item := y }
theorem GSort.upd0 (x : GSort) (y : Int) : Upd (GSort.cs x) 0 ([(AV.int y)]) (GSort.cs { x with Item := y }) := Upd.head (show ([(AV.int y)]).length = ([(AV.int x.Item)]).length from rfl)
theorem GSort.sub1 (x : GSort) : Sub (GSort.cs x) 1 ([(AV.bool x.Down)]) := Sub.skip (k := 1) (show ([(AV.int x.Item)]).length = 1 from rfl) (Sub.refl _)
abbrev GSort.w1 (x : GSort) (y : Bool) : GSort := { x with Down := y }
theorem GSort.upd1 (x : GSort) (y : Bool) : Upd (GSort.cs x) 1 ([(AV.bool y)]) (GSort.cs { x with Down := y }) := Upd.skip (k := 1) (show ([(AV.int x.Item)]).length = 1 from rfl) (Upd.refl (show ([(AV.bool y)]).length = ([(AV.bool x.Down)]).length from rfl))
theorem GSort.nl (x : GSort) : (GSort.cs x).all noLst1 = true := nlA rfl (rfl)
structure GQuery where
  Items : List GItem
  Where : GExpr
  Group : List UInt8
  Sorts : List GSort
  Cut : Bool
  Most : Int
def GQuery.zero : GQuery := ⟨[], GExpr.zero, [], [], false, (0 : Int)⟩
instance : Inhabited GQuery := ⟨GQuery.zero⟩
def GQuery.cs (x : GQuery) : List AV := ([((fun q : List GItem => AV.lst (q.flatMap GItem.cs) q.length) x.Items)]) ++ ((GExpr.cs x.Where) ++ (([(AV.txt x.Group)]) ++ (([((fun q : List GSort => AV.lst (q.flatMap GSort.cs) q.length) x.Sorts)]) ++ (([(AV.bool x.Cut)]) ++ ([(AV.int x.Most)])))))
theorem GQuery.len (x : GQuery) : (GQuery.cs x).length = 12 := by
  simp only [GQuery.cs, List.length_append]
  rw [show ([((fun q : List GItem => AV.lst (q.flatMap GItem.cs) q.length) x.Items)]).length = 1 from (show ([((fun q : List GItem => AV.lst (q.flatMap GItem.cs) q.length) x.Items)]).length = 1 from rfl), show (GExpr.cs x.Where).length = 7 from (GExpr.len x.Where), show ([(AV.txt x.Group)]).length = 1 from (show ([(AV.txt x.Group)]).length = 1 from rfl), show ([((fun q : List GSort => AV.lst (q.flatMap GSort.cs) q.length) x.Sorts)]).length = 1 from (show ([((fun q : List GSort => AV.lst (q.flatMap GSort.cs) q.length) x.Sorts)]).length = 1 from rfl), show ([(AV.bool x.Cut)]).length = 1 from (show ([(AV.bool x.Cut)]).length = 1 from rfl), show ([(AV.int x.Most)]).length = 1 from (show ([(AV.int x.Most)]).length = 1 from rfl)]
theorem GQuery.sub0 (x : GQuery) : Sub (GQuery.cs x) 0 ([((fun q : List GItem => AV.lst (q.flatMap GItem.cs) q.length) x.Items)]) := Sub.head _ _
abbrev GQuery.w0 (x : GQuery) (y : List GItem) : GQuery := { x with Items := y }
theorem GQuery.upd0 (x : GQuery) (y : List GItem) : Upd (GQuery.cs x) 0 ([((fun q : List GItem => AV.lst (q.flatMap GItem.cs) q.length) y)]) (GQuery.cs { x with Items := y }) := Upd.head (show ([((fun q : List GItem => AV.lst (q.flatMap GItem.cs) q.length) y)]).length = ([((fun q : List GItem => AV.lst (q.flatMap GItem.cs) q.length) x.Items)]).length from rfl)
theorem GQuery.sub1 (x : GQuery) : Sub (GQuery.cs x) 1 (GExpr.cs x.Where) := Sub.skip (k := 1) (show ([((fun q : List GItem => AV.lst (q.flatMap GItem.cs) q.length) x.Items)]).length = 1 from rfl) (Sub.head _ _)
abbrev GQuery.w1 (x : GQuery) (y : GExpr) : GQuery := { x with Where := y }
theorem GQuery.upd1 (x : GQuery) (y : GExpr) : Upd (GQuery.cs x) 1 (GExpr.cs y) (GQuery.cs { x with Where := y }) := Upd.skip (k := 1) (show ([((fun q : List GItem => AV.lst (q.flatMap GItem.cs) q.length) x.Items)]).length = 1 from rfl) (Upd.head ((GExpr.len y).trans (GExpr.len x.Where).symm))
theorem GQuery.sub2 (x : GQuery) : Sub (GQuery.cs x) 8 ([(AV.txt x.Group)]) := Sub.skip (k := 1) (show ([((fun q : List GItem => AV.lst (q.flatMap GItem.cs) q.length) x.Items)]).length = 1 from rfl) (Sub.skip (k := 7) (GExpr.len x.Where) (Sub.head _ _))
abbrev GQuery.w2 (x : GQuery) (y : List UInt8) : GQuery := { x with Group := y }
theorem GQuery.upd2 (x : GQuery) (y : List UInt8) : Upd (GQuery.cs x) 8 ([(AV.txt y)]) (GQuery.cs { x with Group := y }) := Upd.skip (k := 1) (show ([((fun q : List GItem => AV.lst (q.flatMap GItem.cs) q.length) x.Items)]).length = 1 from rfl) (Upd.skip (k := 7) (GExpr.len x.Where) (Upd.head (show ([(AV.txt y)]).length = ([(AV.txt x.Group)]).length from rfl)))
theorem GQuery.sub3 (x : GQuery) : Sub (GQuery.cs x) 9 ([((fun q : List GSort => AV.lst (q.flatMap GSort.cs) q.length) x.Sorts)]) := Sub.skip (k := 1) (show ([((fun q : List GItem => AV.lst (q.flatMap GItem.cs) q.length) x.Items)]).length = 1 from rfl) (Sub.skip (k := 7) (GExpr.len x.Where) (Sub.skip (k := 1) (show ([(AV.txt x.Group)]).length = 1 from rfl) (Sub.head _ _)))
abbrev GQuery.w3 (x : GQuery) (y : List GSort) : GQuery := { x with Sorts := y }
theorem GQuery.upd3 (x : GQuery) (y : List GSort) : Upd (GQuery.cs x) 9 ([((fun q : List GSort => AV.lst (q.flatMap GSort.cs) q.length) y)]) (GQuery.cs { x with Sorts := y }) := Upd.skip (k := 1) (show ([((fun q : List GItem => AV.lst (q.flatMap GItem.cs) q.length) x.Items)]).length = 1 from rfl) (Upd.skip (k := 7) (GExpr.len x.Where) (Upd.skip (k := 1) (show ([(AV.txt x.Group)]).length = 1 from rfl) (Upd.head (show ([((fun q : List GSort => AV.lst (q.flatMap GSort.cs) q.length) y)]).length = ([((fun q : List GSort => AV.lst (q.flatMap GSort.cs) q.length) x.Sorts)]).length from rfl))))
theorem GQuery.sub4 (x : GQuery) : Sub (GQuery.cs x) 10 ([(AV.bool x.Cut)]) := Sub.skip (k := 1) (show ([((fun q : List GItem => AV.lst (q.flatMap GItem.cs) q.length) x.Items)]).length = 1 from rfl) (Sub.skip (k := 7) (GExpr.len x.Where) (Sub.skip (k := 1) (show ([(AV.txt x.Group)]).length = 1 from rfl) (Sub.skip (k := 1) (show ([((fun q : List GSort => AV.lst (q.flatMap GSort.cs) q.length) x.Sorts)]).length = 1 from rfl) (Sub.head _ _))))
abbrev GQuery.w4 (x : GQuery) (y : Bool) : GQuery := { x with Cut := y }
theorem GQuery.upd4 (x : GQuery) (y : Bool) : Upd (GQuery.cs x) 10 ([(AV.bool y)]) (GQuery.cs { x with Cut := y }) := Upd.skip (k := 1) (show ([((fun q : List GItem => AV.lst (q.flatMap GItem.cs) q.length) x.Items)]).length = 1 from rfl) (Upd.skip (k := 7) (GExpr.len x.Where) (Upd.skip (k := 1) (show ([(AV.txt x.Group)]).length = 1 from rfl) (Upd.skip (k := 1) (show ([((fun q : List GSort => AV.lst (q.flatMap GSort.cs) q.length) x.Sorts)]).length = 1 from rfl) (Upd.head (show ([(AV.bool y)]).length = ([(AV.bool x.Cut)]).length from rfl)))))
theorem GQuery.sub5 (x : GQuery) : Sub (GQuery.cs x) 11 ([(AV.int x.Most)]) := Sub.skip (k := 1) (show ([((fun q : List GItem => AV.lst (q.flatMap GItem.cs) q.length) x.Items)]).length = 1 from rfl) (Sub.skip (k := 7) (GExpr.len x.Where) (Sub.skip (k := 1) (show ([(AV.txt x.Group)]).length = 1 from rfl) (Sub.skip (k := 1) (show ([((fun q : List GSort => AV.lst (q.flatMap GSort.cs) q.length) x.Sorts)]).length = 1 from rfl) (Sub.skip (k := 1) (show ([(AV.bool x.Cut)]).length = 1 from rfl) (Sub.refl _)))))
abbrev GQuery.w5 (x : GQuery) (y : Int) : GQuery := { x with Most := y }
theorem GQuery.upd5 (x : GQuery) (y : Int) : Upd (GQuery.cs x) 11 ([(AV.int y)]) (GQuery.cs { x with Most := y }) := Upd.skip (k := 1) (show ([((fun q : List GItem => AV.lst (q.flatMap GItem.cs) q.length) x.Items)]).length = 1 from rfl) (Upd.skip (k := 7) (GExpr.len x.Where) (Upd.skip (k := 1) (show ([(AV.txt x.Group)]).length = 1 from rfl) (Upd.skip (k := 1) (show ([((fun q : List GSort => AV.lst (q.flatMap GSort.cs) q.length) x.Sorts)]).length = 1 from rfl) (Upd.skip (k := 1) (show ([(AV.bool x.Cut)]).length = 1 from rfl) (Upd.refl (show ([(AV.int y)]).length = ([(AV.int x.Most)]).length from rfl))))))
theorem in_54 : Info Tryd.prog 54 2 16 (.agg #[.int .i64 0, .bool false]) := by unfold Info; kernel_rfl
theorem one_54 : (.agg #[.int .i64 0, .bool false] : Value).cells.all (·.oneCell') = true := by kernel_rfl
theorem zc_54 : ((.agg #[.int .i64 0, .bool false] : Value).cells.toList.map zcell) = Gkinds_sort.cs Gkinds_sort.zero := by rfl
theorem pl_54 : placesOf Tryd.prog 54 = some [(0, 1), (1, 1)] := by kernel_rfl
theorem in_4 : Info Tryd.prog 4 1 1 (.bool false) := by unfold Info; kernel_rfl
theorem one_4 : (.bool false : Value).cells.all (·.oneCell') = true := by kernel_rfl
theorem zc_4 : ((.bool false : Value).cells.toList.map zcell) = [(AV.bool false)] := by rfl
theorem in_83 : Info Tryd.prog 83 4 32 (.agg #[.int .i64 0, .bool false, .int .i64 0, .bool false]) := by unfold Info; kernel_rfl
theorem one_83 : (.agg #[.int .i64 0, .bool false, .int .i64 0, .bool false] : Value).cells.all (·.oneCell') = true := by kernel_rfl
theorem zc_83 : ((.agg #[.int .i64 0, .bool false, .int .i64 0, .bool false] : Value).cells.toList.map zcell) = ((Vector.replicate 2 Gkinds_sort.zero).toList).flatMap Gkinds_sort.cs := by rfl

/-! expr.nodes -/
noncomputable def g_expr_nodes_l0 (e0 : GExpr) (R' : GExpr → Option Int) : Int → Option (Int ⊕ (Int ⊕ Unit))
  | t15_0 => (if t15_0 < (e0.Args.length : Int) then if 0 ≤ t15_0 ∧ t15_0 < (e0.Args.length : Int) then (R' (lrd e0.Args t15_0.toNat)).bind fun r'2 => (if r'2 ≠ (0 : Int) then some (.inr (.inl r'2)) else some (.inl (w64 (t15_0 + (1 : Int))))) else none else some (.inr (.inr ())))
noncomputable def g_expr_nodes_b (R' : GExpr → Option Int) (e0 : GExpr) : Option (Int) :=
  (g_expr_node e0).bind fun r'1 => (if r'1 ≠ (0 : Int) then some r'1 else (loopO (g_expr_nodes_l0 e0 R') (0 : Int)).bind fun o'6 => match o'6 with | .inl y'7 => some y'7 | .inr (y'8) => some (0 : Int))
noncomputable def g_expr_nodes : Nat → GExpr → Option Int
  | 0, _ => none
  | fu + 1, e0 => g_expr_nodes_b (g_expr_nodes fu) e0
set_option maxHeartbeats 4000000 in
set_option maxRecDepth 100000 in
theorem g_expr_nodes_ac0 {R' : GExpr → Option Int} (hR : ∀ {e0 : GExpr} {r : Int}, R' e0 = some r → ACp Tryd.prog 44 [(.agg (GExpr.cs e0))] (AV.int r)) {e0 : GExpr} {r : Int} (H : g_expr_nodes_b R' e0 = some r) : ACp Tryd.prog 44 [(.agg (GExpr.cs e0))] (AV.int r) := by
 refine ACp_of (AC2_of_body (vs := [.i r]) Tryd.func44 rfl rfl (Nat.le_of_ble_eq_true rfl) rfl ?_) (fun _ => .same _)
 unfold g_expr_nodes_b at H
 refine as2 [(0, .g (GExpr.cs e0))] [] rfl rfl rfl ?_
 refine sg [0, 1] rfl ?_
 refine r_op rfl rfl (MakeD.opD (n_box 1 rfl rfl) rfl rfl rfl rfl) ?_
 refine rp rfl rfl (p_asg rfl rfl) ?_
 refine rz [(1, .q 1 (0))] [(1, .pure (GExpr.cs e0))] rfl rfl rfl ?_
 refine AW2_seq ?_
 refine sg [0, 1, 2] rfl ?_
 refine rp rfl rfl (u_lda rfl rfl Tryd.underlying27 rfl in_27 rfl (Nat.succ_pos _) (Sub.refl _) (GExpr.len e0)) ?_
 refine bindK H fun r'1 h1 H => ?_
 refine rp rfl rfl (p_callp rfl rfl rfl Tryd.func63 rfl rfl (g_expr_node_ac h1) ⟨rfl, trivial⟩) ?_
 refine rp rfl rfl (p_asg rfl rfl) ?_
 refine rz [(1, .q 1 (0)), (3, .i r'1)] [(1, .pure (GExpr.cs e0))] rfl rfl rfl ?_
 refine sg [0, 1] rfl ?_
 refine rp rfl rfl (p_move rfl rfl) ?_
 refine rp rfl rfl (p_ine rfl rfl rfl) ?_
 refine rz [(1, .q 1 (0)), (3, .i r'1), (10, .b (decide (r'1 ≠ (0 : Int))))] [(1, .pure (GExpr.cs e0))] rfl rfl rfl ?_
 refine AW2_if (p := r'1 ≠ (0 : Int)) rfl (fun h2 => ?_) (fun h2 => ?_)
 ·replace H := ite_then h2 H
  refine sg [0, 1] rfl ?_
  refine rp rfl rfl (p_move rfl rfl) ?_
  refine rp rfl rfl (p_asg rfl rfl) ?_
  refine rz [(2, .i r'1)] [] rfl rfl rfl ?_
  refine AW2_ret ?_
  have hz := some_elim H
  subst hz
  exact ⟨⟨res_tmp (.same _), trivial⟩, trivial⟩
 ·replace H := ite_else h2 H
  refine as2 [(1, .q 1 (0))] [(1, .pure (GExpr.cs e0))] rfl rfl rfl ?_
  refine AW2_skip ?_
  refine AW2_seq ?_
  refine sg [0, 1, 2, 3] rfl ?_
  refine rp rfl rfl (u_fa rfl rfl Tryd.underlying27 rfl in_25 (Nat.succ_ne_zero _) rfl rfl (ne_of_lt (n := 0) (Nat.lt_of_lt_of_eq (by decide) (Eq.symm (GExpr.len e0))))) ?_
  refine rp rfl rfl (u_ld rfl rfl Tryd.underlying25 rfl rfl ((Sub.refl _).trans (GExpr.sub3 e0))) ?_
  refine rp rfl rfl (p_lenl rfl Tryd.underlying25 rfl rfl) ?_
  refine rp rfl rfl (p_move rfl rfl) ?_
  refine rz [(13, .p ((fun q : List GExpr => AV.lst (q.flatMap GExpr.cs) q.length) e0.Args)), (14, .i (e0.Args.length : Int)), (15, .i (0 : Int))] [] rfl rfl rfl ?_
  refine AW2_block ?_
  refine as2 [(13, .p ((fun q : List GExpr => AV.lst (q.flatMap GExpr.cs) q.length) e0.Args)), (14, .i (e0.Args.length : Int)), (15, .i (0 : Int))] [] rfl rfl rfl ?_
  refine bindK H fun o'6 h7 H => ?_
  refine AW2_loopO (fun a'3 : Int => (⟨[(13, .p ((fun q : List GExpr => AV.lst (q.flatMap GExpr.cs) q.length) e0.Args)), (14, .i (e0.Args.length : Int)), (15, .i a'3)], [], 25⟩ : TS)) (fun (o : Int ⊕ Unit) e s' => match o with | .inl y'4 => e = Go.Exit.ret ∧ ResAll Tryd.prog s' [ResultVar.tmp 2] [.i y'4] ∧ HFits s' [] | .inr (y'5) => e = Go.Exit.exit 0 ∧ s' = (⟨[], [], 25⟩ : TS)) h7 rfl (fun t15_0 x hx => ?_) (fun e s' hs => ?_)
  ·clear H
   have H := hx
   clear hx
   unfold g_expr_nodes_l0 at H
   refine sg [0] rfl ?_
   refine rp rfl rfl (p_bin rfl rfl rfl rfl) ?_
   refine rz [(13, .p ((fun q : List GExpr => AV.lst (q.flatMap GExpr.cs) q.length) e0.Args)), (14, .i (e0.Args.length : Int)), (15, .i t15_0), (16, .b (decide (t15_0 < (e0.Args.length : Int))))] [] rfl rfl rfl ?_
   refine AW2_seq ?_
   refine AW2_if (p := t15_0 < (e0.Args.length : Int)) rfl (fun h3 => ?_) (fun h3 => ?_)
   ·replace H := ite_then h3 H
    refine as2 [(13, .p ((fun q : List GExpr => AV.lst (q.flatMap GExpr.cs) q.length) e0.Args)), (14, .i (e0.Args.length : Int)), (15, .i t15_0)] [] rfl rfl rfl ?_
    refine AW2_skip ?_
    refine AW2_seq ?_
    refine AW2_block ?_
    refine sg [0, 1, 2, 3] rfl ?_
    refine chkK H fun h4 H => ?_
    refine rp rfl rfl (u_ixl rfl rfl Tryd.underlying25 in_27 rfl rfl (ixe h4) (ixn h4) (fne (fun x => (GExpr.len x)) (by decide) (ixn h4))) ?_
    refine rp rfl rfl (u_lda rfl rfl Tryd.underlying27 rfl in_27 rfl (Nat.succ_pos _) (Sub.fm default (fun x => (GExpr.len x)) (ixn h4)) (GExpr.len (lrd e0.Args t15_0.toNat))) ?_
    refine r_op rfl rfl (MakeD.opD (u_alloc 5 rfl in_27 one_27 zc_27) rfl rfl rfl rfl) ?_
    refine r_op rfl rfl (u_st rfl rfl rfl rfl rfl in_27 (GExpr.len (lrd e0.Args t15_0.toNat)) (ne_of_lt (n := 0) (Nat.lt_of_lt_of_eq (by decide) (Eq.symm (GExpr.len GExpr.zero)))) (Upd.refl ((GExpr.len (lrd e0.Args t15_0.toNat)).trans (GExpr.len GExpr.zero).symm))) ?_
    refine rz [(5, .q 5 (0)), (13, .p ((fun q : List GExpr => AV.lst (q.flatMap GExpr.cs) q.length) e0.Args)), (14, .i (e0.Args.length : Int)), (15, .i t15_0)] [(5, .pure (GExpr.cs (lrd e0.Args t15_0.toNat)))] rfl rfl rfl ?_
    refine sg [0, 1, 2] rfl ?_
    refine rp rfl rfl (u_lda rfl rfl Tryd.underlying27 rfl in_27 rfl (Nat.succ_pos _) (Sub.refl _) (GExpr.len (lrd e0.Args t15_0.toNat))) ?_
    refine bindK H fun r'2 h5 H => ?_
    refine rp rfl rfl (p_callp rfl rfl rfl Tryd.func44 rfl rfl (hR h5) ⟨rfl, trivial⟩) ?_
    refine rp rfl rfl (p_asg rfl rfl) ?_
    refine rz [(6, .i r'2), (13, .p ((fun q : List GExpr => AV.lst (q.flatMap GExpr.cs) q.length) e0.Args)), (14, .i (e0.Args.length : Int)), (15, .i t15_0)] [] rfl rfl rfl ?_
    refine sg [0, 1] rfl ?_
    refine rp rfl rfl (p_move rfl rfl) ?_
    refine rp rfl rfl (p_ine rfl rfl rfl) ?_
    refine rz [(6, .i r'2), (13, .p ((fun q : List GExpr => AV.lst (q.flatMap GExpr.cs) q.length) e0.Args)), (14, .i (e0.Args.length : Int)), (15, .i t15_0), (22, .b (decide (r'2 ≠ (0 : Int))))] [] rfl rfl rfl ?_
    refine AW2_if (p := r'2 ≠ (0 : Int)) rfl (fun h6 => ?_) (fun h6 => ?_)
    ·replace H := ite_then h6 H
     refine sg [0, 1] rfl ?_
     refine rp rfl rfl (p_move rfl rfl) ?_
     refine rp rfl rfl (p_asg rfl rfl) ?_
     refine rz [(2, .i r'2)] [] rfl rfl rfl ?_
     refine AW2_ret ?_
     have hz := some_elim H
     subst hz
     exact ⟨rfl, ⟨res_tmp (.same _), trivial⟩, trivial⟩
    ·replace H := ite_else h6 H
     refine as2 [(13, .p ((fun q : List GExpr => AV.lst (q.flatMap GExpr.cs) q.length) e0.Args)), (14, .i (e0.Args.length : Int)), (15, .i t15_0)] [] rfl rfl rfl ?_
     refine AW2_skip ?_
     refine AW2_reg [0, 1] rfl ?_
     refine rp rfl rfl (p_bin rfl rfl rfl rfl) ?_
     refine rp rfl rfl (p_move rfl rfl) ?_
     refine rz [(13, .p ((fun q : List GExpr => AV.lst (q.flatMap GExpr.cs) q.length) e0.Args)), (14, .i (e0.Args.length : Int)), (15, .i (w64 (t15_0 + (1 : Int))))] [] rfl rfl rfl ?_
     have hz := some_elim H
     subst hz
     exact ⟨rfl, rfl⟩
   ·replace H := ite_else h3 H
    refine as2 [] [] rfl rfl rfl ?_
    refine AW2_exit ?_
    refine thenQ2_exit ?_
    have hz := some_elim H
    subst hz
    exact ⟨rfl, rfl⟩
  ·rcases o'6 with y'7 | y'8
   ·obtain ⟨rfl, hs⟩ := hs
    refine ⟨by simp, ?_⟩
    have hz := some_elim H
    subst hz
    exact ⟨hs.1, hs.2⟩
   ·obtain ⟨rfl, rfl⟩ := hs
    refine ⟨by simp, ?_⟩
    refine blockQ2_exit ?_
    refine sg [0] rfl ?_
    refine rp rfl rfl (p_asg rfl rfl) ?_
    refine rz [(2, .i (0 : Int))] [] rfl rfl rfl ?_
    refine AW2_ret ?_
    have hz := some_elim H
    subst hz
    exact ⟨⟨res_tmp (.same _), trivial⟩, trivial⟩
theorem g_expr_nodes_acN : ∀ (fu : Nat) {e0 : GExpr} {r : Int}, g_expr_nodes fu e0 = some r → ACp Tryd.prog 44 [(.agg (GExpr.cs e0))] (AV.int r)
 | 0, _, _, H => (by cases H)
 | fu + 1, _, _, H => g_expr_nodes_ac0 (g_expr_nodes_acN fu) H
theorem g_expr_nodes_ac {e0 : GExpr} {r : Int} (H : g_expr_nodes 100000 e0 = some r) : ACp Tryd.prog 44 [(.agg (GExpr.cs e0))] (AV.int r) := g_expr_nodes_acN 100000 H

/-! expr.Check -/
noncomputable def g_expr_Check (e0 : GExpr) : Option (Int) :=
  (g_expr_size 100000 e0 (1 : Int)).bind fun r'1 => (if (!r'1.2) = true then some (1 : Int) else (g_expr_nodes 100000 e0).bind fun r'2 => some r'2)
set_option maxHeartbeats 4000000 in
set_option maxRecDepth 100000 in
theorem g_expr_Check_ac {e0 : GExpr} {r : Int} (H : g_expr_Check e0 = some r) : ACp Tryd.prog 18 [(.agg (GExpr.cs e0))] (AV.int r) := by
 refine ACp_of (AC2_of_body (vs := [.i r]) Tryd.func18 rfl rfl (Nat.le_of_ble_eq_true rfl) rfl ?_) (fun _ => .same _)
 unfold g_expr_Check at H
 refine as2 [(0, .g (GExpr.cs e0))] [] rfl rfl rfl ?_
 refine sg [0, 1] rfl ?_
 refine r_op rfl rfl (MakeD.opD (n_box 1 rfl rfl) rfl rfl rfl rfl) ?_
 refine rp rfl rfl (p_asg rfl rfl) ?_
 refine rz [(1, .q 1 (0))] [(1, .pure (GExpr.cs e0))] rfl rfl rfl ?_
 refine AW2_seq ?_
 refine sg [0, 1, 2, 3, 4, 5, 6] rfl ?_
 refine rp rfl rfl (u_lda rfl rfl Tryd.underlying27 rfl in_27 rfl (Nat.succ_pos _) (Sub.refl _) (GExpr.len e0)) ?_
 refine bindK H fun r'1 h1 H => ?_
 refine rp rfl rfl (p_callp rfl rfl rfl Tryd.func43 rfl rfl (g_expr_size_ac h1) ⟨rfl, rfl, trivial⟩) ?_
 refine rp rfl rfl (p_move rfl rfl) ?_
 refine rp rfl rfl (p_ext rfl rfl rfl rfl) ?_
 refine rp rfl rfl (p_ext rfl rfl rfl rfl) ?_
 refine rp rfl rfl (p_asg rfl rfl) ?_
 refine rp rfl rfl (p_asg rfl rfl) ?_
 refine rz [(1, .q 1 (0)), (4, .b r'1.2)] [(1, .pure (GExpr.cs e0))] rfl rfl rfl ?_
 refine sg [0, 1] rfl ?_
 refine rp rfl rfl (p_move rfl rfl) ?_
 refine rp rfl rfl (p_not rfl rfl) ?_
 refine rz [(1, .q 1 (0)), (11, .b (!r'1.2))] [(1, .pure (GExpr.cs e0))] rfl rfl rfl ?_
 refine AW2_cond rfl (fun h2 => ?_) (fun h2 => ?_)
 ·replace H := ite_then h2 H
  refine sg [0] rfl ?_
  refine rp rfl rfl (p_asg rfl rfl) ?_
  refine rz [(2, .i (1 : Int))] [] rfl rfl rfl ?_
  refine AW2_ret ?_
  have hz := some_elim H
  subst hz
  exact ⟨⟨res_tmp (.same _), trivial⟩, trivial⟩
 ·replace H := ite_else (ne_true h2) H
  refine as2 [(1, .q 1 (0))] [(1, .pure (GExpr.cs e0))] rfl rfl rfl ?_
  refine AW2_skip ?_
  refine sg [0, 1, 2] rfl ?_
  refine rp rfl rfl (u_lda rfl rfl Tryd.underlying27 rfl in_27 rfl (Nat.succ_pos _) (Sub.refl _) (GExpr.len e0)) ?_
  refine bindK H fun r'2 h3 H => ?_
  refine rp rfl rfl (p_callp rfl rfl rfl Tryd.func44 rfl rfl (g_expr_nodes_ac h3) ⟨rfl, trivial⟩) ?_
  refine rp rfl rfl (p_asg rfl rfl) ?_
  refine rz [(2, .i r'2)] [] rfl rfl rfl ?_
  refine AW2_ret ?_
  have hz := some_elim H
  subst hz
  exact ⟨⟨res_tmp (.same _), trivial⟩, trivial⟩

/-! kinds.sort).fits -/
noncomputable def g_kinds_sort_fits (s0 : Gkinds_sort) (kind1 : Int) : Option (Bool) :=
  some (decide ((s0.kind_ = kind1) ∨ (s0.kind_ = (0 : Int))))
set_option maxHeartbeats 4000000 in
set_option maxRecDepth 100000 in
theorem g_kinds_sort_fits_ac {s0 : Gkinds_sort} {kind1 : Int} {r : Bool} (H : g_kinds_sort_fits s0 kind1 = some r) : ACp Tryd.prog 70 [(.agg (Gkinds_sort.cs s0)), (AV.int kind1)] (AV.bool r) := by
 refine ACp_of (AC2_of_body (vs := [.b r]) Tryd.func70 rfl rfl (Nat.le_of_ble_eq_true rfl) rfl ?_) (fun _ => .same _)
 unfold g_kinds_sort_fits at H
 refine as2 [(0, .g (Gkinds_sort.cs s0)), (1, .i kind1)] [] rfl rfl rfl ?_
 refine sg [0, 1] rfl ?_
 refine r_op rfl rfl (MakeD.opD (n_box 2 rfl rfl) rfl rfl rfl rfl) ?_
 refine rp rfl rfl (p_asg rfl rfl) ?_
 refine rz [(1, .i kind1), (2, .q 2 (0))] [(2, .pure (Gkinds_sort.cs s0))] rfl rfl rfl ?_
 refine AW2_seq ?_
 refine AW2_mid (⟨[(4, .b (decide ((s0.kind_ = kind1) ∨ (s0.kind_ = (0 : Int)))))], [], 14⟩ : TS) ?_ ?_
 ·refine AW2_reg [0, 1, 2, 3, 4, 5, 6, 7, 8, 9] rfl ?_
  refine rp rfl rfl (u_fa rfl rfl Tryd.underlying54 rfl in_3 (Nat.succ_ne_zero _) rfl rfl (ne_of_lt (n := 0) (Nat.lt_of_lt_of_eq (by decide) (Eq.symm (Gkinds_sort.len s0))))) ?_
  refine rp rfl rfl (u_ld rfl rfl Tryd.underlying3 rfl rfl ((Sub.refl _).trans (Gkinds_sort.sub0 s0))) ?_
  refine rp rfl rfl (p_move rfl rfl) ?_
  refine rp rfl rfl (p_ieq rfl rfl rfl) ?_
  refine rp rfl rfl (p_move rfl rfl) ?_
  refine (Classical.em (s0.kind_ = kind1)).elim (fun h1 => ?_) (fun h1 => ?_)
  ·refine r_off rfl rfl rfl rfl (decide_eq_true h1) rfl rfl ?_
   refine r_off rfl rfl rfl rfl (decide_eq_true h1) rfl rfl ?_
   refine r_off rfl rfl rfl rfl (decide_eq_true h1) rfl rfl ?_
   refine rp rfl rfl (p_pkt rfl rfl (decide_eq_true h1) (tb (decide_eq_true (p := (s0.kind_ = kind1) ∨ (s0.kind_ = (0 : Int))) (Or.inl h1)).symm)) ?_
   refine rp rfl rfl (p_asg rfl rfl) ?_
   refine rs [(4, .b (decide ((s0.kind_ = kind1) ∨ (s0.kind_ = (0 : Int)))))] [] rfl rfl rfl ?_
   exact RunW_nil rfl
  ·refine r_on rfl rfl rfl rfl (decide_eq_false h1) rfl (PureD.opD (u_fa rfl rfl Tryd.underlying54 rfl in_3 (Nat.succ_ne_zero _) rfl rfl (ne_of_lt (n := 0) (Nat.lt_of_lt_of_eq (by decide) (Eq.symm (Gkinds_sort.len s0)))))) ?_
   refine r_on rfl rfl rfl rfl (decide_eq_false h1) rfl (PureD.opD (u_ld rfl rfl Tryd.underlying3 rfl rfl ((Sub.refl _).trans (Gkinds_sort.sub0 s0)))) ?_
   refine r_on rfl rfl rfl rfl (decide_eq_false h1) rfl (PureD.opD (p_ieq rfl rfl rfl)) ?_
   refine rp rfl rfl (p_pkf rfl rfl (decide_eq_false h1) (tb ((or_l (p := s0.kind_ = kind1) (q := s0.kind_ = (0 : Int)) h1)))) ?_
   refine rp rfl rfl (p_asg rfl rfl) ?_
   refine rs [(4, .b (decide ((s0.kind_ = kind1) ∨ (s0.kind_ = (0 : Int)))))] [] rfl rfl rfl ?_
   exact RunW_nil rfl
 ·refine AW2_ret ?_
  have hz := some_elim H
  subst hz
  exact ⟨⟨res_tmp (.same _), trivial⟩, trivial⟩

/-! kinds.sort).with -/
noncomputable def g_kinds_sort_with (s0 : Gkinds_sort) (t1 : Gkinds_sort) : Option (Gkinds_sort) :=
  ((if s0.kind_ = (0 : Int) then some ({ s0 with kind_ := t1.kind_ }) else some s0)).bind fun j'1 => letO ({ j'1 with null_ := (decide ((j'1.null_ = true) ∨ (t1.null_ = true))) }) fun s2'2 => some s2'2
set_option maxHeartbeats 4000000 in
set_option maxRecDepth 100000 in
theorem g_kinds_sort_with_ac {s0 : Gkinds_sort} {t1 : Gkinds_sort} {r : Gkinds_sort} (H : g_kinds_sort_with s0 t1 = some r) : ACp Tryd.prog 71 [(.agg (Gkinds_sort.cs s0)), (.agg (Gkinds_sort.cs t1))] (.agg (Gkinds_sort.cs r)) := by
 refine ACp_of (AC2_of_body (vs := [.g (Gkinds_sort.cs r)]) Tryd.func71 rfl rfl (Nat.le_of_ble_eq_true rfl) rfl ?_) (fun _ => .same _)
 unfold g_kinds_sort_with at H
 refine as2 [(0, .g (Gkinds_sort.cs s0)), (1, .g (Gkinds_sort.cs t1))] [] rfl rfl rfl ?_
 refine sg [0, 1, 2] rfl ?_
 refine r_op rfl rfl (MakeD.opD (n_box 2 rfl rfl) rfl rfl rfl rfl) ?_
 refine r_op rfl rfl (MakeD.opD (n_box 3 rfl rfl) rfl rfl rfl rfl) ?_
 refine r_op rfl rfl (MakeD.opD (u_alloc 4 rfl in_54 one_54 zc_54) rfl rfl rfl rfl) ?_
 refine rz [(2, .q 2 (0)), (3, .q 3 (0)), (4, .q 4 (0))] [(2, .pure (Gkinds_sort.cs s0)), (3, .pure (Gkinds_sort.cs t1)), (4, .pure (Gkinds_sort.cs Gkinds_sort.zero))] rfl rfl rfl ?_
 refine AW2_seq ?_
 refine bindK H fun j'1 h1 H => ?_
 refine AW2_mid (⟨[(2, .q 2 (0)), (3, .q 3 (0)), (4, .q 4 (0))], [(2, .pure (Gkinds_sort.cs j'1)), (3, .pure (Gkinds_sort.cs t1)), (4, .pure (Gkinds_sort.cs Gkinds_sort.zero))], 19⟩ : TS) ?_ ?_
 ·clear H
  have H := h1
  clear h1
  refine sg [0, 1, 2] rfl ?_
  refine rp rfl rfl (u_fa rfl rfl Tryd.underlying54 rfl in_3 (Nat.succ_ne_zero _) rfl rfl (ne_of_lt (n := 0) (Nat.lt_of_lt_of_eq (by decide) (Eq.symm (Gkinds_sort.len s0))))) ?_
  refine rp rfl rfl (u_ld rfl rfl Tryd.underlying3 rfl rfl ((Sub.refl _).trans (Gkinds_sort.sub0 s0))) ?_
  refine rp rfl rfl (p_ieq rfl rfl rfl) ?_
  refine rz [(2, .q 2 (0)), (3, .q 3 (0)), (4, .q 4 (0)), (7, .b (decide (s0.kind_ = (0 : Int))))] [(2, .pure (Gkinds_sort.cs s0)), (3, .pure (Gkinds_sort.cs t1)), (4, .pure (Gkinds_sort.cs Gkinds_sort.zero))] rfl rfl rfl ?_
  refine AW2_if (p := s0.kind_ = (0 : Int)) rfl (fun h2 => ?_) (fun h2 => ?_)
  ·replace H := ite_then h2 H
   refine AW2_reg [0, 1, 2, 3] rfl ?_
   refine rp rfl rfl (u_fa rfl rfl Tryd.underlying54 rfl in_3 (Nat.succ_ne_zero _) rfl rfl (ne_of_lt (n := 0) (Nat.lt_of_lt_of_eq (by decide) (Eq.symm (Gkinds_sort.len t1))))) ?_
   refine rp rfl rfl (u_ld rfl rfl Tryd.underlying3 rfl rfl ((Sub.refl _).trans (Gkinds_sort.sub0 t1))) ?_
   refine rp rfl rfl (u_fa rfl rfl Tryd.underlying54 rfl in_3 (Nat.succ_ne_zero _) rfl rfl (ne_of_lt (n := 0) (Nat.lt_of_lt_of_eq (by decide) (Eq.symm (Gkinds_sort.len s0))))) ?_
   refine r_op rfl rfl (u_st rfl rfl rfl rfl rfl in_3 rfl (ne_of_lt (n := 0) (Nat.lt_of_lt_of_eq (by decide) (Eq.symm (Gkinds_sort.len s0)))) (Upd.trans (Sub.refl _) (Gkinds_sort.upd0 s0 t1.kind_) (Upd.refl ((Gkinds_sort.len ((Gkinds_sort.w0 s0 t1.kind_))).trans (Gkinds_sort.len s0).symm)))) ?_
   refine rz [(2, .q 2 (0)), (3, .q 3 (0)), (4, .q 4 (0))] [(2, .pure (Gkinds_sort.cs ((Gkinds_sort.w0 s0 t1.kind_)))), (3, .pure (Gkinds_sort.cs t1)), (4, .pure (Gkinds_sort.cs Gkinds_sort.zero))] rfl rfl rfl ?_
   have hz := some_elim H
   subst hz
   exact rfl
  ·replace H := ite_else h2 H
   refine as2 [(2, .q 2 (0)), (3, .q 3 (0)), (4, .q 4 (0))] [(2, .pure (Gkinds_sort.cs s0)), (3, .pure (Gkinds_sort.cs t1)), (4, .pure (Gkinds_sort.cs Gkinds_sort.zero))] rfl rfl rfl ?_
   refine AW2_skip ?_
   have hz := some_elim H
   subst hz
   exact rfl
 ·refine AW2_seq ?_
  refine AW2_mid (⟨[(2, .q 2 (0)), (4, .q 4 (0))], [(2, .pure (Gkinds_sort.cs ((Gkinds_sort.w1 j'1 (decide ((j'1.null_ = true) ∨ (t1.null_ = true))))))), (4, .pure (Gkinds_sort.cs Gkinds_sort.zero))], 19⟩ : TS) ?_ ?_
  ·refine AW2_reg [0, 1, 2, 3, 4, 5, 6, 7] rfl ?_
   refine rp rfl rfl (u_fa rfl rfl Tryd.underlying54 rfl in_4 (Nat.succ_ne_zero _) rfl rfl (ne_of_lt (n := 0) (Nat.lt_of_lt_of_eq (by decide) (Eq.symm (Gkinds_sort.len j'1))))) ?_
   refine rp rfl rfl (u_ld rfl rfl Tryd.underlying4 rfl rfl ((Sub.refl _).trans (Gkinds_sort.sub1 j'1))) ?_
   refine rp rfl rfl (p_move rfl rfl) ?_
   refine (Classical.em (j'1.null_ = true)).elim (fun h3 => ?_) (fun h3 => ?_)
   ·refine r_off rfl rfl rfl rfl h3 rfl rfl ?_
    refine r_off rfl rfl rfl rfl h3 rfl rfl ?_
    refine rp rfl rfl (p_pkt rfl rfl h3 (tb (decide_eq_true (p := (j'1.null_ = true) ∨ (t1.null_ = true)) (Or.inl h3)).symm)) ?_
    refine rp rfl rfl (u_fa rfl rfl Tryd.underlying54 rfl in_4 (Nat.succ_ne_zero _) rfl rfl (ne_of_lt (n := 0) (Nat.lt_of_lt_of_eq (by decide) (Eq.symm (Gkinds_sort.len j'1))))) ?_
    refine r_op rfl rfl (u_st rfl rfl rfl rfl rfl in_4 rfl (ne_of_lt (n := 0) (Nat.lt_of_lt_of_eq (by decide) (Eq.symm (Gkinds_sort.len j'1)))) (Upd.trans (Sub.refl _) (Gkinds_sort.upd1 j'1 (decide ((j'1.null_ = true) ∨ (t1.null_ = true)))) (Upd.refl ((Gkinds_sort.len ((Gkinds_sort.w1 j'1 (decide ((j'1.null_ = true) ∨ (t1.null_ = true)))))).trans (Gkinds_sort.len j'1).symm)))) ?_
    refine rs [(2, .q 2 (0)), (4, .q 4 (0))] [(2, .pure (Gkinds_sort.cs ((Gkinds_sort.w1 j'1 (decide ((j'1.null_ = true) ∨ (t1.null_ = true))))))), (4, .pure (Gkinds_sort.cs Gkinds_sort.zero))] rfl rfl rfl ?_
    exact RunW_nil rfl
   ·refine r_on rfl rfl rfl rfl (bfalse h3) rfl (PureD.opD (u_fa rfl rfl Tryd.underlying54 rfl in_4 (Nat.succ_ne_zero _) rfl rfl (ne_of_lt (n := 0) (Nat.lt_of_lt_of_eq (by decide) (Eq.symm (Gkinds_sort.len t1)))))) ?_
    refine r_on rfl rfl rfl rfl (bfalse h3) rfl (PureD.opD (u_ld rfl rfl Tryd.underlying4 rfl rfl ((Sub.refl _).trans (Gkinds_sort.sub1 t1)))) ?_
    refine rp rfl rfl (p_pkf rfl rfl (bfalse h3) (tb ((bdec _).trans (or_l (p := j'1.null_ = true) (q := t1.null_ = true) h3)))) ?_
    refine rp rfl rfl (u_fa rfl rfl Tryd.underlying54 rfl in_4 (Nat.succ_ne_zero _) rfl rfl (ne_of_lt (n := 0) (Nat.lt_of_lt_of_eq (by decide) (Eq.symm (Gkinds_sort.len j'1))))) ?_
    refine r_op rfl rfl (u_st rfl rfl rfl rfl rfl in_4 rfl (ne_of_lt (n := 0) (Nat.lt_of_lt_of_eq (by decide) (Eq.symm (Gkinds_sort.len j'1)))) (Upd.trans (Sub.refl _) (Gkinds_sort.upd1 j'1 (decide ((j'1.null_ = true) ∨ (t1.null_ = true)))) (Upd.refl ((Gkinds_sort.len ((Gkinds_sort.w1 j'1 (decide ((j'1.null_ = true) ∨ (t1.null_ = true)))))).trans (Gkinds_sort.len j'1).symm)))) ?_
    refine rs [(2, .q 2 (0)), (4, .q 4 (0))] [(2, .pure (Gkinds_sort.cs ((Gkinds_sort.w1 j'1 (decide ((j'1.null_ = true) ∨ (t1.null_ = true))))))), (4, .pure (Gkinds_sort.cs Gkinds_sort.zero))] rfl rfl rfl ?_
    exact RunW_nil rfl
  ·refine gen1 (fun s2'2 => (⟨[(2, .q 2 (0)), (4, .q 4 (0))], [(2, .pure (Gkinds_sort.cs s2'2)), (4, .pure (Gkinds_sort.cs Gkinds_sort.zero))], 19⟩ : TS)) H ?_
   intro s2'2 H
   refine sg [0, 1] rfl ?_
   refine rp rfl rfl (u_lda rfl rfl Tryd.underlying54 rfl in_54 rfl (Nat.succ_pos _) (Sub.refl _) (Gkinds_sort.len s2'2)) ?_
   refine r_op rfl rfl (u_st rfl rfl rfl rfl rfl in_54 (Gkinds_sort.len s2'2) (ne_of_lt (n := 0) (Nat.lt_of_lt_of_eq (by decide) (Eq.symm (Gkinds_sort.len Gkinds_sort.zero)))) (Upd.refl ((Gkinds_sort.len s2'2).trans (Gkinds_sort.len Gkinds_sort.zero).symm))) ?_
   refine rz [(4, .q 4 (0))] [(4, .pure (Gkinds_sort.cs s2'2))] rfl rfl rfl ?_
   refine AW2_ret ?_
   have hz := some_elim H
   subst hz
   exact ⟨⟨res_cella Tryd.underlying54 rfl in_54.sz rfl (Sub.le (Sub.refl _) (Gkinds_sort.len s2'2)) (by decide) (Sub.take (Sub.refl _) (Gkinds_sort.len s2'2)), trivial⟩, trivial⟩

/-! kinds.joined$1 -/
noncomputable def g_kinds_joined_1_i0_l0 (kind0 : Int) (t2 : Vector Gkinds_sort 2) (t3 : Int) : Int × Gkinds_sort → Option ((Int × Gkinds_sort) ⊕ ((Gkinds_sort × Int) ⊕ Gkinds_sort))
  | (t16_0, s8_0) => (if t16_0 < ((List.take t3.toNat t2.toList).length : Int) then if 0 ≤ t16_0 ∧ t16_0 < ((List.take t3.toNat t2.toList).length : Int) then (g_kinds_sort_fits (lrd (List.take t3.toNat t2.toList) t16_0.toNat) kind0).bind fun r'1 => (if (!r'1) = true then some (.inr (.inl (Gkinds_sort.zero, (2 : Int)))) else letO ({ s8_0 with null_ := (decide ((s8_0.null_ = true) ∨ (((lrd (List.take t3.toNat t2.toList) t16_0.toNat).null_) = true))) }) fun s8'2 => some (.inl (w64 (t16_0 + (1 : Int)), s8'2))) else none else some (.inr (.inr s8_0)))
noncomputable def g_kinds_joined_1_i0 (kind0 : Int) (gives1 : Int) (t2 : Vector Gkinds_sort 2) (t3 : Int) : Option (Gkinds_sort × Int) :=
  if 0 ≤ t3 ∧ t3 ≤ (2 : Int) then (loopO (g_kinds_joined_1_i0_l0 kind0 t2 t3) ((0 : Int), { Gkinds_sort.zero with kind_ := gives1 })).bind fun o'6 => match o'6 with | .inl y'7 => some y'7 | .inr (y'8) => some (y'8, (0 : Int)) else none
set_option maxHeartbeats 4000000 in
set_option maxRecDepth 100000 in
theorem g_kinds_joined_1_i0_ac {kind0 : Int} {gives1 : Int} {t2 : Vector Gkinds_sort 2} {t3 : Int} {r : Gkinds_sort × Int} (H : g_kinds_joined_1_i0 kind0 gives1 t2 t3 = some r) : ACp Tryd.prog 69 [(AV.int kind0), (AV.int gives1), .rptr (t2.toList.flatMap Gkinds_sort.cs) 0, .rptr ([(AV.int t3)]) 0] (.tup [(.agg (Gkinds_sort.cs r.1)), (AV.int r.2)]) := by
 refine ACp_of (AC2_of_body (vs := [.g (Gkinds_sort.cs r.1), .i r.2]) Tryd.func69 rfl rfl (Nat.le_of_ble_eq_true rfl) rfl ?_) (fun _ => .same _)
 unfold g_kinds_joined_1_i0 at H
 refine as2 [(0, .i kind0), (1, .i gives1), (2, .p (.rptr (t2.toList.flatMap Gkinds_sort.cs) (0))), (3, .p (.rptr ([(AV.int t3)]) (0)))] [] rfl rfl rfl ?_
 refine sg [0, 1] rfl ?_
 refine r_op rfl rfl (MakeD.opD (u_alloc 6 rfl in_54 one_54 zc_54) rfl rfl rfl rfl) ?_
 refine rp rfl rfl (p_asg rfl rfl) ?_
 refine rz [(0, .i kind0), (1, .i gives1), (2, .p (.rptr (t2.toList.flatMap Gkinds_sort.cs) (0))), (3, .p (.rptr ([(AV.int t3)]) (0))), (6, .q 6 (0))] [(6, .pure (Gkinds_sort.cs Gkinds_sort.zero))] rfl rfl rfl ?_
 refine sg [0, 1, 2, 3] rfl ?_
 refine rp rfl rfl (p_move rfl rfl) ?_
 refine rp rfl rfl (u_bld rfl in_54 one_54 zc_54 pl_54 rfl (af_cons rfl rfl (Gkinds_sort.upd0 Gkinds_sort.zero gives1) rfl)) ?_
 refine r_op rfl rfl (MakeD.opD (u_alloc 8 rfl in_54 one_54 zc_54) rfl rfl rfl rfl) ?_
 refine r_op rfl rfl (u_st rfl rfl rfl rfl rfl in_54 (Gkinds_sort.len ((Gkinds_sort.w0 Gkinds_sort.zero gives1))) (ne_of_lt (n := 0) (Nat.lt_of_lt_of_eq (by decide) (Eq.symm (Gkinds_sort.len Gkinds_sort.zero)))) (Upd.refl ((Gkinds_sort.len ((Gkinds_sort.w0 Gkinds_sort.zero gives1))).trans (Gkinds_sort.len Gkinds_sort.zero).symm))) ?_
 refine rz [(0, .i kind0), (2, .p (.rptr (t2.toList.flatMap Gkinds_sort.cs) (0))), (3, .p (.rptr ([(AV.int t3)]) (0))), (6, .q 6 (0)), (8, .q 8 (0))] [(6, .pure (Gkinds_sort.cs Gkinds_sort.zero)), (8, .pure (Gkinds_sort.cs ((Gkinds_sort.w0 Gkinds_sort.zero gives1))))] rfl rfl rfl ?_
 refine AW2_seq ?_
 refine sg [0, 1, 2, 3] rfl ?_
 refine rp rfl rfl (u_ld rfl rfl Tryd.underlying3 rfl rfl (Sub.refl _)) ?_
 refine chkK H fun h1 H => ?_
 refine rp rfl rfl (u_cutar (g := fun l => l.flatMap Gkinds_sort.cs) (l := t2.toList) rfl rfl Tryd.underlying83 in_54 rfl (Sub.refl _) (vlen _) (vfm_len (fun x => (Gkinds_sort.len x)) t2) (bT_i h1.1 rfl) (toNat_le h1) (g_fm (fun x => (Gkinds_sort.len x)))) ?_
 refine rp rfl rfl (p_lenl rfl Tryd.underlying94 rfl rfl) ?_
 refine rp rfl rfl (p_move rfl rfl) ?_
 refine rz [(0, .i kind0), (6, .q 6 (0)), (8, .q 8 (0)), (14, .p ((fun q : List Gkinds_sort => AV.lst (q.flatMap Gkinds_sort.cs) q.length) (List.take t3.toNat t2.toList))), (15, .i ((List.take t3.toNat t2.toList).length : Int)), (16, .i (0 : Int))] [(6, .pure (Gkinds_sort.cs Gkinds_sort.zero)), (8, .pure (Gkinds_sort.cs ((Gkinds_sort.w0 Gkinds_sort.zero gives1))))] rfl rfl rfl ?_
 refine AW2_block ?_
 refine as2 [(0, .i kind0), (6, .q 6 (0)), (8, .q 8 (0)), (14, .p ((fun q : List Gkinds_sort => AV.lst (q.flatMap Gkinds_sort.cs) q.length) (List.take t3.toNat t2.toList))), (15, .i ((List.take t3.toNat t2.toList).length : Int)), (16, .i (0 : Int))] [(6, .pure (Gkinds_sort.cs Gkinds_sort.zero)), (8, .pure (Gkinds_sort.cs ((Gkinds_sort.w0 Gkinds_sort.zero gives1))))] rfl rfl rfl ?_
 refine bindK H fun o'6 h7 H => ?_
 refine AW2_loopO (fun a'3 : Int × Gkinds_sort => (⟨[(0, .i kind0), (6, .q 6 (0)), (8, .q 8 (0)), (14, .p ((fun q : List Gkinds_sort => AV.lst (q.flatMap Gkinds_sort.cs) q.length) (List.take t3.toNat t2.toList))), (15, .i ((List.take t3.toNat t2.toList).length : Int)), (16, .i a'3.1)], [(6, .pure (Gkinds_sort.cs Gkinds_sort.zero)), (8, .pure (Gkinds_sort.cs a'3.2))], 34⟩ : TS)) (fun (o : (Gkinds_sort × Int) ⊕ Gkinds_sort) e s' => match o with | .inl y'4 => e = Go.Exit.ret ∧ ResAll Tryd.prog s' [ResultVar.cell 6 54, ResultVar.tmp 7] [.g (Gkinds_sort.cs y'4.1), .i y'4.2] ∧ HFits s' [] | .inr (y'5) => e = Go.Exit.exit 0 ∧ s' = (⟨[(6, .q 6 (0)), (8, .q 8 (0))], [(6, .pure (Gkinds_sort.cs Gkinds_sort.zero)), (8, .pure (Gkinds_sort.cs y'5))], 34⟩ : TS)) h7 rfl (fun a x hx => ?_) (fun e s' hs => ?_)
 ·clear H
  obtain ⟨t16_0, s8_0⟩ := a
  have H := hx
  clear hx
  unfold g_kinds_joined_1_i0_l0 at H
  refine sg [0] rfl ?_
  refine rp rfl rfl (p_bin rfl rfl rfl rfl) ?_
  refine rz [(0, .i kind0), (6, .q 6 (0)), (8, .q 8 (0)), (14, .p ((fun q : List Gkinds_sort => AV.lst (q.flatMap Gkinds_sort.cs) q.length) (List.take t3.toNat t2.toList))), (15, .i ((List.take t3.toNat t2.toList).length : Int)), (16, .i t16_0), (17, .b (decide (t16_0 < ((List.take t3.toNat t2.toList).length : Int))))] [(6, .pure (Gkinds_sort.cs Gkinds_sort.zero)), (8, .pure (Gkinds_sort.cs s8_0))] rfl rfl rfl ?_
  refine AW2_seq ?_
  refine AW2_if (p := t16_0 < ((List.take t3.toNat t2.toList).length : Int)) rfl (fun h2 => ?_) (fun h2 => ?_)
  ·replace H := ite_then h2 H
   refine as2 [(0, .i kind0), (6, .q 6 (0)), (8, .q 8 (0)), (14, .p ((fun q : List Gkinds_sort => AV.lst (q.flatMap Gkinds_sort.cs) q.length) (List.take t3.toNat t2.toList))), (15, .i ((List.take t3.toNat t2.toList).length : Int)), (16, .i t16_0)] [(6, .pure (Gkinds_sort.cs Gkinds_sort.zero)), (8, .pure (Gkinds_sort.cs s8_0))] rfl rfl rfl ?_
   refine AW2_skip ?_
   refine AW2_seq ?_
   refine AW2_block ?_
   refine sg [0, 1, 2, 3] rfl ?_
   refine chkK H fun h3 H => ?_
   refine rp rfl rfl (u_ixl rfl rfl Tryd.underlying94 in_54 rfl rfl (ixe h3) (ixn h3) (fne (fun x => (Gkinds_sort.len x)) (by decide) (ixn h3))) ?_
   refine rp rfl rfl (u_lda rfl rfl Tryd.underlying54 rfl in_54 rfl (Nat.succ_pos _) (Sub.fm default (fun x => (Gkinds_sort.len x)) (ixn h3)) (Gkinds_sort.len (lrd (List.take t3.toNat t2.toList) t16_0.toNat))) ?_
   refine r_op rfl rfl (MakeD.opD (u_alloc 10 rfl in_54 one_54 zc_54) rfl rfl rfl rfl) ?_
   refine r_op rfl rfl (u_st rfl rfl rfl rfl rfl in_54 (Gkinds_sort.len (lrd (List.take t3.toNat t2.toList) t16_0.toNat)) (ne_of_lt (n := 0) (Nat.lt_of_lt_of_eq (by decide) (Eq.symm (Gkinds_sort.len Gkinds_sort.zero)))) (Upd.refl ((Gkinds_sort.len (lrd (List.take t3.toNat t2.toList) t16_0.toNat)).trans (Gkinds_sort.len Gkinds_sort.zero).symm))) ?_
   refine rz [(0, .i kind0), (6, .q 6 (0)), (8, .q 8 (0)), (10, .q 10 (0)), (14, .p ((fun q : List Gkinds_sort => AV.lst (q.flatMap Gkinds_sort.cs) q.length) (List.take t3.toNat t2.toList))), (15, .i ((List.take t3.toNat t2.toList).length : Int)), (16, .i t16_0)] [(6, .pure (Gkinds_sort.cs Gkinds_sort.zero)), (8, .pure (Gkinds_sort.cs s8_0)), (10, .pure (Gkinds_sort.cs (lrd (List.take t3.toNat t2.toList) t16_0.toNat)))] rfl rfl rfl ?_
   refine AW2_seq ?_
   refine sg [0, 1, 2, 3] rfl ?_
   refine rp rfl rfl (u_lda rfl rfl Tryd.underlying54 rfl in_54 rfl (Nat.succ_pos _) (Sub.refl _) (Gkinds_sort.len (lrd (List.take t3.toNat t2.toList) t16_0.toNat))) ?_
   refine rp rfl rfl (p_move rfl rfl) ?_
   refine bindK H fun r'1 h4 H => ?_
   refine rp rfl rfl (p_callp rfl rfl rfl Tryd.func70 rfl rfl (g_kinds_sort_fits_ac h4) ⟨rfl, rfl, trivial⟩) ?_
   refine rp rfl rfl (p_not rfl rfl) ?_
   refine rz [(0, .i kind0), (6, .q 6 (0)), (8, .q 8 (0)), (10, .q 10 (0)), (14, .p ((fun q : List Gkinds_sort => AV.lst (q.flatMap Gkinds_sort.cs) q.length) (List.take t3.toNat t2.toList))), (15, .i ((List.take t3.toNat t2.toList).length : Int)), (16, .i t16_0), (23, .b (!r'1))] [(6, .pure (Gkinds_sort.cs Gkinds_sort.zero)), (8, .pure (Gkinds_sort.cs s8_0)), (10, .pure (Gkinds_sort.cs (lrd (List.take t3.toNat t2.toList) t16_0.toNat)))] rfl rfl rfl ?_
   refine AW2_cond rfl (fun h5 => ?_) (fun h5 => ?_)
   ·replace H := ite_then h5 H
    refine sg [0, 1, 2] rfl ?_
    refine rp rfl rfl (u_bld rfl in_54 one_54 zc_54 pl_54 rfl rfl) ?_
    refine r_op rfl rfl (u_st rfl rfl rfl rfl rfl in_54 (Gkinds_sort.len Gkinds_sort.zero) (ne_of_lt (n := 0) (Nat.lt_of_lt_of_eq (by decide) (Eq.symm (Gkinds_sort.len Gkinds_sort.zero)))) (Upd.refl ((Gkinds_sort.len Gkinds_sort.zero).trans (Gkinds_sort.len Gkinds_sort.zero).symm))) ?_
    refine rp rfl rfl (p_asg rfl rfl) ?_
    refine rz [(6, .q 6 (0)), (7, .i (2 : Int))] [(6, .pure (Gkinds_sort.cs Gkinds_sort.zero))] rfl rfl rfl ?_
    refine AW2_ret ?_
    have hz := some_elim H
    subst hz
    exact ⟨rfl, ⟨res_cella Tryd.underlying54 rfl in_54.sz rfl (Sub.le (Sub.refl _) (Gkinds_sort.len Gkinds_sort.zero)) (by decide) (Sub.take (Sub.refl _) (Gkinds_sort.len Gkinds_sort.zero)), res_tmp (.same _), trivial⟩, trivial⟩
   ·replace H := ite_else (ne_true h5) H
    refine as2 [(0, .i kind0), (6, .q 6 (0)), (8, .q 8 (0)), (10, .q 10 (0)), (14, .p ((fun q : List Gkinds_sort => AV.lst (q.flatMap Gkinds_sort.cs) q.length) (List.take t3.toNat t2.toList))), (15, .i ((List.take t3.toNat t2.toList).length : Int)), (16, .i t16_0)] [(6, .pure (Gkinds_sort.cs Gkinds_sort.zero)), (8, .pure (Gkinds_sort.cs s8_0)), (10, .pure (Gkinds_sort.cs (lrd (List.take t3.toNat t2.toList) t16_0.toNat)))] rfl rfl rfl ?_
    refine AW2_skip ?_
    refine AW2_mid (⟨[(0, .i kind0), (6, .q 6 (0)), (8, .q 8 (0)), (14, .p ((fun q : List Gkinds_sort => AV.lst (q.flatMap Gkinds_sort.cs) q.length) (List.take t3.toNat t2.toList))), (15, .i ((List.take t3.toNat t2.toList).length : Int)), (16, .i t16_0)], [(6, .pure (Gkinds_sort.cs Gkinds_sort.zero)), (8, .pure (Gkinds_sort.cs ((Gkinds_sort.w1 s8_0 (decide ((s8_0.null_ = true) ∨ (((lrd (List.take t3.toNat t2.toList) t16_0.toNat).null_) = true)))))))], 34⟩ : TS) ?_ ?_
    ·refine AW2_reg [0, 1, 2, 3, 4, 5, 6, 7] rfl ?_
     refine rp rfl rfl (u_fa rfl rfl Tryd.underlying54 rfl in_4 (Nat.succ_ne_zero _) rfl rfl (ne_of_lt (n := 0) (Nat.lt_of_lt_of_eq (by decide) (Eq.symm (Gkinds_sort.len s8_0))))) ?_
     refine rp rfl rfl (u_ld rfl rfl Tryd.underlying4 rfl rfl ((Sub.refl _).trans (Gkinds_sort.sub1 s8_0))) ?_
     refine rp rfl rfl (p_move rfl rfl) ?_
     refine (Classical.em (s8_0.null_ = true)).elim (fun h6 => ?_) (fun h6 => ?_)
     ·refine r_off rfl rfl rfl rfl h6 rfl rfl ?_
      refine r_off rfl rfl rfl rfl h6 rfl rfl ?_
      refine rp rfl rfl (p_pkt rfl rfl h6 (tb (decide_eq_true (p := (s8_0.null_ = true) ∨ (((lrd (List.take t3.toNat t2.toList) t16_0.toNat).null_) = true)) (Or.inl h6)).symm)) ?_
      refine rp rfl rfl (u_fa rfl rfl Tryd.underlying54 rfl in_4 (Nat.succ_ne_zero _) rfl rfl (ne_of_lt (n := 0) (Nat.lt_of_lt_of_eq (by decide) (Eq.symm (Gkinds_sort.len s8_0))))) ?_
      refine r_op rfl rfl (u_st rfl rfl rfl rfl rfl in_4 rfl (ne_of_lt (n := 0) (Nat.lt_of_lt_of_eq (by decide) (Eq.symm (Gkinds_sort.len s8_0)))) (Upd.trans (Sub.refl _) (Gkinds_sort.upd1 s8_0 (decide ((s8_0.null_ = true) ∨ (((lrd (List.take t3.toNat t2.toList) t16_0.toNat).null_) = true)))) (Upd.refl ((Gkinds_sort.len ((Gkinds_sort.w1 s8_0 (decide ((s8_0.null_ = true) ∨ (((lrd (List.take t3.toNat t2.toList) t16_0.toNat).null_) = true)))))).trans (Gkinds_sort.len s8_0).symm)))) ?_
      refine rs [(0, .i kind0), (6, .q 6 (0)), (8, .q 8 (0)), (14, .p ((fun q : List Gkinds_sort => AV.lst (q.flatMap Gkinds_sort.cs) q.length) (List.take t3.toNat t2.toList))), (15, .i ((List.take t3.toNat t2.toList).length : Int)), (16, .i t16_0)] [(6, .pure (Gkinds_sort.cs Gkinds_sort.zero)), (8, .pure (Gkinds_sort.cs ((Gkinds_sort.w1 s8_0 (decide ((s8_0.null_ = true) ∨ (((lrd (List.take t3.toNat t2.toList) t16_0.toNat).null_) = true)))))))] rfl rfl rfl ?_
      exact RunW_nil rfl
     ·refine r_on rfl rfl rfl rfl (bfalse h6) rfl (PureD.opD (u_fa rfl rfl Tryd.underlying54 rfl in_4 (Nat.succ_ne_zero _) rfl rfl (ne_of_lt (n := 0) (Nat.lt_of_lt_of_eq (by decide) (Eq.symm (Gkinds_sort.len (lrd (List.take t3.toNat t2.toList) t16_0.toNat))))))) ?_
      refine r_on rfl rfl rfl rfl (bfalse h6) rfl (PureD.opD (u_ld rfl rfl Tryd.underlying4 rfl rfl ((Sub.refl _).trans (Gkinds_sort.sub1 (lrd (List.take t3.toNat t2.toList) t16_0.toNat))))) ?_
      refine rp rfl rfl (p_pkf rfl rfl (bfalse h6) (tb ((bdec _).trans (or_l (p := s8_0.null_ = true) (q := ((lrd (List.take t3.toNat t2.toList) t16_0.toNat).null_) = true) h6)))) ?_
      refine rp rfl rfl (u_fa rfl rfl Tryd.underlying54 rfl in_4 (Nat.succ_ne_zero _) rfl rfl (ne_of_lt (n := 0) (Nat.lt_of_lt_of_eq (by decide) (Eq.symm (Gkinds_sort.len s8_0))))) ?_
      refine r_op rfl rfl (u_st rfl rfl rfl rfl rfl in_4 rfl (ne_of_lt (n := 0) (Nat.lt_of_lt_of_eq (by decide) (Eq.symm (Gkinds_sort.len s8_0)))) (Upd.trans (Sub.refl _) (Gkinds_sort.upd1 s8_0 (decide ((s8_0.null_ = true) ∨ (((lrd (List.take t3.toNat t2.toList) t16_0.toNat).null_) = true)))) (Upd.refl ((Gkinds_sort.len ((Gkinds_sort.w1 s8_0 (decide ((s8_0.null_ = true) ∨ (((lrd (List.take t3.toNat t2.toList) t16_0.toNat).null_) = true)))))).trans (Gkinds_sort.len s8_0).symm)))) ?_
      refine rs [(0, .i kind0), (6, .q 6 (0)), (8, .q 8 (0)), (14, .p ((fun q : List Gkinds_sort => AV.lst (q.flatMap Gkinds_sort.cs) q.length) (List.take t3.toNat t2.toList))), (15, .i ((List.take t3.toNat t2.toList).length : Int)), (16, .i t16_0)] [(6, .pure (Gkinds_sort.cs Gkinds_sort.zero)), (8, .pure (Gkinds_sort.cs ((Gkinds_sort.w1 s8_0 (decide ((s8_0.null_ = true) ∨ (((lrd (List.take t3.toNat t2.toList) t16_0.toNat).null_) = true)))))))] rfl rfl rfl ?_
      exact RunW_nil rfl
    ·refine gen1 (fun s8'2 => (⟨[(0, .i kind0), (6, .q 6 (0)), (8, .q 8 (0)), (14, .p ((fun q : List Gkinds_sort => AV.lst (q.flatMap Gkinds_sort.cs) q.length) (List.take t3.toNat t2.toList))), (15, .i ((List.take t3.toNat t2.toList).length : Int)), (16, .i t16_0)], [(6, .pure (Gkinds_sort.cs Gkinds_sort.zero)), (8, .pure (Gkinds_sort.cs s8'2))], 34⟩ : TS)) H ?_
     intro s8'2 H
     refine AW2_reg [0, 1] rfl ?_
     refine rp rfl rfl (p_bin rfl rfl rfl rfl) ?_
     refine rp rfl rfl (p_move rfl rfl) ?_
     refine rz [(0, .i kind0), (6, .q 6 (0)), (8, .q 8 (0)), (14, .p ((fun q : List Gkinds_sort => AV.lst (q.flatMap Gkinds_sort.cs) q.length) (List.take t3.toNat t2.toList))), (15, .i ((List.take t3.toNat t2.toList).length : Int)), (16, .i (w64 (t16_0 + (1 : Int))))] [(6, .pure (Gkinds_sort.cs Gkinds_sort.zero)), (8, .pure (Gkinds_sort.cs s8'2))] rfl rfl rfl ?_
     have hz := some_elim H
     subst hz
     exact ⟨rfl, rfl⟩
  ·replace H := ite_else h2 H
   refine as2 [(6, .q 6 (0)), (8, .q 8 (0))] [(6, .pure (Gkinds_sort.cs Gkinds_sort.zero)), (8, .pure (Gkinds_sort.cs s8_0))] rfl rfl rfl ?_
   refine AW2_exit ?_
   refine thenQ2_exit ?_
   have hz := some_elim H
   subst hz
   exact ⟨rfl, rfl⟩
 ·rcases o'6 with y'7 | y'8
  ·obtain ⟨rfl, hs⟩ := hs
   refine ⟨by simp, ?_⟩
   have hz := some_elim H
   subst hz
   exact ⟨hs.1, hs.2⟩
  ·obtain ⟨rfl, rfl⟩ := hs
   refine ⟨by simp, ?_⟩
   refine blockQ2_exit ?_
   refine sg [0, 1, 2] rfl ?_
   refine rp rfl rfl (u_lda rfl rfl Tryd.underlying54 rfl in_54 rfl (Nat.succ_pos _) (Sub.refl _) (Gkinds_sort.len y'8)) ?_
   refine r_op rfl rfl (u_st rfl rfl rfl rfl rfl in_54 (Gkinds_sort.len y'8) (ne_of_lt (n := 0) (Nat.lt_of_lt_of_eq (by decide) (Eq.symm (Gkinds_sort.len Gkinds_sort.zero)))) (Upd.refl ((Gkinds_sort.len y'8).trans (Gkinds_sort.len Gkinds_sort.zero).symm))) ?_
   refine rp rfl rfl (p_asg rfl rfl) ?_
   refine rz [(6, .q 6 (0)), (7, .i (0 : Int))] [(6, .pure (Gkinds_sort.cs y'8))] rfl rfl rfl ?_
   refine AW2_ret ?_
   have hz := some_elim H
   subst hz
   exact ⟨⟨res_cella Tryd.underlying54 rfl in_54.sz rfl (Sub.le (Sub.refl _) (Gkinds_sort.len y'8)) (by decide) (Sub.take (Sub.refl _) (Gkinds_sort.len y'8)), res_tmp (.same _), trivial⟩, trivial⟩

/-! kinds.joined -/
noncomputable def g_kinds_joined (op0 : Int) (n1 : Int) (l2 : Vector Gkinds_sort 2) : Option (Gkinds_sort × Int) :=
  ((if op0 = (3 : Int) then some (decide (op0 = (3 : Int))) else (if op0 = (5 : Int) then some (decide (op0 = (5 : Int))) else (if op0 = (6 : Int) then some (decide (op0 = (6 : Int))) else (if op0 = (7 : Int) then some (decide (op0 = (7 : Int))) else some (decide (op0 = (8 : Int)))))))).bind fun j'1 => (if j'1 = true then (g_kinds_joined_1_i0 (2 : Int) (2 : Int) l2 n1).bind fun r'2 => some (r'2.1, r'2.2) else ((if op0 = (4 : Int) then some (decide (op0 = (4 : Int))) else (if op0 = (15 : Int) then some (decide (op0 = (15 : Int))) else some (decide (op0 = (16 : Int)))))).bind fun j'3 => (if j'3 = true then (g_kinds_joined_1_i0 (1 : Int) (1 : Int) l2 n1).bind fun r'4 => some (r'4.1, r'4.2) else (if op0 = (18 : Int) then (g_kinds_joined_1_i0 (4 : Int) (2 : Int) l2 n1).bind fun r'5 => some (r'5.1, r'5.2) else (if op0 = (19 : Int) then (g_kinds_joined_1_i0 (4 : Int) (4 : Int) l2 n1).bind fun r'6 => some (r'6.1, r'6.2) else (if op0 = (17 : Int) then some ({ { Gkinds_sort.zero with kind_ := (1 : Int) } with null_ := false }, (0 : Int)) else (g_kinds_sort_with (vrd l2 0) (vrd l2 1)).bind fun r'7 => ((g_kinds_sort_fits (vrd l2 0) r'7.kind_).bind fun r'10 => (if (!r'10) = true then some true else (g_kinds_sort_fits (vrd l2 1) r'7.kind_).bind fun r'11 => some (!r'11))).bind fun g'12 => (if g'12 = true then some (Gkinds_sort.zero, (2 : Int)) else (if op0 = (20 : Int) then letO ({ { Gkinds_sort.zero with kind_ := r'7.kind_ } with null_ := (decide ((((vrd l2 0).null_) = true) ∧ (((vrd l2 1).null_) = true))) }) fun t6'13 => some (t6'13, (0 : Int)) else letO ({ { Gkinds_sort.zero with kind_ := (1 : Int) } with null_ := r'7.null_ }) fun t6'14 => some (t6'14, (0 : Int)))))))))
set_option maxHeartbeats 4000000 in
set_option maxRecDepth 100000 in
theorem g_kinds_joined_ac {op0 : Int} {n1 : Int} {l2 : Vector Gkinds_sort 2} {r : Gkinds_sort × Int} (H : g_kinds_joined op0 n1 l2 = some r) : ACp Tryd.prog 46 [(AV.int op0), (AV.int n1), (.agg (l2.toList.flatMap Gkinds_sort.cs))] (.tup [(.agg (Gkinds_sort.cs r.1)), (AV.int r.2)]) := by
 refine ACp_of (AC2_of_body (vs := [.g (Gkinds_sort.cs r.1), .i r.2]) Tryd.func46 rfl rfl (Nat.le_of_ble_eq_true rfl) rfl ?_) (fun _ => .same _)
 unfold g_kinds_joined at H
 refine as2 [(0, .i op0), (1, .i n1), (2, .g (l2.toList.flatMap Gkinds_sort.cs))] [] rfl rfl rfl ?_
 refine sg [0, 1, 2, 3] rfl ?_
 refine r_op rfl rfl (MakeD.opD (n_box 4 rfl rfl) rfl rfl rfl rfl) ?_
 refine r_op rfl rfl (MakeD.opD (n_box 5 rfl rfl) rfl rfl rfl rfl) ?_
 refine r_op rfl rfl (MakeD.opD (u_alloc 6 rfl in_54 one_54 zc_54) rfl rfl rfl rfl) ?_
 refine rp rfl rfl (p_asg rfl rfl) ?_
 refine rz [(0, .i op0), (4, .q 4 (0)), (5, .q 5 (0)), (6, .q 6 (0))] [(4, .pure ([(AV.int n1)])), (5, .pure (l2.toList.flatMap Gkinds_sort.cs)), (6, .pure (Gkinds_sort.cs Gkinds_sort.zero))] rfl rfl rfl ?_
 refine sg [0, 1] rfl ?_
 refine rp rfl rfl (p_mkfn (caps := [(.ptr 5 (0)), (.ptr 4 (0))]) rfl ⟨⟨rfl, rfl⟩, ⟨rfl, rfl⟩, trivial⟩) ?_
 refine rp rfl rfl (p_asg rfl rfl) ?_
 refine RunW_st [(0, .i op0), (5, .q 5 (0)), (6, .q 6 (0)), (8, .clo 69 [(.ptr 5 (0)), (.ptr 4 (0))])] [(4, .pure ([(AV.int n1)])), (5, .pure (l2.toList.flatMap Gkinds_sort.cs)), (6, .pure (Gkinds_sort.cs Gkinds_sort.zero))] rfl ⟨TLes.same _, TLes.same _, TLes.same _, (fun _ => .same _), trivial⟩ ⟨rfl, rfl, rfl, trivial⟩ ?_
 refine RunW_nil ?_
 refine AW2_seq ?_
 refine sg [0] rfl ?_
 refine rp rfl rfl (p_move rfl rfl) ?_
 refine RunW_st [(0, .i op0), (5, .q 5 (0)), (6, .q 6 (0)), (8, .clo 69 [(.ptr 5 (0)), (.ptr 4 (0))]), (11, .i op0)] [(4, .pure ([(AV.int n1)])), (5, .pure (l2.toList.flatMap Gkinds_sort.cs)), (6, .pure (Gkinds_sort.cs Gkinds_sort.zero))] rfl ⟨TLes.same _, TLes.same _, TLes.same _, (fun _ => .same _), TLes.same _, trivial⟩ ⟨rfl, rfl, rfl, trivial⟩ ?_
 refine RunW_nil ?_
 refine AW2_block ?_
 refine AW2_seq ?_
 refine bindK H fun j'1 h1 H => ?_
 refine AW2_mid (⟨[(0, .i op0), (5, .q 5 (0)), (6, .q 6 (0)), (8, .clo 69 [(.ptr 5 (0)), (.ptr 4 (0))]), (11, .i op0), (12, .b j'1)], [(4, .pure ([(AV.int n1)])), (5, .pure (l2.toList.flatMap Gkinds_sort.cs)), (6, .pure (Gkinds_sort.cs Gkinds_sort.zero))], 81⟩ : TS) ?_ ?_
 ·clear H
  have H := h1
  clear h1
  refine sg [0, 1] rfl ?_
  refine rp rfl rfl (p_ieq rfl rfl rfl) ?_
  refine rp rfl rfl (p_asg rfl rfl) ?_
  refine RunW_st [(0, .i op0), (5, .q 5 (0)), (6, .q 6 (0)), (8, .clo 69 [(.ptr 5 (0)), (.ptr 4 (0))]), (11, .i op0), (12, .b (decide (op0 = (3 : Int))))] [(4, .pure ([(AV.int n1)])), (5, .pure (l2.toList.flatMap Gkinds_sort.cs)), (6, .pure (Gkinds_sort.cs Gkinds_sort.zero))] rfl ⟨TLes.same _, TLes.same _, TLes.same _, (fun _ => .same _), TLes.same _, TLes.same _, trivial⟩ ⟨rfl, rfl, rfl, trivial⟩ ?_
  refine RunW_nil ?_
  refine AW2_if (p := op0 = (3 : Int)) rfl (fun h2 => ?_) (fun h2 => ?_)
  ·replace H := ite_then h2 H
   refine AW2_skip ?_
   have hz := some_elim H
   subst hz
   exact rfl
  ·replace H := ite_else h2 H
   refine sg [0, 1] rfl ?_
   refine rp rfl rfl (p_ieq rfl rfl rfl) ?_
   refine rp rfl rfl (p_asg rfl rfl) ?_
   refine RunW_st [(0, .i op0), (5, .q 5 (0)), (6, .q 6 (0)), (8, .clo 69 [(.ptr 5 (0)), (.ptr 4 (0))]), (11, .i op0), (12, .b (decide (op0 = (5 : Int))))] [(4, .pure ([(AV.int n1)])), (5, .pure (l2.toList.flatMap Gkinds_sort.cs)), (6, .pure (Gkinds_sort.cs Gkinds_sort.zero))] rfl ⟨TLes.same _, TLes.same _, TLes.same _, (fun _ => .same _), TLes.same _, TLes.same _, trivial⟩ ⟨rfl, rfl, rfl, trivial⟩ ?_
   refine RunW_nil ?_
   refine AW2_if (p := op0 = (5 : Int)) rfl (fun h3 => ?_) (fun h3 => ?_)
   ·replace H := ite_then h3 H
    refine AW2_skip ?_
    have hz := some_elim H
    subst hz
    exact rfl
   ·replace H := ite_else h3 H
    refine sg [0, 1] rfl ?_
    refine rp rfl rfl (p_ieq rfl rfl rfl) ?_
    refine rp rfl rfl (p_asg rfl rfl) ?_
    refine RunW_st [(0, .i op0), (5, .q 5 (0)), (6, .q 6 (0)), (8, .clo 69 [(.ptr 5 (0)), (.ptr 4 (0))]), (11, .i op0), (12, .b (decide (op0 = (6 : Int))))] [(4, .pure ([(AV.int n1)])), (5, .pure (l2.toList.flatMap Gkinds_sort.cs)), (6, .pure (Gkinds_sort.cs Gkinds_sort.zero))] rfl ⟨TLes.same _, TLes.same _, TLes.same _, (fun _ => .same _), TLes.same _, TLes.same _, trivial⟩ ⟨rfl, rfl, rfl, trivial⟩ ?_
    refine RunW_nil ?_
    refine AW2_if (p := op0 = (6 : Int)) rfl (fun h4 => ?_) (fun h4 => ?_)
    ·replace H := ite_then h4 H
     refine AW2_skip ?_
     have hz := some_elim H
     subst hz
     exact rfl
    ·replace H := ite_else h4 H
     refine sg [0, 1] rfl ?_
     refine rp rfl rfl (p_ieq rfl rfl rfl) ?_
     refine rp rfl rfl (p_asg rfl rfl) ?_
     refine RunW_st [(0, .i op0), (5, .q 5 (0)), (6, .q 6 (0)), (8, .clo 69 [(.ptr 5 (0)), (.ptr 4 (0))]), (11, .i op0), (12, .b (decide (op0 = (7 : Int))))] [(4, .pure ([(AV.int n1)])), (5, .pure (l2.toList.flatMap Gkinds_sort.cs)), (6, .pure (Gkinds_sort.cs Gkinds_sort.zero))] rfl ⟨TLes.same _, TLes.same _, TLes.same _, (fun _ => .same _), TLes.same _, TLes.same _, trivial⟩ ⟨rfl, rfl, rfl, trivial⟩ ?_
     refine RunW_nil ?_
     refine AW2_if (p := op0 = (7 : Int)) rfl (fun h5 => ?_) (fun h5 => ?_)
     ·replace H := ite_then h5 H
      refine AW2_skip ?_
      have hz := some_elim H
      subst hz
      exact rfl
     ·replace H := ite_else h5 H
      refine AW2_reg [0, 1] rfl ?_
      refine rp rfl rfl (p_ieq rfl rfl rfl) ?_
      refine rp rfl rfl (p_asg rfl rfl) ?_
      refine RunW_st [(0, .i op0), (5, .q 5 (0)), (6, .q 6 (0)), (8, .clo 69 [(.ptr 5 (0)), (.ptr 4 (0))]), (11, .i op0), (12, .b (decide (op0 = (8 : Int))))] [(4, .pure ([(AV.int n1)])), (5, .pure (l2.toList.flatMap Gkinds_sort.cs)), (6, .pure (Gkinds_sort.cs Gkinds_sort.zero))] rfl ⟨TLes.same _, TLes.same _, TLes.same _, (fun _ => .same _), TLes.same _, TLes.same _, trivial⟩ ⟨rfl, rfl, rfl, trivial⟩ ?_
      refine RunW_nil ?_
      have hz := some_elim H
      subst hz
      exact rfl
 ·refine AW2_cond rfl (fun h6 => ?_) (fun h6 => ?_)
  ·replace H := ite_then h6 H
   refine sg [0, 1, 2, 3, 4, 5] rfl ?_
   refine rp rfl rfl (p_move rfl rfl) ?_
   refine bindK H fun r'2 h7 H => ?_
   refine rp rfl rfl (p_callc rfl rfl rfl Tryd.func69 rfl rfl (g_kinds_joined_1_i0_ac h7) (nlT (Gkinds_sort.nl r'2.1) (nlT rfl rfl)) ⟨lend_p rfl, lend_p rfl, lendc_ptr rfl (ne_of_lt (n := 0) (Nat.lt_of_lt_of_eq (by decide) (Eq.symm (vfm_len (fun x => (Gkinds_sort.len x)) l2)))), lendc_ptr rfl (List.cons_ne_nil _ _), trivial⟩) ?_
   refine rp rfl rfl (p_ext rfl rfl rfl rfl) ?_
   refine rp rfl rfl (p_ext rfl rfl rfl rfl) ?_
   refine r_op rfl rfl (u_st rfl rfl rfl rfl rfl in_54 (Gkinds_sort.len r'2.1) (ne_of_lt (n := 0) (Nat.lt_of_lt_of_eq (by decide) (Eq.symm (Gkinds_sort.len Gkinds_sort.zero)))) (Upd.refl ((Gkinds_sort.len r'2.1).trans (Gkinds_sort.len Gkinds_sort.zero).symm))) ?_
   refine rp rfl rfl (p_asg rfl rfl) ?_
   refine rz [(6, .q 6 (0)), (7, .i r'2.2)] [(6, .pure (Gkinds_sort.cs r'2.1))] rfl rfl rfl ?_
   refine AW2_ret ?_
   have hz := some_elim H
   subst hz
   exact ⟨⟨res_cella Tryd.underlying54 rfl in_54.sz rfl (Sub.le (Sub.refl _) (Gkinds_sort.len r'2.1)) (by decide) (Sub.take (Sub.refl _) (Gkinds_sort.len r'2.1)), res_tmp (.same _), trivial⟩, trivial⟩
  ·replace H := ite_else (ne_true h6) H
   refine AW2_seq ?_
   refine bindK H fun j'3 h8 H => ?_
   refine AW2_mid (⟨[(0, .i op0), (5, .q 5 (0)), (6, .q 6 (0)), (8, .clo 69 [(.ptr 5 (0)), (.ptr 4 (0))]), (11, .i op0), (22, .b j'3)], [(4, .pure ([(AV.int n1)])), (5, .pure (l2.toList.flatMap Gkinds_sort.cs)), (6, .pure (Gkinds_sort.cs Gkinds_sort.zero))], 81⟩ : TS) ?_ ?_
   ·clear H
    have H := h8
    clear h8
    refine sg [0, 1] rfl ?_
    refine rp rfl rfl (p_ieq rfl rfl rfl) ?_
    refine rp rfl rfl (p_asg rfl rfl) ?_
    refine RunW_st [(0, .i op0), (5, .q 5 (0)), (6, .q 6 (0)), (8, .clo 69 [(.ptr 5 (0)), (.ptr 4 (0))]), (11, .i op0), (22, .b (decide (op0 = (4 : Int))))] [(4, .pure ([(AV.int n1)])), (5, .pure (l2.toList.flatMap Gkinds_sort.cs)), (6, .pure (Gkinds_sort.cs Gkinds_sort.zero))] rfl ⟨TLes.same _, TLes.same _, TLes.same _, (fun _ => .same _), TLes.same _, TLes.same _, trivial⟩ ⟨rfl, rfl, rfl, trivial⟩ ?_
    refine RunW_nil ?_
    refine AW2_if (p := op0 = (4 : Int)) rfl (fun h9 => ?_) (fun h9 => ?_)
    ·replace H := ite_then h9 H
     refine AW2_skip ?_
     have hz := some_elim H
     subst hz
     exact rfl
    ·replace H := ite_else h9 H
     refine sg [0, 1] rfl ?_
     refine rp rfl rfl (p_ieq rfl rfl rfl) ?_
     refine rp rfl rfl (p_asg rfl rfl) ?_
     refine RunW_st [(0, .i op0), (5, .q 5 (0)), (6, .q 6 (0)), (8, .clo 69 [(.ptr 5 (0)), (.ptr 4 (0))]), (11, .i op0), (22, .b (decide (op0 = (15 : Int))))] [(4, .pure ([(AV.int n1)])), (5, .pure (l2.toList.flatMap Gkinds_sort.cs)), (6, .pure (Gkinds_sort.cs Gkinds_sort.zero))] rfl ⟨TLes.same _, TLes.same _, TLes.same _, (fun _ => .same _), TLes.same _, TLes.same _, trivial⟩ ⟨rfl, rfl, rfl, trivial⟩ ?_
     refine RunW_nil ?_
     refine AW2_if (p := op0 = (15 : Int)) rfl (fun h10 => ?_) (fun h10 => ?_)
     ·replace H := ite_then h10 H
      refine AW2_skip ?_
      have hz := some_elim H
      subst hz
      exact rfl
     ·replace H := ite_else h10 H
      refine AW2_reg [0, 1] rfl ?_
      refine rp rfl rfl (p_ieq rfl rfl rfl) ?_
      refine rp rfl rfl (p_asg rfl rfl) ?_
      refine RunW_st [(0, .i op0), (5, .q 5 (0)), (6, .q 6 (0)), (8, .clo 69 [(.ptr 5 (0)), (.ptr 4 (0))]), (11, .i op0), (22, .b (decide (op0 = (16 : Int))))] [(4, .pure ([(AV.int n1)])), (5, .pure (l2.toList.flatMap Gkinds_sort.cs)), (6, .pure (Gkinds_sort.cs Gkinds_sort.zero))] rfl ⟨TLes.same _, TLes.same _, TLes.same _, (fun _ => .same _), TLes.same _, TLes.same _, trivial⟩ ⟨rfl, rfl, rfl, trivial⟩ ?_
      refine RunW_nil ?_
      have hz := some_elim H
      subst hz
      exact rfl
   ·refine AW2_cond rfl (fun h11 => ?_) (fun h11 => ?_)
    ·replace H := ite_then h11 H
     refine sg [0, 1, 2, 3, 4, 5] rfl ?_
     refine rp rfl rfl (p_move rfl rfl) ?_
     refine bindK H fun r'4 h12 H => ?_
     refine rp rfl rfl (p_callc rfl rfl rfl Tryd.func69 rfl rfl (g_kinds_joined_1_i0_ac h12) (nlT (Gkinds_sort.nl r'4.1) (nlT rfl rfl)) ⟨lend_p rfl, lend_p rfl, lendc_ptr rfl (ne_of_lt (n := 0) (Nat.lt_of_lt_of_eq (by decide) (Eq.symm (vfm_len (fun x => (Gkinds_sort.len x)) l2)))), lendc_ptr rfl (List.cons_ne_nil _ _), trivial⟩) ?_
     refine rp rfl rfl (p_ext rfl rfl rfl rfl) ?_
     refine rp rfl rfl (p_ext rfl rfl rfl rfl) ?_
     refine r_op rfl rfl (u_st rfl rfl rfl rfl rfl in_54 (Gkinds_sort.len r'4.1) (ne_of_lt (n := 0) (Nat.lt_of_lt_of_eq (by decide) (Eq.symm (Gkinds_sort.len Gkinds_sort.zero)))) (Upd.refl ((Gkinds_sort.len r'4.1).trans (Gkinds_sort.len Gkinds_sort.zero).symm))) ?_
     refine rp rfl rfl (p_asg rfl rfl) ?_
     refine rz [(6, .q 6 (0)), (7, .i r'4.2)] [(6, .pure (Gkinds_sort.cs r'4.1))] rfl rfl rfl ?_
     refine AW2_ret ?_
     have hz := some_elim H
     subst hz
     exact ⟨⟨res_cella Tryd.underlying54 rfl in_54.sz rfl (Sub.le (Sub.refl _) (Gkinds_sort.len r'4.1)) (by decide) (Sub.take (Sub.refl _) (Gkinds_sort.len r'4.1)), res_tmp (.same _), trivial⟩, trivial⟩
    ·replace H := ite_else (ne_true h11) H
     refine sg [0, 1] rfl ?_
     refine rp rfl rfl (p_ieq rfl rfl rfl) ?_
     refine rp rfl rfl (p_asg rfl rfl) ?_
     refine RunW_st [(0, .i op0), (5, .q 5 (0)), (6, .q 6 (0)), (8, .clo 69 [(.ptr 5 (0)), (.ptr 4 (0))]), (11, .i op0), (30, .b (decide (op0 = (18 : Int))))] [(4, .pure ([(AV.int n1)])), (5, .pure (l2.toList.flatMap Gkinds_sort.cs)), (6, .pure (Gkinds_sort.cs Gkinds_sort.zero))] rfl ⟨TLes.same _, TLes.same _, TLes.same _, (fun _ => .same _), TLes.same _, TLes.same _, trivial⟩ ⟨rfl, rfl, rfl, trivial⟩ ?_
     refine RunW_nil ?_
     refine AW2_if (p := op0 = (18 : Int)) rfl (fun h13 => ?_) (fun h13 => ?_)
     ·replace H := ite_then h13 H
      refine sg [0, 1, 2, 3, 4, 5] rfl ?_
      refine rp rfl rfl (p_move rfl rfl) ?_
      refine bindK H fun r'5 h14 H => ?_
      refine rp rfl rfl (p_callc rfl rfl rfl Tryd.func69 rfl rfl (g_kinds_joined_1_i0_ac h14) (nlT (Gkinds_sort.nl r'5.1) (nlT rfl rfl)) ⟨lend_p rfl, lend_p rfl, lendc_ptr rfl (ne_of_lt (n := 0) (Nat.lt_of_lt_of_eq (by decide) (Eq.symm (vfm_len (fun x => (Gkinds_sort.len x)) l2)))), lendc_ptr rfl (List.cons_ne_nil _ _), trivial⟩) ?_
      refine rp rfl rfl (p_ext rfl rfl rfl rfl) ?_
      refine rp rfl rfl (p_ext rfl rfl rfl rfl) ?_
      refine r_op rfl rfl (u_st rfl rfl rfl rfl rfl in_54 (Gkinds_sort.len r'5.1) (ne_of_lt (n := 0) (Nat.lt_of_lt_of_eq (by decide) (Eq.symm (Gkinds_sort.len Gkinds_sort.zero)))) (Upd.refl ((Gkinds_sort.len r'5.1).trans (Gkinds_sort.len Gkinds_sort.zero).symm))) ?_
      refine rp rfl rfl (p_asg rfl rfl) ?_
      refine rz [(6, .q 6 (0)), (7, .i r'5.2)] [(6, .pure (Gkinds_sort.cs r'5.1))] rfl rfl rfl ?_
      refine AW2_ret ?_
      have hz := some_elim H
      subst hz
      exact ⟨⟨res_cella Tryd.underlying54 rfl in_54.sz rfl (Sub.le (Sub.refl _) (Gkinds_sort.len r'5.1)) (by decide) (Sub.take (Sub.refl _) (Gkinds_sort.len r'5.1)), res_tmp (.same _), trivial⟩, trivial⟩
     ·replace H := ite_else h13 H
      refine sg [0, 1] rfl ?_
      refine rp rfl rfl (p_ieq rfl rfl rfl) ?_
      refine rp rfl rfl (p_asg rfl rfl) ?_
      refine RunW_st [(0, .i op0), (5, .q 5 (0)), (6, .q 6 (0)), (8, .clo 69 [(.ptr 5 (0)), (.ptr 4 (0))]), (11, .i op0), (36, .b (decide (op0 = (19 : Int))))] [(4, .pure ([(AV.int n1)])), (5, .pure (l2.toList.flatMap Gkinds_sort.cs)), (6, .pure (Gkinds_sort.cs Gkinds_sort.zero))] rfl ⟨TLes.same _, TLes.same _, TLes.same _, (fun _ => .same _), TLes.same _, TLes.same _, trivial⟩ ⟨rfl, rfl, rfl, trivial⟩ ?_
      refine RunW_nil ?_
      refine AW2_if (p := op0 = (19 : Int)) rfl (fun h15 => ?_) (fun h15 => ?_)
      ·replace H := ite_then h15 H
       refine sg [0, 1, 2, 3, 4, 5] rfl ?_
       refine rp rfl rfl (p_move rfl rfl) ?_
       refine bindK H fun r'6 h16 H => ?_
       refine rp rfl rfl (p_callc rfl rfl rfl Tryd.func69 rfl rfl (g_kinds_joined_1_i0_ac h16) (nlT (Gkinds_sort.nl r'6.1) (nlT rfl rfl)) ⟨lend_p rfl, lend_p rfl, lendc_ptr rfl (ne_of_lt (n := 0) (Nat.lt_of_lt_of_eq (by decide) (Eq.symm (vfm_len (fun x => (Gkinds_sort.len x)) l2)))), lendc_ptr rfl (List.cons_ne_nil _ _), trivial⟩) ?_
       refine rp rfl rfl (p_ext rfl rfl rfl rfl) ?_
       refine rp rfl rfl (p_ext rfl rfl rfl rfl) ?_
       refine r_op rfl rfl (u_st rfl rfl rfl rfl rfl in_54 (Gkinds_sort.len r'6.1) (ne_of_lt (n := 0) (Nat.lt_of_lt_of_eq (by decide) (Eq.symm (Gkinds_sort.len Gkinds_sort.zero)))) (Upd.refl ((Gkinds_sort.len r'6.1).trans (Gkinds_sort.len Gkinds_sort.zero).symm))) ?_
       refine rp rfl rfl (p_asg rfl rfl) ?_
       refine rz [(6, .q 6 (0)), (7, .i r'6.2)] [(6, .pure (Gkinds_sort.cs r'6.1))] rfl rfl rfl ?_
       refine AW2_ret ?_
       have hz := some_elim H
       subst hz
       exact ⟨⟨res_cella Tryd.underlying54 rfl in_54.sz rfl (Sub.le (Sub.refl _) (Gkinds_sort.len r'6.1)) (by decide) (Sub.take (Sub.refl _) (Gkinds_sort.len r'6.1)), res_tmp (.same _), trivial⟩, trivial⟩
      ·replace H := ite_else h15 H
       refine sg [0, 1] rfl ?_
       refine rp rfl rfl (p_ieq rfl rfl rfl) ?_
       refine rp rfl rfl (p_asg rfl rfl) ?_
       refine rz [(0, .i op0), (5, .q 5 (0)), (6, .q 6 (0)), (42, .b (decide (op0 = (17 : Int))))] [(5, .pure (l2.toList.flatMap Gkinds_sort.cs)), (6, .pure (Gkinds_sort.cs Gkinds_sort.zero))] rfl rfl rfl ?_
       refine AW2_if (p := op0 = (17 : Int)) rfl (fun h17 => ?_) (fun h17 => ?_)
       ·replace H := ite_then h17 H
        refine sg [0, 1, 2] rfl ?_
        refine rp rfl rfl (u_bld rfl in_54 one_54 zc_54 pl_54 rfl (af_cons rfl rfl (Gkinds_sort.upd0 Gkinds_sort.zero (1 : Int)) (af_cons rfl rfl (Gkinds_sort.upd1 ((Gkinds_sort.w0 Gkinds_sort.zero (1 : Int))) false) rfl))) ?_
        refine r_op rfl rfl (u_st rfl rfl rfl rfl rfl in_54 (Gkinds_sort.len ((Gkinds_sort.w1 (Gkinds_sort.w0 Gkinds_sort.zero (1 : Int)) false))) (ne_of_lt (n := 0) (Nat.lt_of_lt_of_eq (by decide) (Eq.symm (Gkinds_sort.len Gkinds_sort.zero)))) (Upd.refl ((Gkinds_sort.len ((Gkinds_sort.w1 (Gkinds_sort.w0 Gkinds_sort.zero (1 : Int)) false))).trans (Gkinds_sort.len Gkinds_sort.zero).symm))) ?_
        refine rp rfl rfl (p_asg rfl rfl) ?_
        refine rz [(6, .q 6 (0)), (7, .i (0 : Int))] [(6, .pure (Gkinds_sort.cs ((Gkinds_sort.w1 (Gkinds_sort.w0 Gkinds_sort.zero (1 : Int)) false))))] rfl rfl rfl ?_
        refine AW2_ret ?_
        have hz := some_elim H
        subst hz
        exact ⟨⟨res_cella Tryd.underlying54 rfl in_54.sz rfl (Sub.le (Sub.refl _) (Gkinds_sort.len ((Gkinds_sort.w1 (Gkinds_sort.w0 Gkinds_sort.zero (1 : Int)) false)))) (by decide) (Sub.take (Sub.refl _) (Gkinds_sort.len ((Gkinds_sort.w1 (Gkinds_sort.w0 Gkinds_sort.zero (1 : Int)) false)))), res_tmp (.same _), trivial⟩, trivial⟩
       ·replace H := ite_else h17 H
        refine as2 [(0, .i op0), (5, .q 5 (0)), (6, .q 6 (0))] [(5, .pure (l2.toList.flatMap Gkinds_sort.cs)), (6, .pure (Gkinds_sort.cs Gkinds_sort.zero))] rfl rfl rfl ?_
        refine AW2_skip ?_
        refine sg [0, 1, 2, 3, 4, 5, 6] rfl ?_
        refine rp rfl rfl (u_ixp rfl rfl Tryd.underlying83 in_54 rfl rfl (ne_of_lt (n := 0) (Nat.lt_of_lt_of_eq (by decide) (Eq.symm (vfm_len (fun x => (Gkinds_sort.len x)) l2)))) rfl rfl (by decide)) ?_
        refine rp rfl rfl (u_lda rfl rfl Tryd.underlying54 rfl in_54 rfl (Nat.succ_pos _) ((Sub.refl _).trans (Sub.vfm (fun x => (Gkinds_sort.len x)) (by decide))) (Gkinds_sort.len (vrd l2 0))) ?_
        refine rp rfl rfl (u_ixp rfl rfl Tryd.underlying83 in_54 rfl rfl (ne_of_lt (n := 0) (Nat.lt_of_lt_of_eq (by decide) (Eq.symm (vfm_len (fun x => (Gkinds_sort.len x)) l2)))) rfl rfl (by decide)) ?_
        refine rp rfl rfl (u_lda rfl rfl Tryd.underlying54 rfl in_54 rfl (Nat.succ_pos _) ((Sub.refl _).trans (Sub.vfm (fun x => (Gkinds_sort.len x)) (by decide))) (Gkinds_sort.len (vrd l2 1))) ?_
        refine bindK H fun r'7 h18 H => ?_
        refine rp rfl rfl (p_callp rfl rfl rfl Tryd.func71 rfl rfl (g_kinds_sort_with_ac h18) ⟨rfl, rfl, trivial⟩) ?_
        refine r_op rfl rfl (MakeD.opD (u_alloc 9 rfl in_54 one_54 zc_54) rfl rfl rfl rfl) ?_
        refine r_op rfl rfl (u_st rfl rfl rfl rfl rfl in_54 (Gkinds_sort.len r'7) (ne_of_lt (n := 0) (Nat.lt_of_lt_of_eq (by decide) (Eq.symm (Gkinds_sort.len Gkinds_sort.zero)))) (Upd.refl ((Gkinds_sort.len r'7).trans (Gkinds_sort.len Gkinds_sort.zero).symm))) ?_
        refine rz [(0, .i op0), (5, .q 5 (0)), (6, .q 6 (0)), (9, .q 9 (0))] [(5, .pure (l2.toList.flatMap Gkinds_sort.cs)), (6, .pure (Gkinds_sort.cs Gkinds_sort.zero)), (9, .pure (Gkinds_sort.cs r'7))] rfl rfl rfl ?_
        refine AW2_seq ?_
        refine AW2_seq ?_
        refine bindK H fun g'12 h24 H => ?_
        refine AW2_mid (⟨[(0, .i op0), (5, .q 5 (0)), (6, .q 6 (0)), (9, .q 9 (0)), (63, .b g'12)], [(5, .pure (l2.toList.flatMap Gkinds_sort.cs)), (6, .pure (Gkinds_sort.cs Gkinds_sort.zero)), (9, .pure (Gkinds_sort.cs r'7))], 81⟩ : TS) ?_ ?_
        ·clear H
         have H := h24
         clear h24
         refine AW2_reg [0, 1, 2, 3, 4, 5, 6, 7, 8, 9, 10, 11, 12, 13] rfl ?_
         refine rp rfl rfl (u_ixp rfl rfl Tryd.underlying83 in_54 rfl rfl (ne_of_lt (n := 0) (Nat.lt_of_lt_of_eq (by decide) (Eq.symm (vfm_len (fun x => (Gkinds_sort.len x)) l2)))) rfl rfl (by decide)) ?_
         refine rp rfl rfl (u_lda rfl rfl Tryd.underlying54 rfl in_54 rfl (Nat.succ_pos _) ((Sub.refl _).trans (Sub.vfm (fun x => (Gkinds_sort.len x)) (by decide))) (Gkinds_sort.len (vrd l2 0))) ?_
         refine rp rfl rfl (u_fa rfl rfl Tryd.underlying54 rfl in_3 (Nat.succ_ne_zero _) rfl rfl (ne_of_lt (n := 0) (Nat.lt_of_lt_of_eq (by decide) (Eq.symm (Gkinds_sort.len r'7))))) ?_
         refine rp rfl rfl (u_ld rfl rfl Tryd.underlying3 rfl rfl ((Sub.refl _).trans (Gkinds_sort.sub0 r'7))) ?_
         refine bindK H fun r'10 h21 H => ?_
         refine rp rfl rfl (p_callp rfl rfl rfl Tryd.func70 rfl rfl (g_kinds_sort_fits_ac h21) ⟨rfl, rfl, trivial⟩) ?_
         refine rp rfl rfl (p_not rfl rfl) ?_
         refine rp rfl rfl (p_move rfl rfl) ?_
         refine (Classical.em ((!r'10) = true)).elim (fun h22 => ?_) (fun h22 => ?_)
         ·replace H := ite_then h22 H
          refine r_off rfl rfl rfl rfl h22 rfl rfl ?_
          refine r_off rfl rfl rfl rfl h22 rfl rfl ?_
          refine r_off rfl rfl rfl rfl h22 rfl rfl ?_
          refine r_off rfl rfl rfl rfl h22 rfl rfl ?_
          refine r_off rfl rfl rfl rfl h22 rfl rfl ?_
          refine r_off rfl rfl rfl rfl h22 rfl rfl ?_
          refine rp rfl rfl (p_pkt rfl rfl h22 (.same _)) ?_
          refine rs [(0, .i op0), (5, .q 5 (0)), (6, .q 6 (0)), (9, .q 9 (0)), (63, .b true)] [(5, .pure (l2.toList.flatMap Gkinds_sort.cs)), (6, .pure (Gkinds_sort.cs Gkinds_sort.zero)), (9, .pure (Gkinds_sort.cs r'7))] rfl rfl rfl ?_
          have hz := some_elim H
          subst hz
          exact RunW_nil rfl
         ·replace H := ite_else h22 H
          refine r_on rfl rfl rfl rfl (bfalse h22) rfl (PureD.opD (u_ixp rfl rfl Tryd.underlying83 in_54 rfl rfl (ne_of_lt (n := 0) (Nat.lt_of_lt_of_eq (by decide) (Eq.symm (vfm_len (fun x => (Gkinds_sort.len x)) l2)))) rfl rfl (by decide))) ?_
          refine r_on rfl rfl rfl rfl (bfalse h22) rfl (PureD.opD (u_lda rfl rfl Tryd.underlying54 rfl in_54 rfl (Nat.succ_pos _) ((Sub.refl _).trans (Sub.vfm (fun x => (Gkinds_sort.len x)) (by decide))) (Gkinds_sort.len (vrd l2 1)))) ?_
          refine r_on rfl rfl rfl rfl (bfalse h22) rfl (PureD.opD (u_fa rfl rfl Tryd.underlying54 rfl in_3 (Nat.succ_ne_zero _) rfl rfl (ne_of_lt (n := 0) (Nat.lt_of_lt_of_eq (by decide) (Eq.symm (Gkinds_sort.len r'7)))))) ?_
          refine r_on rfl rfl rfl rfl (bfalse h22) rfl (PureD.opD (u_ld rfl rfl Tryd.underlying3 rfl rfl ((Sub.refl _).trans (Gkinds_sort.sub0 r'7)))) ?_
          refine bindK H fun r'11 h23 H => ?_
          refine r_on rfl rfl rfl rfl (bfalse h22) rfl (PureD.opD (p_callp rfl rfl rfl Tryd.func70 rfl rfl (g_kinds_sort_fits_ac h23) ⟨rfl, rfl, trivial⟩)) ?_
          refine r_on rfl rfl rfl rfl (bfalse h22) rfl (PureD.opD (p_not rfl rfl)) ?_
          refine rp rfl rfl (p_pkf rfl rfl (bfalse h22) (.same _)) ?_
          refine rs [(0, .i op0), (5, .q 5 (0)), (6, .q 6 (0)), (9, .q 9 (0)), (63, .b (!r'11))] [(5, .pure (l2.toList.flatMap Gkinds_sort.cs)), (6, .pure (Gkinds_sort.cs Gkinds_sort.zero)), (9, .pure (Gkinds_sort.cs r'7))] rfl rfl rfl ?_
          have hz := some_elim H
          subst hz
          exact RunW_nil rfl
        ·refine AW2_cond rfl (fun h25 => ?_) (fun h25 => ?_)
         ·replace H := ite_then h25 H
          refine sg [0, 1, 2] rfl ?_
          refine rp rfl rfl (u_bld rfl in_54 one_54 zc_54 pl_54 rfl rfl) ?_
          refine r_op rfl rfl (u_st rfl rfl rfl rfl rfl in_54 (Gkinds_sort.len Gkinds_sort.zero) (ne_of_lt (n := 0) (Nat.lt_of_lt_of_eq (by decide) (Eq.symm (Gkinds_sort.len Gkinds_sort.zero)))) (Upd.refl ((Gkinds_sort.len Gkinds_sort.zero).trans (Gkinds_sort.len Gkinds_sort.zero).symm))) ?_
          refine rp rfl rfl (p_asg rfl rfl) ?_
          refine rz [(6, .q 6 (0)), (7, .i (2 : Int))] [(6, .pure (Gkinds_sort.cs Gkinds_sort.zero))] rfl rfl rfl ?_
          refine AW2_ret ?_
          have hz := some_elim H
          subst hz
          exact ⟨⟨res_cella Tryd.underlying54 rfl in_54.sz rfl (Sub.le (Sub.refl _) (Gkinds_sort.len Gkinds_sort.zero)) (by decide) (Sub.take (Sub.refl _) (Gkinds_sort.len Gkinds_sort.zero)), res_tmp (.same _), trivial⟩, trivial⟩
         ·replace H := ite_else (ne_true h25) H
          refine as2 [(0, .i op0), (5, .q 5 (0)), (6, .q 6 (0)), (9, .q 9 (0))] [(5, .pure (l2.toList.flatMap Gkinds_sort.cs)), (6, .pure (Gkinds_sort.cs Gkinds_sort.zero)), (9, .pure (Gkinds_sort.cs r'7))] rfl rfl rfl ?_
          refine AW2_skip ?_
          refine AW2_seq ?_
          refine sg [0, 1] rfl ?_
          refine rp rfl rfl (p_move rfl rfl) ?_
          refine rp rfl rfl (p_ieq rfl rfl rfl) ?_
          refine rz [(5, .q 5 (0)), (6, .q 6 (0)), (9, .q 9 (0)), (66, .b (decide (op0 = (20 : Int))))] [(5, .pure (l2.toList.flatMap Gkinds_sort.cs)), (6, .pure (Gkinds_sort.cs Gkinds_sort.zero)), (9, .pure (Gkinds_sort.cs r'7))] rfl rfl rfl ?_
          refine AW2_if (p := op0 = (20 : Int)) rfl (fun h26 => ?_) (fun h26 => ?_)
          ·replace H := ite_then h26 H
           refine AW2_seq ?_
           refine AW2_mid (⟨[(6, .q 6 (0)), (7, .i (0 : Int))], [(6, .pure (Gkinds_sort.cs ((Gkinds_sort.w1 (Gkinds_sort.w0 Gkinds_sort.zero r'7.kind_) (decide ((((vrd l2 0).null_) = true) ∧ (((vrd l2 1).null_) = true)))))))], 81⟩ : TS) ?_ ?_
           ·refine AW2_reg [0, 1, 2, 3, 4, 5, 6, 7, 8, 9, 10, 11, 12] rfl ?_
            refine rp rfl rfl (u_fa rfl rfl Tryd.underlying54 rfl in_3 (Nat.succ_ne_zero _) rfl rfl (ne_of_lt (n := 0) (Nat.lt_of_lt_of_eq (by decide) (Eq.symm (Gkinds_sort.len r'7))))) ?_
            refine rp rfl rfl (u_ld rfl rfl Tryd.underlying3 rfl rfl ((Sub.refl _).trans (Gkinds_sort.sub0 r'7))) ?_
            refine rp rfl rfl (u_ixp rfl rfl Tryd.underlying83 in_54 rfl rfl (ne_of_lt (n := 0) (Nat.lt_of_lt_of_eq (by decide) (Eq.symm (vfm_len (fun x => (Gkinds_sort.len x)) l2)))) rfl rfl (by decide)) ?_
            refine rp rfl rfl (u_fa rfl rfl Tryd.underlying54 rfl in_4 (Nat.succ_ne_zero _) rfl rfl (ne_of_lt (n := 0) (Nat.lt_of_lt_of_eq (by decide) (Eq.symm (vfm_len (fun x => (Gkinds_sort.len x)) l2))))) ?_
            refine rp rfl rfl (u_ld rfl rfl Tryd.underlying4 rfl rfl (((Sub.refl _).trans (Sub.vfm (fun x => (Gkinds_sort.len x)) (by decide))).trans (Gkinds_sort.sub1 (vrd l2 0)))) ?_
            refine rp rfl rfl (p_move rfl rfl) ?_
            refine (Classical.em (((vrd l2 0).null_) = true)).elim (fun h27 => ?_) (fun h27 => ?_)
            ·refine rn rfl rfl rfl rfl h27 rfl (u_ixp rfl rfl Tryd.underlying83 in_54 rfl rfl (ne_of_lt (n := 0) (Nat.lt_of_lt_of_eq (by decide) (Eq.symm (vfm_len (fun x => (Gkinds_sort.len x)) l2)))) rfl rfl (by decide)) ?_
             refine rn rfl rfl rfl rfl h27 rfl (u_fa rfl rfl Tryd.underlying54 rfl in_4 (Nat.succ_ne_zero _) rfl rfl (ne_of_lt (n := 0) (Nat.lt_of_lt_of_eq (by decide) (Eq.symm (vfm_len (fun x => (Gkinds_sort.len x)) l2))))) ?_
             refine rn rfl rfl rfl rfl h27 rfl (u_ld rfl rfl Tryd.underlying4 rfl rfl (((Sub.refl _).trans (Sub.vfm (fun x => (Gkinds_sort.len x)) (by decide))).trans (Gkinds_sort.sub1 (vrd l2 1)))) ?_
             refine rp rfl rfl (p_pkt rfl rfl h27 (tb ((bdec _).trans (and_l (p := ((vrd l2 0).null_) = true) (q := ((vrd l2 1).null_) = true) h27)))) ?_
             refine rp rfl rfl (u_bld rfl in_54 one_54 zc_54 pl_54 rfl (af_cons rfl rfl (Gkinds_sort.upd0 Gkinds_sort.zero r'7.kind_) (af_cons rfl rfl (Gkinds_sort.upd1 ((Gkinds_sort.w0 Gkinds_sort.zero r'7.kind_)) (decide ((((vrd l2 0).null_) = true) ∧ (((vrd l2 1).null_) = true)))) rfl))) ?_
             refine r_op rfl rfl (u_st rfl rfl rfl rfl rfl in_54 (Gkinds_sort.len ((Gkinds_sort.w1 (Gkinds_sort.w0 Gkinds_sort.zero r'7.kind_) (decide ((((vrd l2 0).null_) = true) ∧ (((vrd l2 1).null_) = true)))))) (ne_of_lt (n := 0) (Nat.lt_of_lt_of_eq (by decide) (Eq.symm (Gkinds_sort.len Gkinds_sort.zero)))) (Upd.refl ((Gkinds_sort.len ((Gkinds_sort.w1 (Gkinds_sort.w0 Gkinds_sort.zero r'7.kind_) (decide ((((vrd l2 0).null_) = true) ∧ (((vrd l2 1).null_) = true)))))).trans (Gkinds_sort.len Gkinds_sort.zero).symm))) ?_
             refine rp rfl rfl (p_asg rfl rfl) ?_
             refine rs [(6, .q 6 (0)), (7, .i (0 : Int))] [(6, .pure (Gkinds_sort.cs ((Gkinds_sort.w1 (Gkinds_sort.w0 Gkinds_sort.zero r'7.kind_) (decide ((((vrd l2 0).null_) = true) ∧ (((vrd l2 1).null_) = true)))))))] rfl rfl rfl ?_
             exact RunW_nil rfl
            ·refine r_off rfl rfl rfl rfl (bfalse h27) rfl rfl ?_
             refine r_off rfl rfl rfl rfl (bfalse h27) rfl rfl ?_
             refine r_off rfl rfl rfl rfl (bfalse h27) rfl rfl ?_
             refine rp rfl rfl (p_pkf rfl rfl (bfalse h27) (tb (decide_eq_false (p := (((vrd l2 0).null_) = true) ∧ (((vrd l2 1).null_) = true)) (fun x => h27 x.1)).symm)) ?_
             refine rp rfl rfl (u_bld rfl in_54 one_54 zc_54 pl_54 rfl (af_cons rfl rfl (Gkinds_sort.upd0 Gkinds_sort.zero r'7.kind_) (af_cons rfl rfl (Gkinds_sort.upd1 ((Gkinds_sort.w0 Gkinds_sort.zero r'7.kind_)) (decide ((((vrd l2 0).null_) = true) ∧ (((vrd l2 1).null_) = true)))) rfl))) ?_
             refine r_op rfl rfl (u_st rfl rfl rfl rfl rfl in_54 (Gkinds_sort.len ((Gkinds_sort.w1 (Gkinds_sort.w0 Gkinds_sort.zero r'7.kind_) (decide ((((vrd l2 0).null_) = true) ∧ (((vrd l2 1).null_) = true)))))) (ne_of_lt (n := 0) (Nat.lt_of_lt_of_eq (by decide) (Eq.symm (Gkinds_sort.len Gkinds_sort.zero)))) (Upd.refl ((Gkinds_sort.len ((Gkinds_sort.w1 (Gkinds_sort.w0 Gkinds_sort.zero r'7.kind_) (decide ((((vrd l2 0).null_) = true) ∧ (((vrd l2 1).null_) = true)))))).trans (Gkinds_sort.len Gkinds_sort.zero).symm))) ?_
             refine rp rfl rfl (p_asg rfl rfl) ?_
             refine rs [(6, .q 6 (0)), (7, .i (0 : Int))] [(6, .pure (Gkinds_sort.cs ((Gkinds_sort.w1 (Gkinds_sort.w0 Gkinds_sort.zero r'7.kind_) (decide ((((vrd l2 0).null_) = true) ∧ (((vrd l2 1).null_) = true)))))))] rfl rfl rfl ?_
             exact RunW_nil rfl
           ·refine gen1 (fun t6'13 => (⟨[(6, .q 6 (0)), (7, .i (0 : Int))], [(6, .pure (Gkinds_sort.cs t6'13))], 81⟩ : TS)) H ?_
            intro t6'13 H
            refine AW2_ret ?_
            have hz := some_elim H
            subst hz
            exact ⟨⟨res_cella Tryd.underlying54 rfl in_54.sz rfl (Sub.le (Sub.refl _) (Gkinds_sort.len t6'13)) (by decide) (Sub.take (Sub.refl _) (Gkinds_sort.len t6'13)), res_tmp (.same _), trivial⟩, trivial⟩
          ·replace H := ite_else h26 H
           refine as2 [(6, .q 6 (0)), (9, .q 9 (0))] [(6, .pure (Gkinds_sort.cs Gkinds_sort.zero)), (9, .pure (Gkinds_sort.cs r'7))] rfl rfl rfl ?_
           refine AW2_skip ?_
           refine sg [0, 1, 2, 3, 4] rfl ?_
           refine rp rfl rfl (u_fa rfl rfl Tryd.underlying54 rfl in_4 (Nat.succ_ne_zero _) rfl rfl (ne_of_lt (n := 0) (Nat.lt_of_lt_of_eq (by decide) (Eq.symm (Gkinds_sort.len r'7))))) ?_
           refine rp rfl rfl (u_ld rfl rfl Tryd.underlying4 rfl rfl ((Sub.refl _).trans (Gkinds_sort.sub1 r'7))) ?_
           refine rp rfl rfl (u_bld rfl in_54 one_54 zc_54 pl_54 rfl (af_cons rfl rfl (Gkinds_sort.upd0 Gkinds_sort.zero (1 : Int)) (af_cons rfl rfl (Gkinds_sort.upd1 ((Gkinds_sort.w0 Gkinds_sort.zero (1 : Int))) r'7.null_) rfl))) ?_
           refine r_op rfl rfl (u_st rfl rfl rfl rfl rfl in_54 (Gkinds_sort.len ((Gkinds_sort.w1 (Gkinds_sort.w0 Gkinds_sort.zero (1 : Int)) r'7.null_))) (ne_of_lt (n := 0) (Nat.lt_of_lt_of_eq (by decide) (Eq.symm (Gkinds_sort.len Gkinds_sort.zero)))) (Upd.refl ((Gkinds_sort.len ((Gkinds_sort.w1 (Gkinds_sort.w0 Gkinds_sort.zero (1 : Int)) r'7.null_))).trans (Gkinds_sort.len Gkinds_sort.zero).symm))) ?_
           refine rp rfl rfl (p_asg rfl rfl) ?_
           refine rz [(6, .q 6 (0)), (7, .i (0 : Int))] [(6, .pure (Gkinds_sort.cs ((Gkinds_sort.w1 (Gkinds_sort.w0 Gkinds_sort.zero (1 : Int)) r'7.null_))))] rfl rfl rfl ?_
           refine gen1 (fun t6'14 => (⟨[(6, .q 6 (0)), (7, .i (0 : Int))], [(6, .pure (Gkinds_sort.cs t6'14))], 81⟩ : TS)) H ?_
           intro t6'14 H
           refine AW2_ret ?_
           have hz := some_elim H
           subst hz
           exact ⟨⟨res_cella Tryd.underlying54 rfl in_54.sz rfl (Sub.le (Sub.refl _) (Gkinds_sort.len t6'14)) (by decide) (Sub.take (Sub.refl _) (Gkinds_sort.len t6'14)), res_tmp (.same _), trivial⟩, trivial⟩

/-! kinds.of -/
noncomputable def g_kinds_of_l0 (e0 : GExpr) (cols1 : List GColumn) : Int → Option (Int ⊕ ((Gkinds_sort × Int) ⊕ Unit))
  | t29_0 => (if t29_0 < (cols1.length : Int) then if 0 ≤ t29_0 ∧ t29_0 < (cols1.length : Int) then (if (lrd cols1 t29_0.toNat).Name = e0.Name then letO ({ { Gkinds_sort.zero with kind_ := (lrd cols1 t29_0.toNat).Kind } with null_ := (lrd cols1 t29_0.toNat).Null }) fun t4'2 => some (.inr (.inl (t4'2, (0 : Int)))) else some (.inl (w64 (t29_0 + (1 : Int))))) else none else some (.inr (.inr ())))
noncomputable def g_kinds_of_l1 (e0 : GExpr) (cols1 : List GColumn) (R' : GExpr → (List GColumn) → Option (Gkinds_sort × Int)) : Int × (Vector Gkinds_sort 2) → Option ((Int × (Vector Gkinds_sort 2)) ⊕ ((Gkinds_sort × Int) ⊕ ((Vector Gkinds_sort 2))))
  | (t48_1, l8_1) => (if t48_1 < (e0.Args.length : Int) then if 0 ≤ t48_1 ∧ t48_1 < (e0.Args.length : Int) then (R' (lrd e0.Args t48_1.toNat) cols1).bind fun r'9 => (if r'9.2 ≠ (0 : Int) then some (.inr (.inl (Gkinds_sort.zero, r'9.2))) else if 0 ≤ t48_1 ∧ t48_1 < (2 : Int) then some (.inl (w64 (t48_1 + (1 : Int)), (vwr l8_1 t48_1.toNat r'9.1))) else none) else none else some (.inr (.inr l8_1)))
noncomputable def g_kinds_of_b (R' : GExpr → (List GColumn) → Option (Gkinds_sort × Int)) (e0 : GExpr) (cols1 : List GColumn) : Option (Gkinds_sort × Int) :=
  (if e0.Op = (1 : Int) then letO ({ { Gkinds_sort.zero with kind_ := e0.Value.Kind } with null_ := (decide (e0.Value.Kind = (0 : Int))) }) fun t4'1 => some (t4'1, (0 : Int)) else (if e0.Op = (2 : Int) then (loopO (g_kinds_of_l0 e0 cols1) (0 : Int)).bind fun o'6 => match o'6 with | .inl y'7 => some y'7 | .inr (y'8) => some (Gkinds_sort.zero, (5 : Int)) else (loopO (g_kinds_of_l1 e0 cols1 R') ((0 : Int), (Vector.replicate 2 Gkinds_sort.zero))).bind fun o'13 => match o'13 with | .inl y'14 => some y'14 | .inr (y'15) => (g_kinds_joined e0.Op (e0.Args.length : Int) y'15).bind fun r'16 => some (r'16.1, r'16.2)))
noncomputable def g_kinds_of : Nat → GExpr → (List GColumn) → Option (Gkinds_sort × Int)
  | 0, _, _ => none
  | fu + 1, e0, cols1 => g_kinds_of_b (g_kinds_of fu) e0 cols1
set_option maxHeartbeats 4000000 in
set_option maxRecDepth 100000 in
theorem g_kinds_of_ac0 {R' : GExpr → (List GColumn) → Option (Gkinds_sort × Int)} (hR : ∀ {e0 : GExpr} {cols1 : List GColumn} {r : Gkinds_sort × Int}, R' e0 cols1 = some r → ACp Tryd.prog 20 [(.agg (GExpr.cs e0)), ((fun q : List GColumn => AV.lst (q.flatMap GColumn.cs) q.length) cols1)] (.tup [(.agg (Gkinds_sort.cs r.1)), (AV.int r.2)])) {e0 : GExpr} {cols1 : List GColumn} {r : Gkinds_sort × Int} (H : g_kinds_of_b R' e0 cols1 = some r) : ACp Tryd.prog 20 [(.agg (GExpr.cs e0)), ((fun q : List GColumn => AV.lst (q.flatMap GColumn.cs) q.length) cols1)] (.tup [(.agg (Gkinds_sort.cs r.1)), (AV.int r.2)]) := by
 refine ACp_of (AC2_of_body (vs := [.g (Gkinds_sort.cs r.1), .i r.2]) Tryd.func20 rfl rfl (Nat.le_of_ble_eq_true rfl) rfl ?_) (fun _ => .same _)
 unfold g_kinds_of_b at H
 refine as2 [(0, .g (GExpr.cs e0)), (1, .p ((fun q : List GColumn => AV.lst (q.flatMap GColumn.cs) q.length) cols1))] [] rfl rfl rfl ?_
 refine sg [0, 1, 2] rfl ?_
 refine r_op rfl rfl (MakeD.opD (n_box 2 rfl rfl) rfl rfl rfl rfl) ?_
 refine r_op rfl rfl (MakeD.opD (u_alloc 4 rfl in_54 one_54 zc_54) rfl rfl rfl rfl) ?_
 refine rp rfl rfl (p_asg rfl rfl) ?_
 refine rz [(1, .p ((fun q : List GColumn => AV.lst (q.flatMap GColumn.cs) q.length) cols1)), (2, .q 2 (0)), (4, .q 4 (0))] [(2, .pure (GExpr.cs e0)), (4, .pure (Gkinds_sort.cs Gkinds_sort.zero))] rfl rfl rfl ?_
 refine AW2_seq ?_
 refine sg [0, 1] rfl ?_
 refine rp rfl rfl (u_fa rfl rfl Tryd.underlying27 rfl in_3 (Nat.succ_ne_zero _) rfl rfl (ne_of_lt (n := 0) (Nat.lt_of_lt_of_eq (by decide) (Eq.symm (GExpr.len e0))))) ?_
 refine rp rfl rfl (u_ld rfl rfl Tryd.underlying3 rfl rfl ((Sub.refl _).trans (GExpr.sub0 e0))) ?_
 refine rz [(1, .p ((fun q : List GColumn => AV.lst (q.flatMap GColumn.cs) q.length) cols1)), (2, .q 2 (0)), (4, .q 4 (0)), (14, .i e0.Op)] [(2, .pure (GExpr.cs e0)), (4, .pure (Gkinds_sort.cs Gkinds_sort.zero))] rfl rfl rfl ?_
 refine AW2_block ?_
 refine sg [0, 1] rfl ?_
 refine rp rfl rfl (p_ieq rfl rfl rfl) ?_
 refine rp rfl rfl (p_asg rfl rfl) ?_
 refine rz [(1, .p ((fun q : List GColumn => AV.lst (q.flatMap GColumn.cs) q.length) cols1)), (2, .q 2 (0)), (4, .q 4 (0)), (14, .i e0.Op), (15, .b (decide (e0.Op = (1 : Int))))] [(2, .pure (GExpr.cs e0)), (4, .pure (Gkinds_sort.cs Gkinds_sort.zero))] rfl rfl rfl ?_
 refine AW2_if (p := e0.Op = (1 : Int)) rfl (fun h1 => ?_) (fun h1 => ?_)
 ·replace H := ite_then h1 H
  refine sg [0, 1, 2, 3, 4, 5, 6, 7, 8, 9] rfl ?_
  refine rp rfl rfl (u_fa rfl rfl Tryd.underlying27 rfl in_24 (Nat.succ_ne_zero _) rfl rfl (ne_of_lt (n := 0) (Nat.lt_of_lt_of_eq (by decide) (Eq.symm (GExpr.len e0))))) ?_
  refine rp rfl rfl (u_fa rfl rfl Tryd.underlying24 rfl in_3 (Nat.succ_ne_zero _) rfl rfl (ne_of_lt (n := 0) (Nat.lt_of_lt_of_eq (by decide) (Eq.symm (GExpr.len e0))))) ?_
  refine rp rfl rfl (u_ld rfl rfl Tryd.underlying3 rfl rfl (((Sub.refl _).trans (GExpr.sub1 e0)).trans (GValue.sub0 e0.Value))) ?_
  refine rp rfl rfl (u_fa rfl rfl Tryd.underlying27 rfl in_24 (Nat.succ_ne_zero _) rfl rfl (ne_of_lt (n := 0) (Nat.lt_of_lt_of_eq (by decide) (Eq.symm (GExpr.len e0))))) ?_
  refine rp rfl rfl (u_fa rfl rfl Tryd.underlying24 rfl in_3 (Nat.succ_ne_zero _) rfl rfl (ne_of_lt (n := 0) (Nat.lt_of_lt_of_eq (by decide) (Eq.symm (GExpr.len e0))))) ?_
  refine rp rfl rfl (u_ld rfl rfl Tryd.underlying3 rfl rfl (((Sub.refl _).trans (GExpr.sub1 e0)).trans (GValue.sub0 e0.Value))) ?_
  refine rp rfl rfl (p_ieq rfl rfl rfl) ?_
  refine rp rfl rfl (u_bld rfl in_54 one_54 zc_54 pl_54 rfl (af_cons rfl rfl (Gkinds_sort.upd0 Gkinds_sort.zero e0.Value.Kind) (af_cons rfl rfl (Gkinds_sort.upd1 ((Gkinds_sort.w0 Gkinds_sort.zero e0.Value.Kind)) (decide (e0.Value.Kind = (0 : Int)))) rfl))) ?_
  refine r_op rfl rfl (u_st rfl rfl rfl rfl rfl in_54 (Gkinds_sort.len ((Gkinds_sort.w1 (Gkinds_sort.w0 Gkinds_sort.zero e0.Value.Kind) (decide (e0.Value.Kind = (0 : Int)))))) (ne_of_lt (n := 0) (Nat.lt_of_lt_of_eq (by decide) (Eq.symm (Gkinds_sort.len Gkinds_sort.zero)))) (Upd.refl ((Gkinds_sort.len ((Gkinds_sort.w1 (Gkinds_sort.w0 Gkinds_sort.zero e0.Value.Kind) (decide (e0.Value.Kind = (0 : Int)))))).trans (Gkinds_sort.len Gkinds_sort.zero).symm))) ?_
  refine rp rfl rfl (p_asg rfl rfl) ?_
  refine rz [(4, .q 4 (0)), (5, .i (0 : Int))] [(4, .pure (Gkinds_sort.cs ((Gkinds_sort.w1 (Gkinds_sort.w0 Gkinds_sort.zero e0.Value.Kind) (decide (e0.Value.Kind = (0 : Int)))))))] rfl rfl rfl ?_
  refine gen1 (fun t4'1 => (⟨[(4, .q 4 (0)), (5, .i (0 : Int))], [(4, .pure (Gkinds_sort.cs t4'1))], 76⟩ : TS)) H ?_
  intro t4'1 H
  refine AW2_ret ?_
  have hz := some_elim H
  subst hz
  exact ⟨⟨res_cella Tryd.underlying54 rfl in_54.sz rfl (Sub.le (Sub.refl _) (Gkinds_sort.len t4'1)) (by decide) (Sub.take (Sub.refl _) (Gkinds_sort.len t4'1)), res_tmp (.same _), trivial⟩, trivial⟩
 ·replace H := ite_else h1 H
  refine sg [0, 1] rfl ?_
  refine rp rfl rfl (p_ieq rfl rfl rfl) ?_
  refine rp rfl rfl (p_asg rfl rfl) ?_
  refine rz [(1, .p ((fun q : List GColumn => AV.lst (q.flatMap GColumn.cs) q.length) cols1)), (2, .q 2 (0)), (4, .q 4 (0)), (25, .b (decide (e0.Op = (2 : Int))))] [(2, .pure (GExpr.cs e0)), (4, .pure (Gkinds_sort.cs Gkinds_sort.zero))] rfl rfl rfl ?_
  refine AW2_if (p := e0.Op = (2 : Int)) rfl (fun h2 => ?_) (fun h2 => ?_)
  ·replace H := ite_then h2 H
   refine AW2_seq ?_
   refine sg [0, 1, 2] rfl ?_
   refine rp rfl rfl (p_move rfl rfl) ?_
   refine rp rfl rfl (p_lenl rfl Tryd.underlying28 rfl rfl) ?_
   refine rp rfl rfl (p_move rfl rfl) ?_
   refine rz [(2, .q 2 (0)), (4, .q 4 (0)), (27, .p ((fun q : List GColumn => AV.lst (q.flatMap GColumn.cs) q.length) cols1)), (28, .i (cols1.length : Int)), (29, .i (0 : Int))] [(2, .pure (GExpr.cs e0)), (4, .pure (Gkinds_sort.cs Gkinds_sort.zero))] rfl rfl rfl ?_
   refine AW2_block ?_
   refine as2 [(2, .q 2 (0)), (4, .q 4 (0)), (27, .p ((fun q : List GColumn => AV.lst (q.flatMap GColumn.cs) q.length) cols1)), (28, .i (cols1.length : Int)), (29, .i (0 : Int))] [(2, .pure (GExpr.cs e0)), (4, .pure (Gkinds_sort.cs Gkinds_sort.zero))] rfl rfl rfl ?_
   refine bindK H fun o'6 h6 H => ?_
   refine AW2_loopO (fun a'3 : Int => (⟨[(2, .q 2 (0)), (4, .q 4 (0)), (27, .p ((fun q : List GColumn => AV.lst (q.flatMap GColumn.cs) q.length) cols1)), (28, .i (cols1.length : Int)), (29, .i a'3)], [(2, .pure (GExpr.cs e0)), (4, .pure (Gkinds_sort.cs Gkinds_sort.zero))], 76⟩ : TS)) (fun (o : (Gkinds_sort × Int) ⊕ Unit) e s' => match o with | .inl y'4 => e = Go.Exit.ret ∧ ResAll Tryd.prog s' [ResultVar.cell 4 54, ResultVar.tmp 5] [.g (Gkinds_sort.cs y'4.1), .i y'4.2] ∧ HFits s' [] | .inr (y'5) => e = Go.Exit.exit 1 ∧ s' = (⟨[(4, .q 4 (0))], [(4, .pure (Gkinds_sort.cs Gkinds_sort.zero))], 76⟩ : TS)) h6 rfl (fun t29_0 x hx => ?_) (fun e s' hs => ?_)
   ·clear H
    have H := hx
    clear hx
    unfold g_kinds_of_l0 at H
    refine sg [0] rfl ?_
    refine rp rfl rfl (p_bin rfl rfl rfl rfl) ?_
    refine rz [(2, .q 2 (0)), (4, .q 4 (0)), (27, .p ((fun q : List GColumn => AV.lst (q.flatMap GColumn.cs) q.length) cols1)), (28, .i (cols1.length : Int)), (29, .i t29_0), (30, .b (decide (t29_0 < (cols1.length : Int))))] [(2, .pure (GExpr.cs e0)), (4, .pure (Gkinds_sort.cs Gkinds_sort.zero))] rfl rfl rfl ?_
    refine AW2_seq ?_
    refine AW2_if (p := t29_0 < (cols1.length : Int)) rfl (fun h3 => ?_) (fun h3 => ?_)
    ·replace H := ite_then h3 H
     refine as2 [(2, .q 2 (0)), (4, .q 4 (0)), (27, .p ((fun q : List GColumn => AV.lst (q.flatMap GColumn.cs) q.length) cols1)), (28, .i (cols1.length : Int)), (29, .i t29_0)] [(2, .pure (GExpr.cs e0)), (4, .pure (Gkinds_sort.cs Gkinds_sort.zero))] rfl rfl rfl ?_
     refine AW2_skip ?_
     refine AW2_seq ?_
     refine AW2_block ?_
     refine sg [0, 1, 2, 3] rfl ?_
     refine chkK H fun h4 H => ?_
     refine rp rfl rfl (u_ixl rfl rfl Tryd.underlying28 in_59 rfl rfl (ixe h4) (ixn h4) (fne (fun x => (GColumn.len x)) (by decide) (ixn h4))) ?_
     refine rp rfl rfl (u_lda rfl rfl Tryd.underlying59 rfl in_59 rfl (Nat.succ_pos _) (Sub.fm default (fun x => (GColumn.len x)) (ixn h4)) (GColumn.len (lrd cols1 t29_0.toNat))) ?_
     refine r_op rfl rfl (MakeD.opD (u_alloc 7 rfl in_59 one_59 zc_59) rfl rfl rfl rfl) ?_
     refine r_op rfl rfl (u_st rfl rfl rfl rfl rfl in_59 (GColumn.len (lrd cols1 t29_0.toNat)) (ne_of_lt (n := 0) (Nat.lt_of_lt_of_eq (by decide) (Eq.symm (GColumn.len GColumn.zero)))) (Upd.refl ((GColumn.len (lrd cols1 t29_0.toNat)).trans (GColumn.len GColumn.zero).symm))) ?_
     refine rz [(2, .q 2 (0)), (4, .q 4 (0)), (7, .q 7 (0)), (27, .p ((fun q : List GColumn => AV.lst (q.flatMap GColumn.cs) q.length) cols1)), (28, .i (cols1.length : Int)), (29, .i t29_0)] [(2, .pure (GExpr.cs e0)), (4, .pure (Gkinds_sort.cs Gkinds_sort.zero)), (7, .pure (GColumn.cs (lrd cols1 t29_0.toNat)))] rfl rfl rfl ?_
     refine sg [0, 1, 2, 3, 4] rfl ?_
     refine rp rfl rfl (u_fa rfl rfl Tryd.underlying59 rfl in_9 (Nat.succ_ne_zero _) rfl rfl (ne_of_lt (n := 0) (Nat.lt_of_lt_of_eq (by decide) (Eq.symm (GColumn.len (lrd cols1 t29_0.toNat)))))) ?_
     refine rp rfl rfl (u_ld rfl rfl Tryd.underlying9 rfl rfl ((Sub.refl _).trans (GColumn.sub0 (lrd cols1 t29_0.toNat)))) ?_
     refine rp rfl rfl (u_fa rfl rfl Tryd.underlying27 rfl in_9 (Nat.succ_ne_zero _) rfl rfl (ne_of_lt (n := 0) (Nat.lt_of_lt_of_eq (by decide) (Eq.symm (GExpr.len e0))))) ?_
     refine rp rfl rfl (u_ld rfl rfl Tryd.underlying9 rfl rfl ((Sub.refl _).trans (GExpr.sub2 e0))) ?_
     refine rp rfl rfl (p_seq rfl rfl rfl) ?_
     refine rz [(2, .q 2 (0)), (4, .q 4 (0)), (7, .q 7 (0)), (27, .p ((fun q : List GColumn => AV.lst (q.flatMap GColumn.cs) q.length) cols1)), (28, .i (cols1.length : Int)), (29, .i t29_0), (37, .b (decide ((lrd cols1 t29_0.toNat).Name = e0.Name)))] [(2, .pure (GExpr.cs e0)), (4, .pure (Gkinds_sort.cs Gkinds_sort.zero)), (7, .pure (GColumn.cs (lrd cols1 t29_0.toNat)))] rfl rfl rfl ?_
     refine AW2_if (p := (lrd cols1 t29_0.toNat).Name = e0.Name) rfl (fun h5 => ?_) (fun h5 => ?_)
     ·replace H := ite_then h5 H
      refine sg [0, 1, 2, 3, 4, 5, 6] rfl ?_
      refine rp rfl rfl (u_fa rfl rfl Tryd.underlying59 rfl in_3 (Nat.succ_ne_zero _) rfl rfl (ne_of_lt (n := 0) (Nat.lt_of_lt_of_eq (by decide) (Eq.symm (GColumn.len (lrd cols1 t29_0.toNat)))))) ?_
      refine rp rfl rfl (u_ld rfl rfl Tryd.underlying3 rfl rfl ((Sub.refl _).trans (GColumn.sub1 (lrd cols1 t29_0.toNat)))) ?_
      refine rp rfl rfl (u_fa rfl rfl Tryd.underlying59 rfl in_4 (Nat.succ_ne_zero _) rfl rfl (ne_of_lt (n := 0) (Nat.lt_of_lt_of_eq (by decide) (Eq.symm (GColumn.len (lrd cols1 t29_0.toNat)))))) ?_
      refine rp rfl rfl (u_ld rfl rfl Tryd.underlying4 rfl rfl ((Sub.refl _).trans (GColumn.sub2 (lrd cols1 t29_0.toNat)))) ?_
      refine rp rfl rfl (u_bld rfl in_54 one_54 zc_54 pl_54 rfl (af_cons rfl rfl (Gkinds_sort.upd0 Gkinds_sort.zero ((lrd cols1 t29_0.toNat).Kind)) (af_cons rfl rfl (Gkinds_sort.upd1 ((Gkinds_sort.w0 Gkinds_sort.zero ((lrd cols1 t29_0.toNat).Kind))) ((lrd cols1 t29_0.toNat).Null)) rfl))) ?_
      refine r_op rfl rfl (u_st rfl rfl rfl rfl rfl in_54 (Gkinds_sort.len ((Gkinds_sort.w1 (Gkinds_sort.w0 Gkinds_sort.zero ((lrd cols1 t29_0.toNat).Kind)) ((lrd cols1 t29_0.toNat).Null)))) (ne_of_lt (n := 0) (Nat.lt_of_lt_of_eq (by decide) (Eq.symm (Gkinds_sort.len Gkinds_sort.zero)))) (Upd.refl ((Gkinds_sort.len ((Gkinds_sort.w1 (Gkinds_sort.w0 Gkinds_sort.zero ((lrd cols1 t29_0.toNat).Kind)) ((lrd cols1 t29_0.toNat).Null)))).trans (Gkinds_sort.len Gkinds_sort.zero).symm))) ?_
      refine rp rfl rfl (p_asg rfl rfl) ?_
      refine rz [(4, .q 4 (0)), (5, .i (0 : Int))] [(4, .pure (Gkinds_sort.cs ((Gkinds_sort.w1 (Gkinds_sort.w0 Gkinds_sort.zero ((lrd cols1 t29_0.toNat).Kind)) ((lrd cols1 t29_0.toNat).Null)))))] rfl rfl rfl ?_
      refine gen1 (fun t4'2 => (⟨[(4, .q 4 (0)), (5, .i (0 : Int))], [(4, .pure (Gkinds_sort.cs t4'2))], 76⟩ : TS)) H ?_
      intro t4'2 H
      refine AW2_ret ?_
      have hz := some_elim H
      subst hz
      exact ⟨rfl, ⟨res_cella Tryd.underlying54 rfl in_54.sz rfl (Sub.le (Sub.refl _) (Gkinds_sort.len t4'2)) (by decide) (Sub.take (Sub.refl _) (Gkinds_sort.len t4'2)), res_tmp (.same _), trivial⟩, trivial⟩
     ·replace H := ite_else h5 H
      refine as2 [(2, .q 2 (0)), (4, .q 4 (0)), (27, .p ((fun q : List GColumn => AV.lst (q.flatMap GColumn.cs) q.length) cols1)), (28, .i (cols1.length : Int)), (29, .i t29_0)] [(2, .pure (GExpr.cs e0)), (4, .pure (Gkinds_sort.cs Gkinds_sort.zero))] rfl rfl rfl ?_
      refine AW2_skip ?_
      refine AW2_reg [0, 1] rfl ?_
      refine rp rfl rfl (p_bin rfl rfl rfl rfl) ?_
      refine rp rfl rfl (p_move rfl rfl) ?_
      refine rz [(2, .q 2 (0)), (4, .q 4 (0)), (27, .p ((fun q : List GColumn => AV.lst (q.flatMap GColumn.cs) q.length) cols1)), (28, .i (cols1.length : Int)), (29, .i (w64 (t29_0 + (1 : Int))))] [(2, .pure (GExpr.cs e0)), (4, .pure (Gkinds_sort.cs Gkinds_sort.zero))] rfl rfl rfl ?_
      have hz := some_elim H
      subst hz
      exact ⟨rfl, rfl⟩
    ·replace H := ite_else h3 H
     refine as2 [(4, .q 4 (0))] [(4, .pure (Gkinds_sort.cs Gkinds_sort.zero))] rfl rfl rfl ?_
     refine AW2_exit ?_
     refine thenQ2_exit ?_
     have hz := some_elim H
     subst hz
     exact ⟨rfl, rfl⟩
   ·rcases o'6 with y'7 | y'8
    ·obtain ⟨rfl, hs⟩ := hs
     refine ⟨by simp, ?_⟩
     have hz := some_elim H
     subst hz
     exact ⟨hs.1, hs.2⟩
    ·obtain ⟨rfl, rfl⟩ := hs
     refine ⟨by simp, ?_⟩
     refine blockQ2_exit ?_
     refine sg [0, 1, 2] rfl ?_
     refine rp rfl rfl (u_bld rfl in_54 one_54 zc_54 pl_54 rfl rfl) ?_
     refine r_op rfl rfl (u_st rfl rfl rfl rfl rfl in_54 (Gkinds_sort.len Gkinds_sort.zero) (ne_of_lt (n := 0) (Nat.lt_of_lt_of_eq (by decide) (Eq.symm (Gkinds_sort.len Gkinds_sort.zero)))) (Upd.refl ((Gkinds_sort.len Gkinds_sort.zero).trans (Gkinds_sort.len Gkinds_sort.zero).symm))) ?_
     refine rp rfl rfl (p_asg rfl rfl) ?_
     refine rz [(4, .q 4 (0)), (5, .i (5 : Int))] [(4, .pure (Gkinds_sort.cs Gkinds_sort.zero))] rfl rfl rfl ?_
     refine AW2_ret ?_
     have hz := some_elim H
     subst hz
     exact ⟨⟨res_cella Tryd.underlying54 rfl in_54.sz rfl (Sub.le (Sub.refl _) (Gkinds_sort.len Gkinds_sort.zero)) (by decide) (Sub.take (Sub.refl _) (Gkinds_sort.len Gkinds_sort.zero)), res_tmp (.same _), trivial⟩, trivial⟩
  ·replace H := ite_else h2 H
   refine as2 [(1, .p ((fun q : List GColumn => AV.lst (q.flatMap GColumn.cs) q.length) cols1)), (2, .q 2 (0)), (4, .q 4 (0))] [(2, .pure (GExpr.cs e0)), (4, .pure (Gkinds_sort.cs Gkinds_sort.zero))] rfl rfl rfl ?_
   refine AW2_skip ?_
   refine sg [0] rfl ?_
   refine r_op rfl rfl (MakeD.opD (u_alloc 8 rfl in_83 one_83 zc_83) rfl rfl rfl rfl) ?_
   refine rz [(1, .p ((fun q : List GColumn => AV.lst (q.flatMap GColumn.cs) q.length) cols1)), (2, .q 2 (0)), (4, .q 4 (0)), (8, .q 8 (0))] [(2, .pure (GExpr.cs e0)), (4, .pure (Gkinds_sort.cs Gkinds_sort.zero)), (8, .pure (((Vector.replicate 2 Gkinds_sort.zero).toList).flatMap Gkinds_sort.cs))] rfl rfl rfl ?_
   refine AW2_seq ?_
   refine sg [0, 1, 2, 3] rfl ?_
   refine rp rfl rfl (u_fa rfl rfl Tryd.underlying27 rfl in_25 (Nat.succ_ne_zero _) rfl rfl (ne_of_lt (n := 0) (Nat.lt_of_lt_of_eq (by decide) (Eq.symm (GExpr.len e0))))) ?_
   refine rp rfl rfl (u_ld rfl rfl Tryd.underlying25 rfl rfl ((Sub.refl _).trans (GExpr.sub3 e0))) ?_
   refine rp rfl rfl (p_lenl rfl Tryd.underlying25 rfl rfl) ?_
   refine rp rfl rfl (p_move rfl rfl) ?_
   refine rz [(1, .p ((fun q : List GColumn => AV.lst (q.flatMap GColumn.cs) q.length) cols1)), (2, .q 2 (0)), (4, .q 4 (0)), (8, .q 8 (0)), (46, .p ((fun q : List GExpr => AV.lst (q.flatMap GExpr.cs) q.length) e0.Args)), (47, .i (e0.Args.length : Int)), (48, .i (0 : Int))] [(2, .pure (GExpr.cs e0)), (4, .pure (Gkinds_sort.cs Gkinds_sort.zero)), (8, .pure (((Vector.replicate 2 Gkinds_sort.zero).toList).flatMap Gkinds_sort.cs))] rfl rfl rfl ?_
   refine AW2_block ?_
   refine as2 [(1, .p ((fun q : List GColumn => AV.lst (q.flatMap GColumn.cs) q.length) cols1)), (2, .q 2 (0)), (4, .q 4 (0)), (8, .q 8 (0)), (46, .p ((fun q : List GExpr => AV.lst (q.flatMap GExpr.cs) q.length) e0.Args)), (47, .i (e0.Args.length : Int)), (48, .i (0 : Int))] [(2, .pure (GExpr.cs e0)), (4, .pure (Gkinds_sort.cs Gkinds_sort.zero)), (8, .pure (((Vector.replicate 2 Gkinds_sort.zero).toList).flatMap Gkinds_sort.cs))] rfl rfl rfl ?_
   refine bindK H fun o'13 h12 H => ?_
   refine AW2_loopO (fun a'10 : Int × (Vector Gkinds_sort 2) => (⟨[(1, .p ((fun q : List GColumn => AV.lst (q.flatMap GColumn.cs) q.length) cols1)), (2, .q 2 (0)), (4, .q 4 (0)), (8, .q 8 (0)), (46, .p ((fun q : List GExpr => AV.lst (q.flatMap GExpr.cs) q.length) e0.Args)), (47, .i (e0.Args.length : Int)), (48, .i a'10.1)], [(2, .pure (GExpr.cs e0)), (4, .pure (Gkinds_sort.cs Gkinds_sort.zero)), (8, .pure (a'10.2.toList.flatMap Gkinds_sort.cs))], 76⟩ : TS)) (fun (o : (Gkinds_sort × Int) ⊕ ((Vector Gkinds_sort 2))) e s' => match o with | .inl y'11 => e = Go.Exit.ret ∧ ResAll Tryd.prog s' [ResultVar.cell 4 54, ResultVar.tmp 5] [.g (Gkinds_sort.cs y'11.1), .i y'11.2] ∧ HFits s' [] | .inr (y'12) => e = Go.Exit.exit 3 ∧ s' = (⟨[(2, .q 2 (0)), (4, .q 4 (0)), (8, .q 8 (0))], [(2, .pure (GExpr.cs e0)), (4, .pure (Gkinds_sort.cs Gkinds_sort.zero)), (8, .pure (y'12.toList.flatMap Gkinds_sort.cs))], 76⟩ : TS)) h12 rfl (fun a x hx => ?_) (fun e s' hs => ?_)
   ·clear H
    obtain ⟨t48_1, l8_1⟩ := a
    have H := hx
    clear hx
    unfold g_kinds_of_l1 at H
    refine sg [0] rfl ?_
    refine rp rfl rfl (p_bin rfl rfl rfl rfl) ?_
    refine rz [(1, .p ((fun q : List GColumn => AV.lst (q.flatMap GColumn.cs) q.length) cols1)), (2, .q 2 (0)), (4, .q 4 (0)), (8, .q 8 (0)), (46, .p ((fun q : List GExpr => AV.lst (q.flatMap GExpr.cs) q.length) e0.Args)), (47, .i (e0.Args.length : Int)), (48, .i t48_1), (49, .b (decide (t48_1 < (e0.Args.length : Int))))] [(2, .pure (GExpr.cs e0)), (4, .pure (Gkinds_sort.cs Gkinds_sort.zero)), (8, .pure (l8_1.toList.flatMap Gkinds_sort.cs))] rfl rfl rfl ?_
    refine AW2_seq ?_
    refine AW2_if (p := t48_1 < (e0.Args.length : Int)) rfl (fun h7 => ?_) (fun h7 => ?_)
    ·replace H := ite_then h7 H
     refine as2 [(1, .p ((fun q : List GColumn => AV.lst (q.flatMap GColumn.cs) q.length) cols1)), (2, .q 2 (0)), (4, .q 4 (0)), (8, .q 8 (0)), (46, .p ((fun q : List GExpr => AV.lst (q.flatMap GExpr.cs) q.length) e0.Args)), (47, .i (e0.Args.length : Int)), (48, .i t48_1)] [(2, .pure (GExpr.cs e0)), (4, .pure (Gkinds_sort.cs Gkinds_sort.zero)), (8, .pure (l8_1.toList.flatMap Gkinds_sort.cs))] rfl rfl rfl ?_
     refine AW2_skip ?_
     refine AW2_seq ?_
     refine AW2_block ?_
     refine sg [0, 1, 2, 3, 4, 5] rfl ?_
     refine rp rfl rfl (p_move rfl rfl) ?_
     refine chkK H fun h8 H => ?_
     refine rp rfl rfl (u_ixl rfl rfl Tryd.underlying25 in_27 rfl rfl (ixe h8) (ixn h8) (fne (fun x => (GExpr.len x)) (by decide) (ixn h8))) ?_
     refine rp rfl rfl (u_lda rfl rfl Tryd.underlying27 rfl in_27 rfl (Nat.succ_pos _) (Sub.fm default (fun x => (GExpr.len x)) (ixn h8)) (GExpr.len (lrd e0.Args t48_1.toNat))) ?_
     refine r_op rfl rfl (MakeD.opD (u_alloc 10 rfl in_27 one_27 zc_27) rfl rfl rfl rfl) ?_
     refine rp rfl rfl (p_asg rfl rfl) ?_
     refine r_op rfl rfl (u_st rfl rfl rfl rfl rfl in_27 (GExpr.len (lrd e0.Args t48_1.toNat)) (ne_of_lt (n := 0) (Nat.lt_of_lt_of_eq (by decide) (Eq.symm (GExpr.len GExpr.zero)))) (Upd.refl ((GExpr.len (lrd e0.Args t48_1.toNat)).trans (GExpr.len GExpr.zero).symm))) ?_
     refine rz [(1, .p ((fun q : List GColumn => AV.lst (q.flatMap GColumn.cs) q.length) cols1)), (2, .q 2 (0)), (4, .q 4 (0)), (8, .q 8 (0)), (9, .i t48_1), (10, .q 10 (0)), (46, .p ((fun q : List GExpr => AV.lst (q.flatMap GExpr.cs) q.length) e0.Args)), (47, .i (e0.Args.length : Int)), (48, .i t48_1)] [(2, .pure (GExpr.cs e0)), (4, .pure (Gkinds_sort.cs Gkinds_sort.zero)), (8, .pure (l8_1.toList.flatMap Gkinds_sort.cs)), (10, .pure (GExpr.cs (lrd e0.Args t48_1.toNat)))] rfl rfl rfl ?_
     refine sg [0, 1, 2, 3, 4, 5, 6, 7, 8] rfl ?_
     refine rp rfl rfl (u_lda rfl rfl Tryd.underlying27 rfl in_27 rfl (Nat.succ_pos _) (Sub.refl _) (GExpr.len (lrd e0.Args t48_1.toNat))) ?_
     refine rp rfl rfl (p_move rfl rfl) ?_
     refine bindK H fun r'9 h9 H => ?_
     refine rp rfl rfl (p_callp rfl rfl rfl Tryd.func20 rfl rfl (hR h9) ⟨rfl, rfl, trivial⟩) ?_
     refine rp rfl rfl (p_move rfl rfl) ?_
     refine rp rfl rfl (p_ext rfl rfl rfl rfl) ?_
     refine rp rfl rfl (p_ext rfl rfl rfl rfl) ?_
     refine r_op rfl rfl (MakeD.opD (u_alloc 11 rfl in_54 one_54 zc_54) rfl rfl rfl rfl) ?_
     refine r_op rfl rfl (u_st rfl rfl rfl rfl rfl in_54 (Gkinds_sort.len r'9.1) (ne_of_lt (n := 0) (Nat.lt_of_lt_of_eq (by decide) (Eq.symm (Gkinds_sort.len Gkinds_sort.zero)))) (Upd.refl ((Gkinds_sort.len r'9.1).trans (Gkinds_sort.len Gkinds_sort.zero).symm))) ?_
     refine rp rfl rfl (p_asg rfl rfl) ?_
     refine rz [(1, .p ((fun q : List GColumn => AV.lst (q.flatMap GColumn.cs) q.length) cols1)), (2, .q 2 (0)), (4, .q 4 (0)), (8, .q 8 (0)), (9, .i t48_1), (11, .q 11 (0)), (12, .i r'9.2), (46, .p ((fun q : List GExpr => AV.lst (q.flatMap GExpr.cs) q.length) e0.Args)), (47, .i (e0.Args.length : Int)), (48, .i t48_1)] [(2, .pure (GExpr.cs e0)), (4, .pure (Gkinds_sort.cs Gkinds_sort.zero)), (8, .pure (l8_1.toList.flatMap Gkinds_sort.cs)), (11, .pure (Gkinds_sort.cs r'9.1))] rfl rfl rfl ?_
     refine AW2_seq ?_
     refine sg [0, 1] rfl ?_
     refine rp rfl rfl (p_move rfl rfl) ?_
     refine rp rfl rfl (p_ine rfl rfl rfl) ?_
     refine rz [(1, .p ((fun q : List GColumn => AV.lst (q.flatMap GColumn.cs) q.length) cols1)), (2, .q 2 (0)), (4, .q 4 (0)), (8, .q 8 (0)), (9, .i t48_1), (11, .q 11 (0)), (12, .i r'9.2), (46, .p ((fun q : List GExpr => AV.lst (q.flatMap GExpr.cs) q.length) e0.Args)), (47, .i (e0.Args.length : Int)), (48, .i t48_1), (60, .b (decide (r'9.2 ≠ (0 : Int))))] [(2, .pure (GExpr.cs e0)), (4, .pure (Gkinds_sort.cs Gkinds_sort.zero)), (8, .pure (l8_1.toList.flatMap Gkinds_sort.cs)), (11, .pure (Gkinds_sort.cs r'9.1))] rfl rfl rfl ?_
     refine AW2_if (p := r'9.2 ≠ (0 : Int)) rfl (fun h10 => ?_) (fun h10 => ?_)
     ·replace H := ite_then h10 H
      refine sg [0, 1, 2, 3] rfl ?_
      refine rp rfl rfl (u_bld rfl in_54 one_54 zc_54 pl_54 rfl rfl) ?_
      refine rp rfl rfl (p_move rfl rfl) ?_
      refine r_op rfl rfl (u_st rfl rfl rfl rfl rfl in_54 (Gkinds_sort.len Gkinds_sort.zero) (ne_of_lt (n := 0) (Nat.lt_of_lt_of_eq (by decide) (Eq.symm (Gkinds_sort.len Gkinds_sort.zero)))) (Upd.refl ((Gkinds_sort.len Gkinds_sort.zero).trans (Gkinds_sort.len Gkinds_sort.zero).symm))) ?_
      refine rp rfl rfl (p_asg rfl rfl) ?_
      refine rz [(4, .q 4 (0)), (5, .i r'9.2)] [(4, .pure (Gkinds_sort.cs Gkinds_sort.zero))] rfl rfl rfl ?_
      refine AW2_ret ?_
      have hz := some_elim H
      subst hz
      exact ⟨rfl, ⟨res_cella Tryd.underlying54 rfl in_54.sz rfl (Sub.le (Sub.refl _) (Gkinds_sort.len Gkinds_sort.zero)) (by decide) (Sub.take (Sub.refl _) (Gkinds_sort.len Gkinds_sort.zero)), res_tmp (.same _), trivial⟩, trivial⟩
     ·replace H := ite_else h10 H
      refine as2 [(1, .p ((fun q : List GColumn => AV.lst (q.flatMap GColumn.cs) q.length) cols1)), (2, .q 2 (0)), (4, .q 4 (0)), (8, .q 8 (0)), (9, .i t48_1), (11, .q 11 (0)), (46, .p ((fun q : List GExpr => AV.lst (q.flatMap GExpr.cs) q.length) e0.Args)), (47, .i (e0.Args.length : Int)), (48, .i t48_1)] [(2, .pure (GExpr.cs e0)), (4, .pure (Gkinds_sort.cs Gkinds_sort.zero)), (8, .pure (l8_1.toList.flatMap Gkinds_sort.cs)), (11, .pure (Gkinds_sort.cs r'9.1))] rfl rfl rfl ?_
      refine AW2_skip ?_
      refine AW2_reg [0, 1, 2, 3] rfl ?_
      refine rp rfl rfl (p_move rfl rfl) ?_
      refine rp rfl rfl (u_lda rfl rfl Tryd.underlying54 rfl in_54 rfl (Nat.succ_pos _) (Sub.refl _) (Gkinds_sort.len r'9.1)) ?_
      refine chkK H fun h11 H => ?_
      refine rp rfl rfl (u_ixp rfl rfl Tryd.underlying83 in_54 rfl rfl (ne_of_lt (n := 0) (Nat.lt_of_lt_of_eq (by decide) (Eq.symm (vfm_len (fun x => (Gkinds_sort.len x)) l8_1)))) rfl (ixe h11) (ixn h11)) ?_
      refine r_op rfl rfl (u_st rfl rfl rfl rfl rfl in_54 (Gkinds_sort.len r'9.1) (ne_of_lt (n := 0) (Nat.lt_of_lt_of_eq (by decide) (Eq.symm (vfm_len (fun x => (Gkinds_sort.len x)) l8_1)))) (Upd.trans (Sub.refl _) (Upd.vfm (fun x => (Gkinds_sort.len x)) (ixn h11)) (Upd.refl ((vfm_len (fun x => (Gkinds_sort.len x)) (vwr l8_1 t48_1.toNat r'9.1)).trans (vfm_len (fun x => (Gkinds_sort.len x)) l8_1).symm)))) ?_
      refine rz [(1, .p ((fun q : List GColumn => AV.lst (q.flatMap GColumn.cs) q.length) cols1)), (2, .q 2 (0)), (4, .q 4 (0)), (8, .q 8 (0)), (46, .p ((fun q : List GExpr => AV.lst (q.flatMap GExpr.cs) q.length) e0.Args)), (47, .i (e0.Args.length : Int)), (48, .i t48_1)] [(2, .pure (GExpr.cs e0)), (4, .pure (Gkinds_sort.cs Gkinds_sort.zero)), (8, .pure (((vwr l8_1 t48_1.toNat r'9.1).toList).flatMap Gkinds_sort.cs))] rfl rfl rfl ?_
      refine AW2_reg [0, 1] rfl ?_
      refine rp rfl rfl (p_bin rfl rfl rfl rfl) ?_
      refine rp rfl rfl (p_move rfl rfl) ?_
      refine rz [(1, .p ((fun q : List GColumn => AV.lst (q.flatMap GColumn.cs) q.length) cols1)), (2, .q 2 (0)), (4, .q 4 (0)), (8, .q 8 (0)), (46, .p ((fun q : List GExpr => AV.lst (q.flatMap GExpr.cs) q.length) e0.Args)), (47, .i (e0.Args.length : Int)), (48, .i (w64 (t48_1 + (1 : Int))))] [(2, .pure (GExpr.cs e0)), (4, .pure (Gkinds_sort.cs Gkinds_sort.zero)), (8, .pure (((vwr l8_1 t48_1.toNat r'9.1).toList).flatMap Gkinds_sort.cs))] rfl rfl rfl ?_
      have hz := some_elim H
      subst hz
      exact ⟨rfl, rfl⟩
    ·replace H := ite_else h7 H
     refine as2 [(2, .q 2 (0)), (4, .q 4 (0)), (8, .q 8 (0))] [(2, .pure (GExpr.cs e0)), (4, .pure (Gkinds_sort.cs Gkinds_sort.zero)), (8, .pure (l8_1.toList.flatMap Gkinds_sort.cs))] rfl rfl rfl ?_
     refine AW2_exit ?_
     refine thenQ2_exit ?_
     have hz := some_elim H
     subst hz
     exact ⟨rfl, rfl⟩
   ·rcases o'13 with y'14 | y'15
    ·obtain ⟨rfl, hs⟩ := hs
     refine ⟨by simp, ?_⟩
     have hz := some_elim H
     subst hz
     exact ⟨hs.1, hs.2⟩
    ·obtain ⟨rfl, rfl⟩ := hs
     refine ⟨by simp, ?_⟩
     refine blockQ2_exit ?_
     refine sg [0, 1, 2, 3, 4, 5, 6, 7, 8, 9, 10] rfl ?_
     refine rp rfl rfl (u_fa rfl rfl Tryd.underlying27 rfl in_3 (Nat.succ_ne_zero _) rfl rfl (ne_of_lt (n := 0) (Nat.lt_of_lt_of_eq (by decide) (Eq.symm (GExpr.len e0))))) ?_
     refine rp rfl rfl (u_ld rfl rfl Tryd.underlying3 rfl rfl ((Sub.refl _).trans (GExpr.sub0 e0))) ?_
     refine rp rfl rfl (u_fa rfl rfl Tryd.underlying27 rfl in_25 (Nat.succ_ne_zero _) rfl rfl (ne_of_lt (n := 0) (Nat.lt_of_lt_of_eq (by decide) (Eq.symm (GExpr.len e0))))) ?_
     refine rp rfl rfl (u_ld rfl rfl Tryd.underlying25 rfl rfl ((Sub.refl _).trans (GExpr.sub3 e0))) ?_
     refine rp rfl rfl (p_lenl rfl Tryd.underlying25 rfl rfl) ?_
     refine rp rfl rfl (u_lda rfl rfl Tryd.underlying83 rfl in_83 rfl (Nat.succ_pos _) (Sub.refl _) (vfm_len (fun x => (Gkinds_sort.len x)) y'15)) ?_
     refine bindK H fun r'16 h13 H => ?_
     refine rp rfl rfl (p_callp rfl rfl rfl Tryd.func46 rfl rfl (g_kinds_joined_ac h13) ⟨rfl, rfl, rfl, trivial⟩) ?_
     refine rp rfl rfl (p_ext rfl rfl rfl rfl) ?_
     refine rp rfl rfl (p_ext rfl rfl rfl rfl) ?_
     refine r_op rfl rfl (u_st rfl rfl rfl rfl rfl in_54 (Gkinds_sort.len r'16.1) (ne_of_lt (n := 0) (Nat.lt_of_lt_of_eq (by decide) (Eq.symm (Gkinds_sort.len Gkinds_sort.zero)))) (Upd.refl ((Gkinds_sort.len r'16.1).trans (Gkinds_sort.len Gkinds_sort.zero).symm))) ?_
     refine rp rfl rfl (p_asg rfl rfl) ?_
     refine rz [(4, .q 4 (0)), (5, .i r'16.2)] [(4, .pure (Gkinds_sort.cs r'16.1))] rfl rfl rfl ?_
     refine AW2_ret ?_
     have hz := some_elim H
     subst hz
     exact ⟨⟨res_cella Tryd.underlying54 rfl in_54.sz rfl (Sub.le (Sub.refl _) (Gkinds_sort.len r'16.1)) (by decide) (Sub.take (Sub.refl _) (Gkinds_sort.len r'16.1)), res_tmp (.same _), trivial⟩, trivial⟩
theorem g_kinds_of_acN : ∀ (fu : Nat) {e0 : GExpr} {cols1 : List GColumn} {r : Gkinds_sort × Int}, g_kinds_of fu e0 cols1 = some r → ACp Tryd.prog 20 [(.agg (GExpr.cs e0)), ((fun q : List GColumn => AV.lst (q.flatMap GColumn.cs) q.length) cols1)] (.tup [(.agg (Gkinds_sort.cs r.1)), (AV.int r.2)])
 | 0, _, _, _, H => (by cases H)
 | fu + 1, _, _, _, H => g_kinds_of_ac0 (g_kinds_of_acN fu) H
theorem g_kinds_of_ac {e0 : GExpr} {cols1 : List GColumn} {r : Gkinds_sort × Int} (H : g_kinds_of 100000 e0 cols1 = some r) : ACp Tryd.prog 20 [(.agg (GExpr.cs e0)), ((fun q : List GColumn => AV.lst (q.flatMap GColumn.cs) q.length) cols1)] (.tup [(.agg (Gkinds_sort.cs r.1)), (AV.int r.2)]) := g_kinds_of_acN 100000 H

/-! kinds.Of -/
def g_kinds_Of_r10 : List (List (Nat × Option Nat)) := [[(9, none)], [(29, some 0)], [(9, none)], [(31, some 2)], [(30, some 1)]]
def g_kinds_Of_r10c : List (List Nat) := [[], [0], [], [2], [0, 1], [0, 1, 2, 3, 4], [0, 1, 2, 3, 4, 5]]
noncomputable def g_kinds_Of (e0 : GExpr) (cols1 : List GColumn) : Option (Int × Bool × Int) :=
  (g_expr_Check e0).bind fun r'1 => (if r'1 ≠ (0 : Int) then some ((0 : Int), false, r'1) else (g_kinds_Columns cols1).bind fun r'2 => (if r'2 ≠ (0 : Int) then some ((0 : Int), false, r'2) else (g_kinds_of 100000 e0 cols1).bind fun r'3 => (if r'3.2 ≠ (0 : Int) then some ((0 : Int), false, r'3.2) else some (r'3.1.kind_, r'3.1.null_, (0 : Int)))))
set_option maxHeartbeats 4000000 in
set_option maxRecDepth 100000 in
theorem g_kinds_Of_ac {e0 : GExpr} {cols1 : List GColumn} {r : Int × Bool × Int} (H : g_kinds_Of e0 cols1 = some r) : ACp Tryd.prog 8 [(.agg (GExpr.cs e0)), ((fun q : List GColumn => AV.lst (q.flatMap GColumn.cs) q.length) cols1)] (.tup [(AV.int r.1), (AV.bool r.2.1), (AV.int r.2.2)]) := by
 refine ACp_of (AC2_of_body (vs := [.i r.1, .b r.2.1, .i r.2.2]) Tryd.func8 rfl rfl (Nat.le_of_ble_eq_true rfl) rfl ?_) (fun _ => .same _)
 unfold g_kinds_Of at H
 refine as2 [(0, .g (GExpr.cs e0)), (1, .p ((fun q : List GColumn => AV.lst (q.flatMap GColumn.cs) q.length) cols1))] [] rfl rfl rfl ?_
 refine sg [0, 1, 2, 3] rfl ?_
 refine r_op rfl rfl (MakeD.opD (n_box 2 rfl rfl) rfl rfl rfl rfl) ?_
 refine rp rfl rfl (p_asg rfl rfl) ?_
 refine rp rfl rfl (p_asg rfl rfl) ?_
 refine rp rfl rfl (p_asg rfl rfl) ?_
 refine rz [(1, .p ((fun q : List GColumn => AV.lst (q.flatMap GColumn.cs) q.length) cols1)), (2, .q 2 (0))] [(2, .pure (GExpr.cs e0))] rfl rfl rfl ?_
 refine AW2_seq ?_
 refine sg [0, 1, 2] rfl ?_
 refine rp rfl rfl (u_lda rfl rfl Tryd.underlying27 rfl in_27 rfl (Nat.succ_pos _) (Sub.refl _) (GExpr.len e0)) ?_
 refine bindK H fun r'1 h1 H => ?_
 refine rp rfl rfl (p_callp rfl rfl rfl Tryd.func18 rfl rfl (g_expr_Check_ac h1) ⟨rfl, trivial⟩) ?_
 refine rp rfl rfl (p_asg rfl rfl) ?_
 refine rz [(1, .p ((fun q : List GColumn => AV.lst (q.flatMap GColumn.cs) q.length) cols1)), (2, .q 2 (0)), (7, .i r'1)] [(2, .pure (GExpr.cs e0))] rfl rfl rfl ?_
 refine sg [0, 1] rfl ?_
 refine rp rfl rfl (p_move rfl rfl) ?_
 refine rp rfl rfl (p_ine rfl rfl rfl) ?_
 refine rz [(1, .p ((fun q : List GColumn => AV.lst (q.flatMap GColumn.cs) q.length) cols1)), (2, .q 2 (0)), (7, .i r'1), (13, .b (decide (r'1 ≠ (0 : Int))))] [(2, .pure (GExpr.cs e0))] rfl rfl rfl ?_
 refine AW2_if (p := r'1 ≠ (0 : Int)) rfl (fun h2 => ?_) (fun h2 => ?_)
 ·replace H := ite_then h2 H
  refine sg [0, 1, 2, 3] rfl ?_
  refine rp rfl rfl (p_move rfl rfl) ?_
  refine rp rfl rfl (p_asg rfl rfl) ?_
  refine rp rfl rfl (p_asg rfl rfl) ?_
  refine rp rfl rfl (p_asg rfl rfl) ?_
  refine rz [(4, .i (0 : Int)), (5, .b false), (6, .i r'1)] [] rfl rfl rfl ?_
  refine AW2_ret ?_
  have hz := some_elim H
  subst hz
  exact ⟨⟨res_tmp (.same _), res_tmp (.same _), res_tmp (.same _), trivial⟩, trivial⟩
 ·replace H := ite_else h2 H
  refine as2 [(1, .p ((fun q : List GColumn => AV.lst (q.flatMap GColumn.cs) q.length) cols1)), (2, .q 2 (0))] [(2, .pure (GExpr.cs e0))] rfl rfl rfl ?_
  refine AW2_skip ?_
  refine AW2_seq ?_
  refine sg [0, 1, 2] rfl ?_
  refine rp rfl rfl (p_move rfl rfl) ?_
  refine bindK H fun r'2 h3 H => ?_
  refine rp rfl rfl (p_callp rfl rfl rfl Tryd.func19 rfl rfl (g_kinds_Columns_ac h3) ⟨rfl, trivial⟩) ?_
  refine rp rfl rfl (p_asg rfl rfl) ?_
  refine rz [(1, .p ((fun q : List GColumn => AV.lst (q.flatMap GColumn.cs) q.length) cols1)), (2, .q 2 (0)), (8, .i r'2)] [(2, .pure (GExpr.cs e0))] rfl rfl rfl ?_
  refine sg [0, 1] rfl ?_
  refine rp rfl rfl (p_move rfl rfl) ?_
  refine rp rfl rfl (p_ine rfl rfl rfl) ?_
  refine rz [(1, .p ((fun q : List GColumn => AV.lst (q.flatMap GColumn.cs) q.length) cols1)), (2, .q 2 (0)), (8, .i r'2), (18, .b (decide (r'2 ≠ (0 : Int))))] [(2, .pure (GExpr.cs e0))] rfl rfl rfl ?_
  refine AW2_if (p := r'2 ≠ (0 : Int)) rfl (fun h4 => ?_) (fun h4 => ?_)
  ·replace H := ite_then h4 H
   refine sg [0, 1, 2, 3] rfl ?_
   refine rp rfl rfl (p_move rfl rfl) ?_
   refine rp rfl rfl (p_asg rfl rfl) ?_
   refine rp rfl rfl (p_asg rfl rfl) ?_
   refine rp rfl rfl (p_asg rfl rfl) ?_
   refine rz [(4, .i (0 : Int)), (5, .b false), (6, .i r'2)] [] rfl rfl rfl ?_
   refine AW2_ret ?_
   have hz := some_elim H
   subst hz
   exact ⟨⟨res_tmp (.same _), res_tmp (.same _), res_tmp (.same _), trivial⟩, trivial⟩
  ·replace H := ite_else h4 H
   refine as2 [(1, .p ((fun q : List GColumn => AV.lst (q.flatMap GColumn.cs) q.length) cols1)), (2, .q 2 (0))] [(2, .pure (GExpr.cs e0))] rfl rfl rfl ?_
   refine AW2_skip ?_
   refine sg [0, 1, 2, 3, 4, 5, 6, 7, 8] rfl ?_
   refine rp rfl rfl (u_lda rfl rfl Tryd.underlying27 rfl in_27 rfl (Nat.succ_pos _) (Sub.refl _) (GExpr.len e0)) ?_
   refine rp rfl rfl (p_move rfl rfl) ?_
   refine bindK H fun r'3 h5 H => ?_
   refine rp rfl rfl (p_callp rfl rfl rfl Tryd.func20 rfl rfl (g_kinds_of_ac h5) ⟨rfl, rfl, trivial⟩) ?_
   refine rp rfl rfl (p_move rfl rfl) ?_
   refine rp rfl rfl (p_ext rfl rfl rfl rfl) ?_
   refine rp rfl rfl (p_ext rfl rfl rfl rfl) ?_
   refine r_op rfl rfl (MakeD.opD (u_alloc 9 rfl in_54 one_54 zc_54) rfl rfl rfl rfl) ?_
   refine r_op rfl rfl (u_st rfl rfl rfl rfl rfl in_54 (Gkinds_sort.len r'3.1) (ne_of_lt (n := 0) (Nat.lt_of_lt_of_eq (by decide) (Eq.symm (Gkinds_sort.len Gkinds_sort.zero)))) (Upd.refl ((Gkinds_sort.len r'3.1).trans (Gkinds_sort.len Gkinds_sort.zero).symm))) ?_
   refine rp rfl rfl (p_asg rfl rfl) ?_
   refine rz [(6, .i r'3.2), (9, .q 9 (0))] [(9, .pure (Gkinds_sort.cs r'3.1))] rfl rfl rfl ?_
   refine AW2_seq ?_
   refine sg [0, 1] rfl ?_
   refine rp rfl rfl (p_move rfl rfl) ?_
   refine rp rfl rfl (p_ine rfl rfl rfl) ?_
   refine rz [(6, .i r'3.2), (9, .q 9 (0)), (27, .b (decide (r'3.2 ≠ (0 : Int))))] [(9, .pure (Gkinds_sort.cs r'3.1))] rfl rfl rfl ?_
   refine AW2_if (p := r'3.2 ≠ (0 : Int)) rfl (fun h6 => ?_) (fun h6 => ?_)
   ·replace H := ite_then h6 H
    refine sg [0, 1, 2, 3] rfl ?_
    refine rp rfl rfl (p_move rfl rfl) ?_
    refine rp rfl rfl (p_asg rfl rfl) ?_
    refine rp rfl rfl (p_asg rfl rfl) ?_
    refine rp rfl rfl (p_asg rfl rfl) ?_
    refine rz [(4, .i (0 : Int)), (5, .b false), (6, .i r'3.2)] [] rfl rfl rfl ?_
    refine AW2_ret ?_
    have hz := some_elim H
    subst hz
    exact ⟨⟨res_tmp (.same _), res_tmp (.same _), res_tmp (.same _), trivial⟩, trivial⟩
   ·replace H := ite_else h6 H
    refine as2 [(9, .q 9 (0))] [(9, .pure (Gkinds_sort.cs r'3.1))] rfl rfl rfl ?_
    refine AW2_skip ?_
    refine AW2_seq ?_
    refine AW2_ghoQ ?_
    refine AW2_draw 5 [5, 6] (fun k => ([.q 9 (0 + 0), .i r'3.1.kind_, .q 9 (0 + 1), .b r'3.1.null_, .i r'3.1.kind_] : List TV).getD k TV.any) (fun k => g_kinds_Of_r10.getD k []) [(4, some 4), (32, some 3)] [] (fun k => g_kinds_Of_r10c.getD k []) mixed (by kernel_rfl) rfl rfl (a_op (g_x rfl (x_p rfl (u_fa rfl rfl Tryd.underlying54 rfl in_3 (Nat.succ_ne_zero _) rfl rfl (ne_of_lt (n := 0) (Nat.lt_of_lt_of_eq (by decide) (Eq.symm (Gkinds_sort.len r'3.1))))) rfl)) (a_op (g_x rfl (x_p rfl (u_ld rfl rfl Tryd.underlying3 rfl rfl ((Sub.refl _).trans (Gkinds_sort.sub0 r'3.1))) rfl)) (a_op (g_x rfl (x_p rfl (u_fa rfl rfl Tryd.underlying54 rfl in_4 (Nat.succ_ne_zero _) rfl rfl (ne_of_lt (n := 0) (Nat.lt_of_lt_of_eq (by decide) (Eq.symm (Gkinds_sort.len r'3.1))))) rfl)) (a_op (g_x rfl (x_p rfl (u_ld rfl rfl Tryd.underlying4 rfl rfl ((Sub.refl _).trans (Gkinds_sort.sub1 r'3.1))) rfl)) (a_op (g_x rfl (x_p rfl (p_asg rfl rfl) rfl)) (a_nil)))))) ?_
    refine t_op rfl rfl (PureD.opD (p_asg rfl rfl)) ?_
    refine t_op rfl rfl (PureD.opD (p_asg rfl rfl)) ?_
    refine t_gho (Gho_st (L := [(4, .i r'3.1.kind_), (5, .b r'3.1.null_), (6, .i (0 : Int))]) (H := []) (N := 33) rfl ⟨TLes.same _, TLes.same _, TLes.same _, trivial⟩ trivial) ?_
    refine AW2_ret ?_
    have hz := some_elim H
    subst hz
    exact ⟨⟨res_tmp (.same _), res_tmp (.same _), res_tmp (.same _), trivial⟩, trivial⟩

/-! table.Condition -/
noncomputable def g_table_Condition (e0 : GExpr) (cols1 : List GColumn) : Option (Int) :=
  (g_table_none e0).bind fun r'1 => (if r'1 = true then (g_kinds_Columns cols1).bind fun r'2 => some r'2 else (g_kinds_Of e0 cols1).bind fun r'3 => (if ((r'3.2.2 = (0 : Int)) ∧ (r'3.1 ≠ (1 : Int))) ∧ (r'3.1 ≠ (0 : Int)) then some (2 : Int) else some r'3.2.2))
set_option maxHeartbeats 4000000 in
set_option maxRecDepth 100000 in
theorem g_table_Condition_ac {e0 : GExpr} {cols1 : List GColumn} {r : Int} (H : g_table_Condition e0 cols1 = some r) : ACp Tryd.prog 10 [(.agg (GExpr.cs e0)), ((fun q : List GColumn => AV.lst (q.flatMap GColumn.cs) q.length) cols1)] (AV.int r) := by
 refine ACp_of (AC2_of_body (vs := [.i r]) Tryd.func10 rfl rfl (Nat.le_of_ble_eq_true rfl) rfl ?_) (fun _ => .same _)
 unfold g_table_Condition at H
 refine as2 [(0, .g (GExpr.cs e0)), (1, .p ((fun q : List GColumn => AV.lst (q.flatMap GColumn.cs) q.length) cols1))] [] rfl rfl rfl ?_
 refine sg [0, 1] rfl ?_
 refine r_op rfl rfl (MakeD.opD (n_box 2 rfl rfl) rfl rfl rfl rfl) ?_
 refine rp rfl rfl (p_asg rfl rfl) ?_
 refine rz [(1, .p ((fun q : List GColumn => AV.lst (q.flatMap GColumn.cs) q.length) cols1)), (2, .q 2 (0))] [(2, .pure (GExpr.cs e0))] rfl rfl rfl ?_
 refine AW2_seq ?_
 refine sg [0, 1] rfl ?_
 refine rp rfl rfl (u_lda rfl rfl Tryd.underlying27 rfl in_27 rfl (Nat.succ_pos _) (Sub.refl _) (GExpr.len e0)) ?_
 refine bindK H fun r'1 h1 H => ?_
 refine rp rfl rfl (p_callp rfl rfl rfl Tryd.func24 rfl rfl (g_table_none_ac h1) ⟨rfl, trivial⟩) ?_
 refine rz [(1, .p ((fun q : List GColumn => AV.lst (q.flatMap GColumn.cs) q.length) cols1)), (2, .q 2 (0)), (9, .b r'1)] [(2, .pure (GExpr.cs e0))] rfl rfl rfl ?_
 refine AW2_cond rfl (fun h2 => ?_) (fun h2 => ?_)
 ·replace H := ite_then h2 H
  refine sg [0, 1, 2] rfl ?_
  refine rp rfl rfl (p_move rfl rfl) ?_
  refine bindK H fun r'2 h3 H => ?_
  refine rp rfl rfl (p_callp rfl rfl rfl Tryd.func19 rfl rfl (g_kinds_Columns_ac h3) ⟨rfl, trivial⟩) ?_
  refine rp rfl rfl (p_asg rfl rfl) ?_
  refine rz [(4, .i r'2)] [] rfl rfl rfl ?_
  refine AW2_ret ?_
  have hz := some_elim H
  subst hz
  exact ⟨⟨res_tmp (.same _), trivial⟩, trivial⟩
 ·replace H := ite_else (ne_true h2) H
  refine as2 [(1, .p ((fun q : List GColumn => AV.lst (q.flatMap GColumn.cs) q.length) cols1)), (2, .q 2 (0))] [(2, .pure (GExpr.cs e0))] rfl rfl rfl ?_
  refine AW2_skip ?_
  refine sg [0, 1, 2, 3, 4, 5, 6, 7, 8, 9] rfl ?_
  refine rp rfl rfl (u_lda rfl rfl Tryd.underlying27 rfl in_27 rfl (Nat.succ_pos _) (Sub.refl _) (GExpr.len e0)) ?_
  refine rp rfl rfl (p_move rfl rfl) ?_
  refine bindK H fun r'3 h4 H => ?_
  refine rp rfl rfl (p_callp rfl rfl rfl Tryd.func8 rfl rfl (g_kinds_Of_ac h4) ⟨rfl, rfl, trivial⟩) ?_
  refine rp rfl rfl (p_move rfl rfl) ?_
  refine rp rfl rfl (p_ext rfl rfl rfl rfl) ?_
  refine rp rfl rfl (p_ext rfl rfl rfl rfl) ?_
  refine rp rfl rfl (p_ext rfl rfl rfl rfl) ?_
  refine rp rfl rfl (p_asg rfl rfl) ?_
  refine rp rfl rfl (p_asg rfl rfl) ?_
  refine rp rfl rfl (p_asg rfl rfl) ?_
  refine rz [(5, .i r'3.1), (7, .i r'3.2.2)] [] rfl rfl rfl ?_
  refine AW2_seq ?_
  refine AW2_seq ?_
  refine AW2_mid (⟨[(7, .i r'3.2.2), (28, .b (decide (((r'3.2.2 = (0 : Int)) ∧ (r'3.1 ≠ (1 : Int))) ∧ (r'3.1 ≠ (0 : Int)))))], [], 30⟩ : TS) ?_ ?_
  ·refine AW2_reg [0, 1, 2, 3, 4, 5, 6, 7, 8, 9] rfl ?_
   refine rp rfl rfl (p_move rfl rfl) ?_
   refine rp rfl rfl (p_ieq rfl rfl rfl) ?_
   refine rp rfl rfl (p_move rfl rfl) ?_
   refine (Classical.em (r'3.2.2 = (0 : Int))).elim (fun h5 => ?_) (fun h5 => ?_)
   ·refine r_on rfl rfl rfl rfl (decide_eq_true h5) rfl (PureD.opD (p_move rfl rfl)) ?_
    refine r_on rfl rfl rfl rfl (decide_eq_true h5) rfl (PureD.opD (p_ine rfl rfl rfl)) ?_
    refine rp rfl rfl (p_pkt rfl rfl (decide_eq_true h5) (tb ((and_l (p := r'3.2.2 = (0 : Int)) (q := r'3.1 ≠ (1 : Int)) h5)))) ?_
    refine rp rfl rfl (p_move rfl rfl) ?_
    refine (Classical.em (r'3.1 ≠ (1 : Int))).elim (fun h6 => ?_) (fun h6 => ?_)
    ·refine r_on rfl rfl rfl rfl (decide_eq_true (p := (r'3.2.2 = (0 : Int)) ∧ (r'3.1 ≠ (1 : Int))) ⟨h5, h6⟩) rfl (PureD.opD (p_move rfl rfl)) ?_
     refine r_on rfl rfl rfl rfl (decide_eq_true (p := (r'3.2.2 = (0 : Int)) ∧ (r'3.1 ≠ (1 : Int))) ⟨h5, h6⟩) rfl (PureD.opD (p_ine rfl rfl rfl)) ?_
     refine rp rfl rfl (p_pkt rfl rfl (decide_eq_true (p := (r'3.2.2 = (0 : Int)) ∧ (r'3.1 ≠ (1 : Int))) ⟨h5, h6⟩) (tb ((and_l (p := (r'3.2.2 = (0 : Int)) ∧ (r'3.1 ≠ (1 : Int))) (q := r'3.1 ≠ (0 : Int)) ⟨h5, h6⟩)))) ?_
     refine rs [(7, .i r'3.2.2), (28, .b (decide (((r'3.2.2 = (0 : Int)) ∧ (r'3.1 ≠ (1 : Int))) ∧ (r'3.1 ≠ (0 : Int)))))] [] rfl rfl rfl ?_
     exact RunW_nil rfl
    ·refine r_off rfl rfl rfl rfl (decide_eq_false (p := (r'3.2.2 = (0 : Int)) ∧ (r'3.1 ≠ (1 : Int))) (fun h => h6 h.2)) rfl rfl ?_
     refine r_off rfl rfl rfl rfl (decide_eq_false (p := (r'3.2.2 = (0 : Int)) ∧ (r'3.1 ≠ (1 : Int))) (fun h => h6 h.2)) rfl rfl ?_
     refine rp rfl rfl (p_pkf rfl rfl (decide_eq_false (p := (r'3.2.2 = (0 : Int)) ∧ (r'3.1 ≠ (1 : Int))) (fun h => h6 h.2)) (tb (decide_eq_false (p := ((r'3.2.2 = (0 : Int)) ∧ (r'3.1 ≠ (1 : Int))) ∧ (r'3.1 ≠ (0 : Int))) (fun x => (fun h => h6 h.2) x.1)).symm)) ?_
     refine rs [(7, .i r'3.2.2), (28, .b (decide (((r'3.2.2 = (0 : Int)) ∧ (r'3.1 ≠ (1 : Int))) ∧ (r'3.1 ≠ (0 : Int)))))] [] rfl rfl rfl ?_
     exact RunW_nil rfl
   ·refine r_off rfl rfl rfl rfl (decide_eq_false h5) rfl rfl ?_
    refine r_off rfl rfl rfl rfl (decide_eq_false h5) rfl rfl ?_
    refine rp rfl rfl (p_pkf rfl rfl (decide_eq_false h5) (tb (decide_eq_false (p := (r'3.2.2 = (0 : Int)) ∧ (r'3.1 ≠ (1 : Int))) (fun x => h5 x.1)).symm)) ?_
    refine rp rfl rfl (p_move rfl rfl) ?_
    refine r_off rfl rfl rfl rfl (decide_eq_false (p := (r'3.2.2 = (0 : Int)) ∧ (r'3.1 ≠ (1 : Int))) (fun h => h5 h.1)) rfl rfl ?_
    refine r_off rfl rfl rfl rfl (decide_eq_false (p := (r'3.2.2 = (0 : Int)) ∧ (r'3.1 ≠ (1 : Int))) (fun h => h5 h.1)) rfl rfl ?_
    refine rp rfl rfl (p_pkf rfl rfl (decide_eq_false (p := (r'3.2.2 = (0 : Int)) ∧ (r'3.1 ≠ (1 : Int))) (fun h => h5 h.1)) (tb (decide_eq_false (p := ((r'3.2.2 = (0 : Int)) ∧ (r'3.1 ≠ (1 : Int))) ∧ (r'3.1 ≠ (0 : Int))) (fun x => (fun h => h5 h.1) x.1)).symm)) ?_
    refine rs [(7, .i r'3.2.2), (28, .b (decide (((r'3.2.2 = (0 : Int)) ∧ (r'3.1 ≠ (1 : Int))) ∧ (r'3.1 ≠ (0 : Int)))))] [] rfl rfl rfl ?_
    exact RunW_nil rfl
  ·refine AW2_if (p := ((r'3.2.2 = (0 : Int)) ∧ (r'3.1 ≠ (1 : Int))) ∧ (r'3.1 ≠ (0 : Int))) rfl (fun h7 => ?_) (fun h7 => ?_)
   ·replace H := ite_then h7 H
    refine sg [0] rfl ?_
    refine rp rfl rfl (p_asg rfl rfl) ?_
    refine rz [(4, .i (2 : Int))] [] rfl rfl rfl ?_
    refine AW2_ret ?_
    have hz := some_elim H
    subst hz
    exact ⟨⟨res_tmp (.same _), trivial⟩, trivial⟩
   ·replace H := ite_else h7 H
    refine as2 [(7, .i r'3.2.2)] [] rfl rfl rfl ?_
    refine AW2_skip ?_
    refine sg [0, 1] rfl ?_
    refine rp rfl rfl (p_move rfl rfl) ?_
    refine rp rfl rfl (p_asg rfl rfl) ?_
    refine rz [(4, .i r'3.2.2)] [] rfl rfl rfl ?_
    refine AW2_ret ?_
    have hz := some_elim H
    subst hz
    exact ⟨⟨res_tmp (.same _), trivial⟩, trivial⟩

/-! query.none -/
noncomputable def g_query_none (e0 : GExpr) : Option (Bool) :=
  some (decide ((((e0.Op = (0 : Int)) ∧ (e0.Name = [])) ∧ (e0.Value = GValue.zero)) ∧ ((e0.Args.length : Int) = (0 : Int))))
set_option maxHeartbeats 4000000 in
set_option maxRecDepth 100000 in
theorem g_query_none_ac {e0 : GExpr} {r : Bool} (H : g_query_none e0 = some r) : ACp Tryd.prog 50 [(.agg (GExpr.cs e0))] (AV.bool r) := by
 refine ACp_of (AC2_of_body (vs := [.b r]) Tryd.func50 rfl rfl (Nat.le_of_ble_eq_true rfl) rfl ?_) (fun _ => .same _)
 unfold g_query_none at H
 refine as2 [(0, .g (GExpr.cs e0))] [] rfl rfl rfl ?_
 refine sg [0, 1] rfl ?_
 refine r_op rfl rfl (MakeD.opD (n_box 1 rfl rfl) rfl rfl rfl rfl) ?_
 refine rp rfl rfl (p_asg rfl rfl) ?_
 refine rz [(1, .q 1 (0))] [(1, .pure (GExpr.cs e0))] rfl rfl rfl ?_
 refine AW2_seq ?_
 refine AW2_mid (⟨[(2, .b (decide ((((e0.Op = (0 : Int)) ∧ (e0.Name = [])) ∧ (e0.Value = GValue.zero)) ∧ ((e0.Args.length : Int) = (0 : Int)))))], [], 23⟩ : TS) ?_ ?_
 ·refine AW2_reg [0, 1, 2, 3, 4, 5, 6, 7, 8, 9, 10, 11, 12, 13, 14, 15, 16, 17, 18, 19, 20] rfl ?_
  refine rp rfl rfl (u_fa rfl rfl Tryd.underlying27 rfl in_3 (Nat.succ_ne_zero _) rfl rfl (ne_of_lt (n := 0) (Nat.lt_of_lt_of_eq (by decide) (Eq.symm (GExpr.len e0))))) ?_
  refine rp rfl rfl (u_ld rfl rfl Tryd.underlying3 rfl rfl ((Sub.refl _).trans (GExpr.sub0 e0))) ?_
  refine rp rfl rfl (p_ieq rfl rfl rfl) ?_
  refine rp rfl rfl (p_move rfl rfl) ?_
  refine (Classical.em (e0.Op = (0 : Int))).elim (fun h1 => ?_) (fun h1 => ?_)
  ·refine r_on rfl rfl rfl rfl (decide_eq_true h1) rfl (PureD.opD (u_fa rfl rfl Tryd.underlying27 rfl in_9 (Nat.succ_ne_zero _) rfl rfl (ne_of_lt (n := 0) (Nat.lt_of_lt_of_eq (by decide) (Eq.symm (GExpr.len e0)))))) ?_
   refine r_on rfl rfl rfl rfl (decide_eq_true h1) rfl (PureD.opD (u_ld rfl rfl Tryd.underlying9 rfl rfl ((Sub.refl _).trans (GExpr.sub2 e0)))) ?_
   refine r_on rfl rfl rfl rfl (decide_eq_true h1) rfl (PureD.opD (p_seq rfl rfl rfl)) ?_
   refine rp rfl rfl (p_pkt rfl rfl (decide_eq_true h1) (tb ((and_l (p := e0.Op = (0 : Int)) (q := e0.Name = []) h1)))) ?_
   refine rp rfl rfl (p_move rfl rfl) ?_
   refine (Classical.em (e0.Name = [])).elim (fun h2 => ?_) (fun h2 => ?_)
   ·refine r_on rfl rfl rfl rfl (decide_eq_true (p := (e0.Op = (0 : Int)) ∧ (e0.Name = [])) ⟨h1, h2⟩) rfl (PureD.opD (u_fa rfl rfl Tryd.underlying27 rfl in_24 (Nat.succ_ne_zero _) rfl rfl (ne_of_lt (n := 0) (Nat.lt_of_lt_of_eq (by decide) (Eq.symm (GExpr.len e0)))))) ?_
    refine r_on rfl rfl rfl rfl (decide_eq_true (p := (e0.Op = (0 : Int)) ∧ (e0.Name = [])) ⟨h1, h2⟩) rfl (PureD.opD (u_lda rfl rfl Tryd.underlying24 rfl in_24 rfl (Nat.succ_pos _) ((Sub.refl _).trans (GExpr.sub1 e0)) (GValue.len e0.Value))) ?_
    refine r_on rfl rfl rfl rfl (decide_eq_true (p := (e0.Op = (0 : Int)) ∧ (e0.Name = [])) ⟨h1, h2⟩) rfl (PureD.opD (u_bld rfl in_24 one_24 zc_24 pl_24 rfl rfl)) ?_
    refine r_on rfl rfl rfl rfl (decide_eq_true (p := (e0.Op = (0 : Int)) ∧ (e0.Name = [])) ⟨h1, h2⟩) rfl (PureD.opD (p_eqa (a := e0.Value) (b := GValue.zero) rfl eq_24 rfl (by kernel_rfl) rfl rfl)) ?_
    refine rp rfl rfl (p_pkt rfl rfl (decide_eq_true (p := (e0.Op = (0 : Int)) ∧ (e0.Name = [])) ⟨h1, h2⟩) (tb ((and_l (p := (e0.Op = (0 : Int)) ∧ (e0.Name = [])) (q := e0.Value = GValue.zero) ⟨h1, h2⟩)))) ?_
    refine rp rfl rfl (p_move rfl rfl) ?_
    refine (Classical.em (e0.Value = GValue.zero)).elim (fun h3 => ?_) (fun h3 => ?_)
    ·refine r_on rfl rfl rfl rfl (decide_eq_true (p := ((e0.Op = (0 : Int)) ∧ (e0.Name = [])) ∧ (e0.Value = GValue.zero)) ⟨⟨h1, h2⟩, h3⟩) rfl (PureD.opD (u_fa rfl rfl Tryd.underlying27 rfl in_25 (Nat.succ_ne_zero _) rfl rfl (ne_of_lt (n := 0) (Nat.lt_of_lt_of_eq (by decide) (Eq.symm (GExpr.len e0)))))) ?_
     refine r_on rfl rfl rfl rfl (decide_eq_true (p := ((e0.Op = (0 : Int)) ∧ (e0.Name = [])) ∧ (e0.Value = GValue.zero)) ⟨⟨h1, h2⟩, h3⟩) rfl (PureD.opD (u_ld rfl rfl Tryd.underlying25 rfl rfl ((Sub.refl _).trans (GExpr.sub3 e0)))) ?_
     refine r_on rfl rfl rfl rfl (decide_eq_true (p := ((e0.Op = (0 : Int)) ∧ (e0.Name = [])) ∧ (e0.Value = GValue.zero)) ⟨⟨h1, h2⟩, h3⟩) rfl (PureD.opD (p_lenl rfl Tryd.underlying25 rfl rfl)) ?_
     refine r_on rfl rfl rfl rfl (decide_eq_true (p := ((e0.Op = (0 : Int)) ∧ (e0.Name = [])) ∧ (e0.Value = GValue.zero)) ⟨⟨h1, h2⟩, h3⟩) rfl (PureD.opD (p_ieq rfl rfl rfl)) ?_
     refine rp rfl rfl (p_pkt rfl rfl (decide_eq_true (p := ((e0.Op = (0 : Int)) ∧ (e0.Name = [])) ∧ (e0.Value = GValue.zero)) ⟨⟨h1, h2⟩, h3⟩) (tb ((and_l (p := ((e0.Op = (0 : Int)) ∧ (e0.Name = [])) ∧ (e0.Value = GValue.zero)) (q := (e0.Args.length : Int) = (0 : Int)) ⟨⟨h1, h2⟩, h3⟩)))) ?_
     refine rp rfl rfl (p_asg rfl rfl) ?_
     refine rs [(2, .b (decide ((((e0.Op = (0 : Int)) ∧ (e0.Name = [])) ∧ (e0.Value = GValue.zero)) ∧ ((e0.Args.length : Int) = (0 : Int)))))] [] rfl rfl rfl ?_
     exact RunW_nil rfl
    ·refine r_off rfl rfl rfl rfl (decide_eq_false (p := ((e0.Op = (0 : Int)) ∧ (e0.Name = [])) ∧ (e0.Value = GValue.zero)) (fun h => h3 h.2)) rfl rfl ?_
     refine r_off rfl rfl rfl rfl (decide_eq_false (p := ((e0.Op = (0 : Int)) ∧ (e0.Name = [])) ∧ (e0.Value = GValue.zero)) (fun h => h3 h.2)) rfl rfl ?_
     refine r_off rfl rfl rfl rfl (decide_eq_false (p := ((e0.Op = (0 : Int)) ∧ (e0.Name = [])) ∧ (e0.Value = GValue.zero)) (fun h => h3 h.2)) rfl rfl ?_
     refine r_off rfl rfl rfl rfl (decide_eq_false (p := ((e0.Op = (0 : Int)) ∧ (e0.Name = [])) ∧ (e0.Value = GValue.zero)) (fun h => h3 h.2)) rfl rfl ?_
     refine rp rfl rfl (p_pkf rfl rfl (decide_eq_false (p := ((e0.Op = (0 : Int)) ∧ (e0.Name = [])) ∧ (e0.Value = GValue.zero)) (fun h => h3 h.2)) (tb (decide_eq_false (p := (((e0.Op = (0 : Int)) ∧ (e0.Name = [])) ∧ (e0.Value = GValue.zero)) ∧ ((e0.Args.length : Int) = (0 : Int))) (fun x => (fun h => h3 h.2) x.1)).symm)) ?_
     refine rp rfl rfl (p_asg rfl rfl) ?_
     refine rs [(2, .b (decide ((((e0.Op = (0 : Int)) ∧ (e0.Name = [])) ∧ (e0.Value = GValue.zero)) ∧ ((e0.Args.length : Int) = (0 : Int)))))] [] rfl rfl rfl ?_
     exact RunW_nil rfl
   ·refine r_off rfl rfl rfl rfl (decide_eq_false (p := (e0.Op = (0 : Int)) ∧ (e0.Name = [])) (fun h => h2 h.2)) rfl rfl ?_
    refine r_off rfl rfl rfl rfl (decide_eq_false (p := (e0.Op = (0 : Int)) ∧ (e0.Name = [])) (fun h => h2 h.2)) rfl rfl ?_
    refine r_off rfl rfl rfl rfl (decide_eq_false (p := (e0.Op = (0 : Int)) ∧ (e0.Name = [])) (fun h => h2 h.2)) rfl rfl ?_
    refine r_off rfl rfl rfl rfl (decide_eq_false (p := (e0.Op = (0 : Int)) ∧ (e0.Name = [])) (fun h => h2 h.2)) rfl rfl ?_
    refine rp rfl rfl (p_pkf rfl rfl (decide_eq_false (p := (e0.Op = (0 : Int)) ∧ (e0.Name = [])) (fun h => h2 h.2)) (tb (decide_eq_false (p := ((e0.Op = (0 : Int)) ∧ (e0.Name = [])) ∧ (e0.Value = GValue.zero)) (fun x => (fun h => h2 h.2) x.1)).symm)) ?_
    refine rp rfl rfl (p_move rfl rfl) ?_
    refine r_off rfl rfl rfl rfl (decide_eq_false (p := ((e0.Op = (0 : Int)) ∧ (e0.Name = [])) ∧ (e0.Value = GValue.zero)) (fun h => (fun h => h2 h.2) h.1)) rfl rfl ?_
    refine r_off rfl rfl rfl rfl (decide_eq_false (p := ((e0.Op = (0 : Int)) ∧ (e0.Name = [])) ∧ (e0.Value = GValue.zero)) (fun h => (fun h => h2 h.2) h.1)) rfl rfl ?_
    refine r_off rfl rfl rfl rfl (decide_eq_false (p := ((e0.Op = (0 : Int)) ∧ (e0.Name = [])) ∧ (e0.Value = GValue.zero)) (fun h => (fun h => h2 h.2) h.1)) rfl rfl ?_
    refine r_off rfl rfl rfl rfl (decide_eq_false (p := ((e0.Op = (0 : Int)) ∧ (e0.Name = [])) ∧ (e0.Value = GValue.zero)) (fun h => (fun h => h2 h.2) h.1)) rfl rfl ?_
    refine rp rfl rfl (p_pkf rfl rfl (decide_eq_false (p := ((e0.Op = (0 : Int)) ∧ (e0.Name = [])) ∧ (e0.Value = GValue.zero)) (fun h => (fun h => h2 h.2) h.1)) (tb (decide_eq_false (p := (((e0.Op = (0 : Int)) ∧ (e0.Name = [])) ∧ (e0.Value = GValue.zero)) ∧ ((e0.Args.length : Int) = (0 : Int))) (fun x => (fun h => (fun h => h2 h.2) h.1) x.1)).symm)) ?_
    refine rp rfl rfl (p_asg rfl rfl) ?_
    refine rs [(2, .b (decide ((((e0.Op = (0 : Int)) ∧ (e0.Name = [])) ∧ (e0.Value = GValue.zero)) ∧ ((e0.Args.length : Int) = (0 : Int)))))] [] rfl rfl rfl ?_
    exact RunW_nil rfl
  ·refine r_off rfl rfl rfl rfl (decide_eq_false h1) rfl rfl ?_
   refine r_off rfl rfl rfl rfl (decide_eq_false h1) rfl rfl ?_
   refine r_off rfl rfl rfl rfl (decide_eq_false h1) rfl rfl ?_
   refine rp rfl rfl (p_pkf rfl rfl (decide_eq_false h1) (tb (decide_eq_false (p := (e0.Op = (0 : Int)) ∧ (e0.Name = [])) (fun x => h1 x.1)).symm)) ?_
   refine rp rfl rfl (p_move rfl rfl) ?_
   refine r_off rfl rfl rfl rfl (decide_eq_false (p := (e0.Op = (0 : Int)) ∧ (e0.Name = [])) (fun h => h1 h.1)) rfl rfl ?_
   refine r_off rfl rfl rfl rfl (decide_eq_false (p := (e0.Op = (0 : Int)) ∧ (e0.Name = [])) (fun h => h1 h.1)) rfl rfl ?_
   refine r_off rfl rfl rfl rfl (decide_eq_false (p := (e0.Op = (0 : Int)) ∧ (e0.Name = [])) (fun h => h1 h.1)) rfl rfl ?_
   refine r_off rfl rfl rfl rfl (decide_eq_false (p := (e0.Op = (0 : Int)) ∧ (e0.Name = [])) (fun h => h1 h.1)) rfl rfl ?_
   refine rp rfl rfl (p_pkf rfl rfl (decide_eq_false (p := (e0.Op = (0 : Int)) ∧ (e0.Name = [])) (fun h => h1 h.1)) (tb (decide_eq_false (p := ((e0.Op = (0 : Int)) ∧ (e0.Name = [])) ∧ (e0.Value = GValue.zero)) (fun x => (fun h => h1 h.1) x.1)).symm)) ?_
   refine rp rfl rfl (p_move rfl rfl) ?_
   refine r_off rfl rfl rfl rfl (decide_eq_false (p := ((e0.Op = (0 : Int)) ∧ (e0.Name = [])) ∧ (e0.Value = GValue.zero)) (fun h => (fun h => h1 h.1) h.1)) rfl rfl ?_
   refine r_off rfl rfl rfl rfl (decide_eq_false (p := ((e0.Op = (0 : Int)) ∧ (e0.Name = [])) ∧ (e0.Value = GValue.zero)) (fun h => (fun h => h1 h.1) h.1)) rfl rfl ?_
   refine r_off rfl rfl rfl rfl (decide_eq_false (p := ((e0.Op = (0 : Int)) ∧ (e0.Name = [])) ∧ (e0.Value = GValue.zero)) (fun h => (fun h => h1 h.1) h.1)) rfl rfl ?_
   refine r_off rfl rfl rfl rfl (decide_eq_false (p := ((e0.Op = (0 : Int)) ∧ (e0.Name = [])) ∧ (e0.Value = GValue.zero)) (fun h => (fun h => h1 h.1) h.1)) rfl rfl ?_
   refine rp rfl rfl (p_pkf rfl rfl (decide_eq_false (p := ((e0.Op = (0 : Int)) ∧ (e0.Name = [])) ∧ (e0.Value = GValue.zero)) (fun h => (fun h => h1 h.1) h.1)) (tb (decide_eq_false (p := (((e0.Op = (0 : Int)) ∧ (e0.Name = [])) ∧ (e0.Value = GValue.zero)) ∧ ((e0.Args.length : Int) = (0 : Int))) (fun x => (fun h => (fun h => h1 h.1) h.1) x.1)).symm)) ?_
   refine rp rfl rfl (p_asg rfl rfl) ?_
   refine rs [(2, .b (decide ((((e0.Op = (0 : Int)) ∧ (e0.Name = [])) ∧ (e0.Value = GValue.zero)) ∧ ((e0.Args.length : Int) = (0 : Int)))))] [] rfl rfl rfl ?_
   exact RunW_nil rfl
 ·refine AW2_ret ?_
  have hz := some_elim H
  subst hz
  exact ⟨⟨res_tmp (.same _), trivial⟩, trivial⟩

/-! query.item -/
noncomputable def g_query_item (it0 : GItem) (cols1 : List GColumn) (q2 : GQuery) : Option (Int) :=
  (if (it0.Agg < (0 : Int)) ∨ (it0.Agg > (4 : Int)) then some (2 : Int) else (if it0.Agg = (1 : Int) then (g_query_none it0.Expr).bind fun r'1 => (if (!r'1) = true then some (3 : Int) else some (0 : Int)) else (g_kinds_Of it0.Expr cols1).bind fun r'2 => (if r'2.2.2 ≠ (0 : Int) then some r'2.2.2 else (if ((it0.Agg = (2 : Int)) ∧ (r'2.1 ≠ (2 : Int))) ∧ (r'2.1 ≠ (0 : Int)) then some (2 : Int) else (if ((it0.Agg = (0 : Int)) ∧ (q2.Group ≠ [])) ∧ ((it0.Expr.Op ≠ (2 : Int)) ∨ (it0.Expr.Name ≠ q2.Group)) then some (3 : Int) else some (0 : Int))))))
set_option maxHeartbeats 4000000 in
set_option maxRecDepth 100000 in
theorem g_query_item_ac {it0 : GItem} {cols1 : List GColumn} {q2 : GQuery} {r : Int} (H : g_query_item it0 cols1 q2 = some r) : ACp Tryd.prog 26 [(.agg (GItem.cs it0)), ((fun q : List GColumn => AV.lst (q.flatMap GColumn.cs) q.length) cols1), (.agg (GQuery.cs q2))] (AV.int r) := by
 refine ACp_of (AC2_of_body (vs := [.i r]) Tryd.func26 rfl rfl (Nat.le_of_ble_eq_true rfl) rfl ?_) (fun _ => .same _)
 unfold g_query_item at H
 refine as2 [(0, .g (GItem.cs it0)), (1, .p ((fun q : List GColumn => AV.lst (q.flatMap GColumn.cs) q.length) cols1)), (2, .g (GQuery.cs q2))] [] rfl rfl rfl ?_
 refine sg [0, 1, 2] rfl ?_
 refine r_op rfl rfl (MakeD.opD (n_box 3 rfl rfl) rfl rfl rfl rfl) ?_
 refine r_op rfl rfl (MakeD.opD (n_box 5 rfl rfl) rfl rfl rfl rfl) ?_
 refine rp rfl rfl (p_asg rfl rfl) ?_
 refine rz [(1, .p ((fun q : List GColumn => AV.lst (q.flatMap GColumn.cs) q.length) cols1)), (3, .q 3 (0)), (5, .q 5 (0))] [(3, .pure (GItem.cs it0)), (5, .pure (GQuery.cs q2))] rfl rfl rfl ?_
 refine AW2_seq ?_
 refine AW2_seq ?_
 refine AW2_mid (⟨[(1, .p ((fun q : List GColumn => AV.lst (q.flatMap GColumn.cs) q.length) cols1)), (3, .q 3 (0)), (5, .q 5 (0)), (17, .b (decide ((it0.Agg < (0 : Int)) ∨ (it0.Agg > (4 : Int)))))], [(3, .pure (GItem.cs it0)), (5, .pure (GQuery.cs q2))], 69⟩ : TS) ?_ ?_
 ·refine AW2_reg [0, 1, 2, 3, 4, 5, 6, 7] rfl ?_
  refine rp rfl rfl (u_fa rfl rfl Tryd.underlying61 rfl in_3 (Nat.succ_ne_zero _) rfl rfl (ne_of_lt (n := 0) (Nat.lt_of_lt_of_eq (by decide) (Eq.symm (GItem.len it0))))) ?_
  refine rp rfl rfl (u_ld rfl rfl Tryd.underlying3 rfl rfl ((Sub.refl _).trans (GItem.sub0 it0))) ?_
  refine rp rfl rfl (p_bin rfl rfl rfl rfl) ?_
  refine rp rfl rfl (p_move rfl rfl) ?_
  refine (Classical.em (it0.Agg < (0 : Int))).elim (fun h1 => ?_) (fun h1 => ?_)
  ·refine r_off rfl rfl rfl rfl (decide_eq_true h1) rfl rfl ?_
   refine r_off rfl rfl rfl rfl (decide_eq_true h1) rfl rfl ?_
   refine r_off rfl rfl rfl rfl (decide_eq_true h1) rfl rfl ?_
   refine rp rfl rfl (p_pkt rfl rfl (decide_eq_true h1) (tb (decide_eq_true (p := (it0.Agg < (0 : Int)) ∨ (it0.Agg > (4 : Int))) (Or.inl h1)).symm)) ?_
   refine rs [(1, .p ((fun q : List GColumn => AV.lst (q.flatMap GColumn.cs) q.length) cols1)), (3, .q 3 (0)), (5, .q 5 (0)), (17, .b (decide ((it0.Agg < (0 : Int)) ∨ (it0.Agg > (4 : Int)))))] [(3, .pure (GItem.cs it0)), (5, .pure (GQuery.cs q2))] rfl rfl rfl ?_
   exact RunW_nil rfl
  ·refine r_on rfl rfl rfl rfl (decide_eq_false h1) rfl (PureD.opD (u_fa rfl rfl Tryd.underlying61 rfl in_3 (Nat.succ_ne_zero _) rfl rfl (ne_of_lt (n := 0) (Nat.lt_of_lt_of_eq (by decide) (Eq.symm (GItem.len it0)))))) ?_
   refine r_on rfl rfl rfl rfl (decide_eq_false h1) rfl (PureD.opD (u_ld rfl rfl Tryd.underlying3 rfl rfl ((Sub.refl _).trans (GItem.sub0 it0)))) ?_
   refine r_on rfl rfl rfl rfl (decide_eq_false h1) rfl (PureD.opD (p_bin rfl rfl rfl rfl)) ?_
   refine rp rfl rfl (p_pkf rfl rfl (decide_eq_false h1) (tb ((or_l (p := it0.Agg < (0 : Int)) (q := it0.Agg > (4 : Int)) h1)))) ?_
   refine rs [(1, .p ((fun q : List GColumn => AV.lst (q.flatMap GColumn.cs) q.length) cols1)), (3, .q 3 (0)), (5, .q 5 (0)), (17, .b (decide ((it0.Agg < (0 : Int)) ∨ (it0.Agg > (4 : Int)))))] [(3, .pure (GItem.cs it0)), (5, .pure (GQuery.cs q2))] rfl rfl rfl ?_
   exact RunW_nil rfl
 ·refine AW2_if (p := (it0.Agg < (0 : Int)) ∨ (it0.Agg > (4 : Int))) rfl (fun h2 => ?_) (fun h2 => ?_)
  ·replace H := ite_then h2 H
   refine sg [0] rfl ?_
   refine rp rfl rfl (p_asg rfl rfl) ?_
   refine rz [(6, .i (2 : Int))] [] rfl rfl rfl ?_
   refine AW2_ret ?_
   have hz := some_elim H
   subst hz
   exact ⟨⟨res_tmp (.same _), trivial⟩, trivial⟩
  ·replace H := ite_else h2 H
   refine as2 [(1, .p ((fun q : List GColumn => AV.lst (q.flatMap GColumn.cs) q.length) cols1)), (3, .q 3 (0)), (5, .q 5 (0))] [(3, .pure (GItem.cs it0)), (5, .pure (GQuery.cs q2))] rfl rfl rfl ?_
   refine AW2_skip ?_
   refine AW2_seq ?_
   refine sg [0, 1, 2] rfl ?_
   refine rp rfl rfl (u_fa rfl rfl Tryd.underlying61 rfl in_3 (Nat.succ_ne_zero _) rfl rfl (ne_of_lt (n := 0) (Nat.lt_of_lt_of_eq (by decide) (Eq.symm (GItem.len it0))))) ?_
   refine rp rfl rfl (u_ld rfl rfl Tryd.underlying3 rfl rfl ((Sub.refl _).trans (GItem.sub0 it0))) ?_
   refine rp rfl rfl (p_ieq rfl rfl rfl) ?_
   refine rz [(1, .p ((fun q : List GColumn => AV.lst (q.flatMap GColumn.cs) q.length) cols1)), (3, .q 3 (0)), (5, .q 5 (0)), (20, .b (decide (it0.Agg = (1 : Int))))] [(3, .pure (GItem.cs it0)), (5, .pure (GQuery.cs q2))] rfl rfl rfl ?_
   refine AW2_if (p := it0.Agg = (1 : Int)) rfl (fun h3 => ?_) (fun h3 => ?_)
   ·replace H := ite_then h3 H
    refine AW2_seq ?_
    refine sg [0, 1, 2, 3] rfl ?_
    refine rp rfl rfl (u_fa rfl rfl Tryd.underlying61 rfl in_27 (Nat.succ_ne_zero _) rfl rfl (ne_of_lt (n := 0) (Nat.lt_of_lt_of_eq (by decide) (Eq.symm (GItem.len it0))))) ?_
    refine rp rfl rfl (u_lda rfl rfl Tryd.underlying27 rfl in_27 rfl (Nat.succ_pos _) ((Sub.refl _).trans (GItem.sub1 it0)) (GExpr.len it0.Expr)) ?_
    refine bindK H fun r'1 h4 H => ?_
    refine rp rfl rfl (p_callp rfl rfl rfl Tryd.func50 rfl rfl (g_query_none_ac h4) ⟨rfl, trivial⟩) ?_
    refine rp rfl rfl (p_not rfl rfl) ?_
    refine rz [(24, .b (!r'1))] [] rfl rfl rfl ?_
    refine AW2_cond rfl (fun h5 => ?_) (fun h5 => ?_)
    ·replace H := ite_then h5 H
     refine sg [0] rfl ?_
     refine rp rfl rfl (p_asg rfl rfl) ?_
     refine rz [(6, .i (3 : Int))] [] rfl rfl rfl ?_
     refine AW2_ret ?_
     have hz := some_elim H
     subst hz
     exact ⟨⟨res_tmp (.same _), trivial⟩, trivial⟩
    ·replace H := ite_else (ne_true h5) H
     refine as2 [] [] rfl rfl rfl ?_
     refine AW2_skip ?_
     refine sg [0] rfl ?_
     refine rp rfl rfl (p_asg rfl rfl) ?_
     refine rz [(6, .i (0 : Int))] [] rfl rfl rfl ?_
     refine AW2_ret ?_
     have hz := some_elim H
     subst hz
     exact ⟨⟨res_tmp (.same _), trivial⟩, trivial⟩
   ·replace H := ite_else h3 H
    refine as2 [(1, .p ((fun q : List GColumn => AV.lst (q.flatMap GColumn.cs) q.length) cols1)), (3, .q 3 (0)), (5, .q 5 (0))] [(3, .pure (GItem.cs it0)), (5, .pure (GQuery.cs q2))] rfl rfl rfl ?_
    refine AW2_skip ?_
    refine sg [0, 1, 2, 3, 4, 5, 6, 7, 8, 9, 10] rfl ?_
    refine rp rfl rfl (u_fa rfl rfl Tryd.underlying61 rfl in_27 (Nat.succ_ne_zero _) rfl rfl (ne_of_lt (n := 0) (Nat.lt_of_lt_of_eq (by decide) (Eq.symm (GItem.len it0))))) ?_
    refine rp rfl rfl (u_lda rfl rfl Tryd.underlying27 rfl in_27 rfl (Nat.succ_pos _) ((Sub.refl _).trans (GItem.sub1 it0)) (GExpr.len it0.Expr)) ?_
    refine rp rfl rfl (p_move rfl rfl) ?_
    refine bindK H fun r'2 h6 H => ?_
    refine rp rfl rfl (p_callp rfl rfl rfl Tryd.func8 rfl rfl (g_kinds_Of_ac h6) ⟨rfl, rfl, trivial⟩) ?_
    refine rp rfl rfl (p_move rfl rfl) ?_
    refine rp rfl rfl (p_ext rfl rfl rfl rfl) ?_
    refine rp rfl rfl (p_ext rfl rfl rfl rfl) ?_
    refine rp rfl rfl (p_ext rfl rfl rfl rfl) ?_
    refine rp rfl rfl (p_asg rfl rfl) ?_
    refine rp rfl rfl (p_asg rfl rfl) ?_
    refine rp rfl rfl (p_asg rfl rfl) ?_
    refine rz [(3, .q 3 (0)), (5, .q 5 (0)), (7, .i r'2.1), (9, .i r'2.2.2)] [(3, .pure (GItem.cs it0)), (5, .pure (GQuery.cs q2))] rfl rfl rfl ?_
    refine AW2_seq ?_
    refine sg [0, 1] rfl ?_
    refine rp rfl rfl (p_move rfl rfl) ?_
    refine rp rfl rfl (p_ine rfl rfl rfl) ?_
    refine rz [(3, .q 3 (0)), (5, .q 5 (0)), (7, .i r'2.1), (9, .i r'2.2.2), (34, .b (decide (r'2.2.2 ≠ (0 : Int))))] [(3, .pure (GItem.cs it0)), (5, .pure (GQuery.cs q2))] rfl rfl rfl ?_
    refine AW2_if (p := r'2.2.2 ≠ (0 : Int)) rfl (fun h7 => ?_) (fun h7 => ?_)
    ·replace H := ite_then h7 H
     refine sg [0, 1] rfl ?_
     refine rp rfl rfl (p_move rfl rfl) ?_
     refine rp rfl rfl (p_asg rfl rfl) ?_
     refine rz [(6, .i r'2.2.2)] [] rfl rfl rfl ?_
     refine AW2_ret ?_
     have hz := some_elim H
     subst hz
     exact ⟨⟨res_tmp (.same _), trivial⟩, trivial⟩
    ·replace H := ite_else h7 H
     refine as2 [(3, .q 3 (0)), (5, .q 5 (0)), (7, .i r'2.1)] [(3, .pure (GItem.cs it0)), (5, .pure (GQuery.cs q2))] rfl rfl rfl ?_
     refine AW2_skip ?_
     refine AW2_seq ?_
     refine AW2_seq ?_
     refine AW2_mid (⟨[(3, .q 3 (0)), (5, .q 5 (0)), (46, .b (decide (((it0.Agg = (2 : Int)) ∧ (r'2.1 ≠ (2 : Int))) ∧ (r'2.1 ≠ (0 : Int)))))], [(3, .pure (GItem.cs it0)), (5, .pure (GQuery.cs q2))], 69⟩ : TS) ?_ ?_
     ·refine AW2_reg [0, 1, 2, 3, 4, 5, 6, 7, 8, 9, 10] rfl ?_
      refine rp rfl rfl (u_fa rfl rfl Tryd.underlying61 rfl in_3 (Nat.succ_ne_zero _) rfl rfl (ne_of_lt (n := 0) (Nat.lt_of_lt_of_eq (by decide) (Eq.symm (GItem.len it0))))) ?_
      refine rp rfl rfl (u_ld rfl rfl Tryd.underlying3 rfl rfl ((Sub.refl _).trans (GItem.sub0 it0))) ?_
      refine rp rfl rfl (p_ieq rfl rfl rfl) ?_
      refine rp rfl rfl (p_move rfl rfl) ?_
      refine (Classical.em (it0.Agg = (2 : Int))).elim (fun h8 => ?_) (fun h8 => ?_)
      ·refine r_on rfl rfl rfl rfl (decide_eq_true h8) rfl (PureD.opD (p_move rfl rfl)) ?_
       refine r_on rfl rfl rfl rfl (decide_eq_true h8) rfl (PureD.opD (p_ine rfl rfl rfl)) ?_
       refine rp rfl rfl (p_pkt rfl rfl (decide_eq_true h8) (tb ((and_l (p := it0.Agg = (2 : Int)) (q := r'2.1 ≠ (2 : Int)) h8)))) ?_
       refine rp rfl rfl (p_move rfl rfl) ?_
       refine (Classical.em (r'2.1 ≠ (2 : Int))).elim (fun h9 => ?_) (fun h9 => ?_)
       ·refine r_on rfl rfl rfl rfl (decide_eq_true (p := (it0.Agg = (2 : Int)) ∧ (r'2.1 ≠ (2 : Int))) ⟨h8, h9⟩) rfl (PureD.opD (p_move rfl rfl)) ?_
        refine r_on rfl rfl rfl rfl (decide_eq_true (p := (it0.Agg = (2 : Int)) ∧ (r'2.1 ≠ (2 : Int))) ⟨h8, h9⟩) rfl (PureD.opD (p_ine rfl rfl rfl)) ?_
        refine rp rfl rfl (p_pkt rfl rfl (decide_eq_true (p := (it0.Agg = (2 : Int)) ∧ (r'2.1 ≠ (2 : Int))) ⟨h8, h9⟩) (tb ((and_l (p := (it0.Agg = (2 : Int)) ∧ (r'2.1 ≠ (2 : Int))) (q := r'2.1 ≠ (0 : Int)) ⟨h8, h9⟩)))) ?_
        refine rs [(3, .q 3 (0)), (5, .q 5 (0)), (46, .b (decide (((it0.Agg = (2 : Int)) ∧ (r'2.1 ≠ (2 : Int))) ∧ (r'2.1 ≠ (0 : Int)))))] [(3, .pure (GItem.cs it0)), (5, .pure (GQuery.cs q2))] rfl rfl rfl ?_
        exact RunW_nil rfl
       ·refine r_off rfl rfl rfl rfl (decide_eq_false (p := (it0.Agg = (2 : Int)) ∧ (r'2.1 ≠ (2 : Int))) (fun h => h9 h.2)) rfl rfl ?_
        refine r_off rfl rfl rfl rfl (decide_eq_false (p := (it0.Agg = (2 : Int)) ∧ (r'2.1 ≠ (2 : Int))) (fun h => h9 h.2)) rfl rfl ?_
        refine rp rfl rfl (p_pkf rfl rfl (decide_eq_false (p := (it0.Agg = (2 : Int)) ∧ (r'2.1 ≠ (2 : Int))) (fun h => h9 h.2)) (tb (decide_eq_false (p := ((it0.Agg = (2 : Int)) ∧ (r'2.1 ≠ (2 : Int))) ∧ (r'2.1 ≠ (0 : Int))) (fun x => (fun h => h9 h.2) x.1)).symm)) ?_
        refine rs [(3, .q 3 (0)), (5, .q 5 (0)), (46, .b (decide (((it0.Agg = (2 : Int)) ∧ (r'2.1 ≠ (2 : Int))) ∧ (r'2.1 ≠ (0 : Int)))))] [(3, .pure (GItem.cs it0)), (5, .pure (GQuery.cs q2))] rfl rfl rfl ?_
        exact RunW_nil rfl
      ·refine r_off rfl rfl rfl rfl (decide_eq_false h8) rfl rfl ?_
       refine r_off rfl rfl rfl rfl (decide_eq_false h8) rfl rfl ?_
       refine rp rfl rfl (p_pkf rfl rfl (decide_eq_false h8) (tb (decide_eq_false (p := (it0.Agg = (2 : Int)) ∧ (r'2.1 ≠ (2 : Int))) (fun x => h8 x.1)).symm)) ?_
       refine rp rfl rfl (p_move rfl rfl) ?_
       refine r_off rfl rfl rfl rfl (decide_eq_false (p := (it0.Agg = (2 : Int)) ∧ (r'2.1 ≠ (2 : Int))) (fun h => h8 h.1)) rfl rfl ?_
       refine r_off rfl rfl rfl rfl (decide_eq_false (p := (it0.Agg = (2 : Int)) ∧ (r'2.1 ≠ (2 : Int))) (fun h => h8 h.1)) rfl rfl ?_
       refine rp rfl rfl (p_pkf rfl rfl (decide_eq_false (p := (it0.Agg = (2 : Int)) ∧ (r'2.1 ≠ (2 : Int))) (fun h => h8 h.1)) (tb (decide_eq_false (p := ((it0.Agg = (2 : Int)) ∧ (r'2.1 ≠ (2 : Int))) ∧ (r'2.1 ≠ (0 : Int))) (fun x => (fun h => h8 h.1) x.1)).symm)) ?_
       refine rs [(3, .q 3 (0)), (5, .q 5 (0)), (46, .b (decide (((it0.Agg = (2 : Int)) ∧ (r'2.1 ≠ (2 : Int))) ∧ (r'2.1 ≠ (0 : Int)))))] [(3, .pure (GItem.cs it0)), (5, .pure (GQuery.cs q2))] rfl rfl rfl ?_
       exact RunW_nil rfl
     ·refine AW2_if (p := ((it0.Agg = (2 : Int)) ∧ (r'2.1 ≠ (2 : Int))) ∧ (r'2.1 ≠ (0 : Int))) rfl (fun h10 => ?_) (fun h10 => ?_)
      ·replace H := ite_then h10 H
       refine sg [0] rfl ?_
       refine rp rfl rfl (p_asg rfl rfl) ?_
       refine rz [(6, .i (2 : Int))] [] rfl rfl rfl ?_
       refine AW2_ret ?_
       have hz := some_elim H
       subst hz
       exact ⟨⟨res_tmp (.same _), trivial⟩, trivial⟩
      ·replace H := ite_else h10 H
       refine as2 [(3, .q 3 (0)), (5, .q 5 (0))] [(3, .pure (GItem.cs it0)), (5, .pure (GQuery.cs q2))] rfl rfl rfl ?_
       refine AW2_skip ?_
       refine AW2_seq ?_
       refine AW2_seq ?_
       refine AW2_mid (⟨[(68, .b (decide (((it0.Agg = (0 : Int)) ∧ (q2.Group ≠ [])) ∧ ((it0.Expr.Op ≠ (2 : Int)) ∨ (it0.Expr.Name ≠ q2.Group)))))], [], 69⟩ : TS) ?_ ?_
       ·refine AW2_reg [0, 1, 2, 3, 4, 5, 6, 7, 8, 9, 10, 11, 12, 13, 14, 15, 16, 17, 18, 19, 20, 21] rfl ?_
        refine rp rfl rfl (u_fa rfl rfl Tryd.underlying61 rfl in_3 (Nat.succ_ne_zero _) rfl rfl (ne_of_lt (n := 0) (Nat.lt_of_lt_of_eq (by decide) (Eq.symm (GItem.len it0))))) ?_
        refine rp rfl rfl (u_ld rfl rfl Tryd.underlying3 rfl rfl ((Sub.refl _).trans (GItem.sub0 it0))) ?_
        refine rp rfl rfl (p_ieq rfl rfl rfl) ?_
        refine rp rfl rfl (p_move rfl rfl) ?_
        refine (Classical.em (it0.Agg = (0 : Int))).elim (fun h11 => ?_) (fun h11 => ?_)
        ·refine r_on rfl rfl rfl rfl (decide_eq_true h11) rfl (PureD.opD (u_fa rfl rfl Tryd.underlying37 rfl in_9 (Nat.succ_ne_zero _) rfl rfl (ne_of_lt (n := 0) (Nat.lt_of_lt_of_eq (by decide) (Eq.symm (GQuery.len q2)))))) ?_
         refine r_on rfl rfl rfl rfl (decide_eq_true h11) rfl (PureD.opD (u_ld rfl rfl Tryd.underlying9 rfl rfl ((Sub.refl _).trans (GQuery.sub2 q2)))) ?_
         refine r_on rfl rfl rfl rfl (decide_eq_true h11) rfl (PureD.opD (p_sne rfl rfl rfl)) ?_
         refine rp rfl rfl (p_pkt rfl rfl (decide_eq_true h11) (tb ((and_l (p := it0.Agg = (0 : Int)) (q := q2.Group ≠ []) h11)))) ?_
         refine rp rfl rfl (p_move rfl rfl) ?_
         refine (Classical.em (q2.Group ≠ [])).elim (fun h12 => ?_) (fun h12 => ?_)
         ·refine r_on rfl rfl rfl rfl (decide_eq_true (p := (it0.Agg = (0 : Int)) ∧ (q2.Group ≠ [])) ⟨h11, h12⟩) rfl (PureD.opD (u_fa rfl rfl Tryd.underlying61 rfl in_27 (Nat.succ_ne_zero _) rfl rfl (ne_of_lt (n := 0) (Nat.lt_of_lt_of_eq (by decide) (Eq.symm (GItem.len it0)))))) ?_
          refine r_on rfl rfl rfl rfl (decide_eq_true (p := (it0.Agg = (0 : Int)) ∧ (q2.Group ≠ [])) ⟨h11, h12⟩) rfl (PureD.opD (u_fa rfl rfl Tryd.underlying27 rfl in_3 (Nat.succ_ne_zero _) rfl rfl (ne_of_lt (n := 0) (Nat.lt_of_lt_of_eq (by decide) (Eq.symm (GItem.len it0)))))) ?_
          refine r_on rfl rfl rfl rfl (decide_eq_true (p := (it0.Agg = (0 : Int)) ∧ (q2.Group ≠ [])) ⟨h11, h12⟩) rfl (PureD.opD (u_ld rfl rfl Tryd.underlying3 rfl rfl (((Sub.refl _).trans (GItem.sub1 it0)).trans (GExpr.sub0 it0.Expr)))) ?_
          refine r_on rfl rfl rfl rfl (decide_eq_true (p := (it0.Agg = (0 : Int)) ∧ (q2.Group ≠ [])) ⟨h11, h12⟩) rfl (PureD.opD (p_ine rfl rfl rfl)) ?_
          refine r_on rfl rfl rfl rfl (decide_eq_true (p := (it0.Agg = (0 : Int)) ∧ (q2.Group ≠ [])) ⟨h11, h12⟩) rfl (PureD.opD (p_move rfl rfl)) ?_
          refine (Classical.em (it0.Expr.Op ≠ (2 : Int))).elim (fun h13 => ?_) (fun h13 => ?_)
          ·refine r_off rfl rfl rfl rfl (decide_eq_true h13) rfl rfl ?_
           refine r_off rfl rfl rfl rfl (decide_eq_true h13) rfl rfl ?_
           refine r_off rfl rfl rfl rfl (decide_eq_true h13) rfl rfl ?_
           refine r_off rfl rfl rfl rfl (decide_eq_true h13) rfl rfl ?_
           refine r_off rfl rfl rfl rfl (decide_eq_true h13) rfl rfl ?_
           refine r_off rfl rfl rfl rfl (decide_eq_true h13) rfl rfl ?_
           refine r_on rfl rfl rfl rfl (decide_eq_true (p := (it0.Agg = (0 : Int)) ∧ (q2.Group ≠ [])) ⟨h11, h12⟩) rfl (PureD.opD (p_pkt rfl rfl (decide_eq_true h13) (tb (decide_eq_true (p := (it0.Expr.Op ≠ (2 : Int)) ∨ (it0.Expr.Name ≠ q2.Group)) (Or.inl h13)).symm))) ?_
           refine rp rfl rfl (p_pkt rfl rfl (decide_eq_true (p := (it0.Agg = (0 : Int)) ∧ (q2.Group ≠ [])) ⟨h11, h12⟩) (tb ((and_l (p := (it0.Agg = (0 : Int)) ∧ (q2.Group ≠ [])) (q := (it0.Expr.Op ≠ (2 : Int)) ∨ (it0.Expr.Name ≠ q2.Group)) ⟨h11, h12⟩)))) ?_
           refine rs [(68, .b (decide (((it0.Agg = (0 : Int)) ∧ (q2.Group ≠ [])) ∧ ((it0.Expr.Op ≠ (2 : Int)) ∨ (it0.Expr.Name ≠ q2.Group)))))] [] rfl rfl rfl ?_
           exact RunW_nil rfl
          ·refine r_on rfl rfl rfl rfl (decide_eq_false h13) rfl (PureD.opD (u_fa rfl rfl Tryd.underlying61 rfl in_27 (Nat.succ_ne_zero _) rfl rfl (ne_of_lt (n := 0) (Nat.lt_of_lt_of_eq (by decide) (Eq.symm (GItem.len it0)))))) ?_
           refine r_on rfl rfl rfl rfl (decide_eq_false h13) rfl (PureD.opD (u_fa rfl rfl Tryd.underlying27 rfl in_9 (Nat.succ_ne_zero _) rfl rfl (ne_of_lt (n := 0) (Nat.lt_of_lt_of_eq (by decide) (Eq.symm (GItem.len it0)))))) ?_
           refine r_on rfl rfl rfl rfl (decide_eq_false h13) rfl (PureD.opD (u_ld rfl rfl Tryd.underlying9 rfl rfl (((Sub.refl _).trans (GItem.sub1 it0)).trans (GExpr.sub2 it0.Expr)))) ?_
           refine r_on rfl rfl rfl rfl (decide_eq_false h13) rfl (PureD.opD (u_fa rfl rfl Tryd.underlying37 rfl in_9 (Nat.succ_ne_zero _) rfl rfl (ne_of_lt (n := 0) (Nat.lt_of_lt_of_eq (by decide) (Eq.symm (GQuery.len q2)))))) ?_
           refine r_on rfl rfl rfl rfl (decide_eq_false h13) rfl (PureD.opD (u_ld rfl rfl Tryd.underlying9 rfl rfl ((Sub.refl _).trans (GQuery.sub2 q2)))) ?_
           refine r_on rfl rfl rfl rfl (decide_eq_false h13) rfl (PureD.opD (p_sne rfl rfl rfl)) ?_
           refine r_on rfl rfl rfl rfl (decide_eq_true (p := (it0.Agg = (0 : Int)) ∧ (q2.Group ≠ [])) ⟨h11, h12⟩) rfl (PureD.opD (p_pkf rfl rfl (decide_eq_false h13) (tb ((or_l (p := it0.Expr.Op ≠ (2 : Int)) (q := it0.Expr.Name ≠ q2.Group) h13))))) ?_
           refine rp rfl rfl (p_pkt rfl rfl (decide_eq_true (p := (it0.Agg = (0 : Int)) ∧ (q2.Group ≠ [])) ⟨h11, h12⟩) (tb ((and_l (p := (it0.Agg = (0 : Int)) ∧ (q2.Group ≠ [])) (q := (it0.Expr.Op ≠ (2 : Int)) ∨ (it0.Expr.Name ≠ q2.Group)) ⟨h11, h12⟩)))) ?_
           refine rs [(68, .b (decide (((it0.Agg = (0 : Int)) ∧ (q2.Group ≠ [])) ∧ ((it0.Expr.Op ≠ (2 : Int)) ∨ (it0.Expr.Name ≠ q2.Group)))))] [] rfl rfl rfl ?_
           exact RunW_nil rfl
         ·refine r_off rfl rfl rfl rfl (decide_eq_false (p := (it0.Agg = (0 : Int)) ∧ (q2.Group ≠ [])) (fun h => h12 h.2)) rfl rfl ?_
          refine r_off rfl rfl rfl rfl (decide_eq_false (p := (it0.Agg = (0 : Int)) ∧ (q2.Group ≠ [])) (fun h => h12 h.2)) rfl rfl ?_
          refine r_off rfl rfl rfl rfl (decide_eq_false (p := (it0.Agg = (0 : Int)) ∧ (q2.Group ≠ [])) (fun h => h12 h.2)) rfl rfl ?_
          refine r_off rfl rfl rfl rfl (decide_eq_false (p := (it0.Agg = (0 : Int)) ∧ (q2.Group ≠ [])) (fun h => h12 h.2)) rfl rfl ?_
          refine r_off rfl rfl rfl rfl (decide_eq_false (p := (it0.Agg = (0 : Int)) ∧ (q2.Group ≠ [])) (fun h => h12 h.2)) rfl rfl ?_
          refine r_off2 rfl rfl rfl rfl rfl rfl ?_
          refine r_off2 rfl rfl rfl rfl rfl rfl ?_
          refine r_off2 rfl rfl rfl rfl rfl rfl ?_
          refine r_off2 rfl rfl rfl rfl rfl rfl ?_
          refine r_off2 rfl rfl rfl rfl rfl rfl ?_
          refine r_off2 rfl rfl rfl rfl rfl rfl ?_
          refine r_off rfl rfl rfl rfl (decide_eq_false (p := (it0.Agg = (0 : Int)) ∧ (q2.Group ≠ [])) (fun h => h12 h.2)) rfl rfl ?_
          refine rp rfl rfl (p_pkf rfl rfl (decide_eq_false (p := (it0.Agg = (0 : Int)) ∧ (q2.Group ≠ [])) (fun h => h12 h.2)) (tb (decide_eq_false (p := ((it0.Agg = (0 : Int)) ∧ (q2.Group ≠ [])) ∧ ((it0.Expr.Op ≠ (2 : Int)) ∨ (it0.Expr.Name ≠ q2.Group))) (fun x => (fun h => h12 h.2) x.1)).symm)) ?_
          refine rs [(68, .b (decide (((it0.Agg = (0 : Int)) ∧ (q2.Group ≠ [])) ∧ ((it0.Expr.Op ≠ (2 : Int)) ∨ (it0.Expr.Name ≠ q2.Group)))))] [] rfl rfl rfl ?_
          exact RunW_nil rfl
        ·refine r_off rfl rfl rfl rfl (decide_eq_false h11) rfl rfl ?_
         refine r_off rfl rfl rfl rfl (decide_eq_false h11) rfl rfl ?_
         refine r_off rfl rfl rfl rfl (decide_eq_false h11) rfl rfl ?_
         refine rp rfl rfl (p_pkf rfl rfl (decide_eq_false h11) (tb (decide_eq_false (p := (it0.Agg = (0 : Int)) ∧ (q2.Group ≠ [])) (fun x => h11 x.1)).symm)) ?_
         refine rp rfl rfl (p_move rfl rfl) ?_
         refine r_off rfl rfl rfl rfl (decide_eq_false (p := (it0.Agg = (0 : Int)) ∧ (q2.Group ≠ [])) (fun h => h11 h.1)) rfl rfl ?_
         refine r_off rfl rfl rfl rfl (decide_eq_false (p := (it0.Agg = (0 : Int)) ∧ (q2.Group ≠ [])) (fun h => h11 h.1)) rfl rfl ?_
         refine r_off rfl rfl rfl rfl (decide_eq_false (p := (it0.Agg = (0 : Int)) ∧ (q2.Group ≠ [])) (fun h => h11 h.1)) rfl rfl ?_
         refine r_off rfl rfl rfl rfl (decide_eq_false (p := (it0.Agg = (0 : Int)) ∧ (q2.Group ≠ [])) (fun h => h11 h.1)) rfl rfl ?_
         refine r_off rfl rfl rfl rfl (decide_eq_false (p := (it0.Agg = (0 : Int)) ∧ (q2.Group ≠ [])) (fun h => h11 h.1)) rfl rfl ?_
         refine r_off2 rfl rfl rfl rfl rfl rfl ?_
         refine r_off2 rfl rfl rfl rfl rfl rfl ?_
         refine r_off2 rfl rfl rfl rfl rfl rfl ?_
         refine r_off2 rfl rfl rfl rfl rfl rfl ?_
         refine r_off2 rfl rfl rfl rfl rfl rfl ?_
         refine r_off2 rfl rfl rfl rfl rfl rfl ?_
         refine r_off rfl rfl rfl rfl (decide_eq_false (p := (it0.Agg = (0 : Int)) ∧ (q2.Group ≠ [])) (fun h => h11 h.1)) rfl rfl ?_
         refine rp rfl rfl (p_pkf rfl rfl (decide_eq_false (p := (it0.Agg = (0 : Int)) ∧ (q2.Group ≠ [])) (fun h => h11 h.1)) (tb (decide_eq_false (p := ((it0.Agg = (0 : Int)) ∧ (q2.Group ≠ [])) ∧ ((it0.Expr.Op ≠ (2 : Int)) ∨ (it0.Expr.Name ≠ q2.Group))) (fun x => (fun h => h11 h.1) x.1)).symm)) ?_
         refine rs [(68, .b (decide (((it0.Agg = (0 : Int)) ∧ (q2.Group ≠ [])) ∧ ((it0.Expr.Op ≠ (2 : Int)) ∨ (it0.Expr.Name ≠ q2.Group)))))] [] rfl rfl rfl ?_
         exact RunW_nil rfl
       ·refine AW2_if (p := ((it0.Agg = (0 : Int)) ∧ (q2.Group ≠ [])) ∧ ((it0.Expr.Op ≠ (2 : Int)) ∨ (it0.Expr.Name ≠ q2.Group))) rfl (fun h14 => ?_) (fun h14 => ?_)
        ·replace H := ite_then h14 H
         refine sg [0] rfl ?_
         refine rp rfl rfl (p_asg rfl rfl) ?_
         refine rz [(6, .i (3 : Int))] [] rfl rfl rfl ?_
         refine AW2_ret ?_
         have hz := some_elim H
         subst hz
         exact ⟨⟨res_tmp (.same _), trivial⟩, trivial⟩
        ·replace H := ite_else h14 H
         refine as2 [] [] rfl rfl rfl ?_
         refine AW2_skip ?_
         refine sg [0] rfl ?_
         refine rp rfl rfl (p_asg rfl rfl) ?_
         refine rz [(6, .i (0 : Int))] [] rfl rfl rfl ?_
         refine AW2_ret ?_
         have hz := some_elim H
         subst hz
         exact ⟨⟨res_tmp (.same _), trivial⟩, trivial⟩
end Go.Proofs.YtcahembojhmpbaaDoor.VM
