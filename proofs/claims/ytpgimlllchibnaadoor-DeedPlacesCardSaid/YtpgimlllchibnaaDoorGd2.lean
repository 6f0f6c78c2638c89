/- Functions of the program, as they answer, and that their code comes to these answers. -/
import Derived.Test.YtpgimlllchibnaaDoorGd1
namespace Go.Proofs.YtpgimlllchibnaaDoor.VM
open Go Go.RowKit

structure GGrant where
  From : Int
  To : Int
  Object : Int
  Right : Int
  Option_ : Bool
deriving DecidableEq, Inhabited
def GGrant.zero : GGrant := ⟨(0 : Int), (0 : Int), (0 : Int), (0 : Int), false⟩
def GGrant.cs (x : GGrant) : List AV := ([(AV.int x.From)]) ++ (([(AV.int x.To)]) ++ (([(AV.int x.Object)]) ++ (([(AV.int x.Right)]) ++ ([(AV.bool x.Option_)]))))
theorem GGrant.len (x : GGrant) : (GGrant.cs x).length = 5 := by
  simp only [GGrant.cs, List.length_append]
  rw [show ([(AV.int x.From)]).length = 1 from (show ([(AV.int x.From)]).length = 1 from rfl), show ([(AV.int x.To)]).length = 1 from (show ([(AV.int x.To)]).length = 1 from rfl), show ([(AV.int x.Object)]).length = 1 from (show ([(AV.int x.Object)]).length = 1 from rfl), show ([(AV.int x.Right)]).length = 1 from (show ([(AV.int x.Right)]).length = 1 from rfl), show ([(AV.bool x.Option_)]).length = 1 from (show ([(AV.bool x.Option_)]).length = 1 from rfl)]
theorem GGrant.sub0 (x : GGrant) : Sub (GGrant.cs x) 0 ([(AV.int x.From)]) := Sub.head _ _
abbrev GGrant.w0 (x : GGrant) (y : Int) : GGrant := { x with From := y }
theorem GGrant.upd0 (x : GGrant) (y : Int) : Upd (GGrant.cs x) 0 ([(AV.int y)]) (GGrant.cs { x with From := y }) := Upd.head (show ([(AV.int y)]).length = ([(AV.int x.From)]).length from rfl)
theorem GGrant.sub1 (x : GGrant) : Sub (GGrant.cs x) 1 ([(AV.int x.To)]) := Sub.skip (k := 1) (show ([(AV.int x.From)]).length = 1 from rfl) (Sub.head _ _)
abbrev GGrant.w1 (x : GGrant) (y : Int) : GGrant := { x with To := y }
theorem GGrant.upd1 (x : GGrant) (y : Int) : Upd (GGrant.cs x) 1 ([(AV.int y)]) (GGrant.cs { x with To := y }) := Upd.skip (k := 1) (show ([(AV.int x.From)]).length = 1 from rfl) (Upd.head (show ([(AV.int y)]).length = ([(AV.int x.To)]).length from rfl))
theorem GGrant.sub2 (x : GGrant) : Sub (GGrant.cs x) 2 ([(AV.int x.Object)]) := Sub.skip (k := 1) (show ([(AV.int x.From)]).length = 1 from rfl) (Sub.skip (k := 1) (show ([(AV.int x.To)]).length = 1 from rfl) (Sub.head _ _))
abbrev GGrant.w2 (x : GGrant) (y : Int) : GGrant := { x with Object := y }
theorem GGrant.upd2 (x : GGrant) (y : Int) : Upd (GGrant.cs x) 2 ([(AV.int y)]) (GGrant.cs { x with Object := y }) := Upd.skip (k := 1) (show ([(AV.int x.From)]).length = 1 from rfl) (Upd.skip (k := 1) (show ([(AV.int x.To)]).length = 1 from rfl) (Upd.head (show ([(AV.int y)]).length = ([(AV.int x.Object)]).length from rfl)))
theorem GGrant.sub3 (x : GGrant) : Sub (GGrant.cs x) 3 ([(AV.int x.Right)]) := Sub.skip (k := 1) (show ([(AV.int x.From)]).length = 1 from rfl) (Sub.skip (k := 1) (show ([(AV.int x.To)]).length = 1 from rfl) (Sub.skip (k := 1) (show ([(AV.int x.Object)]).length = 1 from rfl) (Sub.head _ _)))
abbrev GGrant.w3 (x : GGrant) (y : Int) : GGrant := { x with Right := y }
theorem GGrant.upd3 (x : GGrant) (y : Int) : Upd (GGrant.cs x) 3 ([(AV.int y)]) (GGrant.cs { x with Right := y }) := Upd.skip (k := 1) (show ([(AV.int x.From)]).length = 1 from rfl) (Upd.skip (k := 1) (show ([(AV.int x.To)]).length = 1 from rfl) (Upd.skip (k := 1) (show ([(AV.int x.Object)]).length = 1 from rfl) (Upd.head (show ([(AV.int y)]).length = ([(AV.int x.Right)]).length from rfl))))
theorem GGrant.sub4 (x : GGrant) : Sub (GGrant.cs x) 4 ([(AV.bool x.Option_)]) := Sub.skip (k := 1) (show ([(AV.int x.From)]).length = 1 from rfl) (Sub.skip (k := 1) (show ([(AV.int x.To)]).length = 1 from rfl) (Sub.skip (k := 1) (show ([(AV.int x.Object)]).length = 1 from rfl) (Sub.skip (k := 1) (show ([(AV.int x.Right)]).length = 1 from rfl) (Sub.refl _))))
abbrev GGrant.w4 (x : GGrant) (y : Bool) : GGrant := { x with Option_ := y }
theorem GGrant.upd4 (x : GGrant) (y : Bool) : Upd (GGrant.cs x) 4 ([(AV.bool y)]) (GGrant.cs { x with Option_ := y }) := Upd.skip (k := 1) (show ([(AV.int x.From)]).length = 1 from rfl) (Upd.skip (k := 1) (show ([(AV.int x.To)]).length = 1 from rfl) (Upd.skip (k := 1) (show ([(AV.int x.Object)]).length = 1 from rfl) (Upd.skip (k := 1) (show ([(AV.int x.Right)]).length = 1 from rfl) (Upd.refl (show ([(AV.bool y)]).length = ([(AV.bool x.Option_)]).length from rfl)))))
theorem GGrant.nl (x : GGrant) : (GGrant.cs x).all noLst1 = true := nlA rfl (nlA rfl (nlA rfl (nlA rfl (rfl))))
structure Gright_place where
  object_ : Int
  right_ : Int
  from_ : Int
  to_ : Int
deriving DecidableEq, Inhabited
def Gright_place.zero : Gright_place := ⟨(0 : Int), (0 : Int), (0 : Int), (0 : Int)⟩
def Gright_place.cs (x : Gright_place) : List AV := ([(AV.int x.object_)]) ++ (([(AV.int x.right_)]) ++ (([(AV.int x.from_)]) ++ ([(AV.int x.to_)])))
theorem Gright_place.len (x : Gright_place) : (Gright_place.cs x).length = 4 := by
  simp only [Gright_place.cs, List.length_append]
  rw [show ([(AV.int x.object_)]).length = 1 from (show ([(AV.int x.object_)]).length = 1 from rfl), show ([(AV.int x.right_)]).length = 1 from (show ([(AV.int x.right_)]).length = 1 from rfl), show ([(AV.int x.from_)]).length = 1 from (show ([(AV.int x.from_)]).length = 1 from rfl), show ([(AV.int x.to_)]).length = 1 from (show ([(AV.int x.to_)]).length = 1 from rfl)]
theorem Gright_place.sub0 (x : Gright_place) : Sub (Gright_place.cs x) 0 ([(AV.int x.object_)]) := Sub.head _ _
abbrev Gright_place.w0 (x : Gright_place) (y : Int) : Gright_place := { x with object_ := y }
theorem Gright_place.upd0 (x : Gright_place) (y : Int) : Upd (Gright_place.cs x) 0 ([(AV.int y)]) (Gright_place.cs { x with object_ := y }) := Upd.head (show ([(AV.int y)]).length = ([(AV.int x.object_)]).length from rfl)
theorem Gright_place.sub1 (x : Gright_place) : Sub (Gright_place.cs x) 1 ([(AV.int x.right_)]) := Sub.skip (k := 1) (show ([(AV.int x.object_)]).length = 1 from rfl) (Sub.head _ _)
abbrev Gright_place.w1 (x : Gright_place) (y : Int) : Gright_place := { x with right_ := y }
theorem Gright_place.upd1 (x : Gright_place) (y : Int) : Upd (Gright_place.cs x) 1 ([(AV.int y)]) (Gright_place.cs { x with right_ := y }) := Upd.skip (k := 1) (show ([(AV.int x.object_)]).length = 1 from rfl) (Upd.head (show ([(AV.int y)]).length = ([(AV.int x.right_)]).length from rfl))
theorem Gright_place.sub2 (x : Gright_place) : Sub (Gright_place.cs x) 2 ([(AV.int x.from_)]) := Sub.skip (k := 1) (show ([(AV.int x.object_)]).length = 1 from rfl) (Sub.skip (k := 1) (show ([(AV.int x.right_)]).length = 1 from rfl) (Sub.head _ _))
abbrev Gright_place.w2 (x : Gright_place) (y : Int) : Gright_place := { x with from_ := y }
theorem Gright_place.upd2 (x : Gright_place) (y : Int) : Upd (Gright_place.cs x) 2 ([(AV.int y)]) (Gright_place.cs { x with from_ := y }) := Upd.skip (k := 1) (show ([(AV.int x.object_)]).length = 1 from rfl) (Upd.skip (k := 1) (show ([(AV.int x.right_)]).length = 1 from rfl) (Upd.head (show ([(AV.int y)]).length = ([(AV.int x.from_)]).length from rfl)))
theorem Gright_place.sub3 (x : Gright_place) : Sub (Gright_place.cs x) 3 ([(AV.int x.to_)]) := Sub.skip (k := 1) (show ([(AV.int x.object_)]).length = 1 from rfl) (Sub.skip (k := 1) (show ([(AV.int x.right_)]).length = 1 from rfl) (Sub.skip (k := 1) (show ([(AV.int x.from_)]).length = 1 from rfl) (Sub.refl _)))
abbrev Gright_place.w3 (x : Gright_place) (y : Int) : Gright_place := { x with to_ := y }
theorem Gright_place.upd3 (x : Gright_place) (y : Int) : Upd (Gright_place.cs x) 3 ([(AV.int y)]) (Gright_place.cs { x with to_ := y }) := Upd.skip (k := 1) (show ([(AV.int x.object_)]).length = 1 from rfl) (Upd.skip (k := 1) (show ([(AV.int x.right_)]).length = 1 from rfl) (Upd.skip (k := 1) (show ([(AV.int x.from_)]).length = 1 from rfl) (Upd.refl (show ([(AV.int y)]).length = ([(AV.int x.to_)]).length from rfl))))
theorem Gright_place.nl (x : Gright_place) : (Gright_place.cs x).all noLst1 = true := nlA rfl (nlA rfl (nlA rfl (rfl)))
structure GState where
  Tables : Vector (Vector GTable 2) 3
  Grants : List GGrant
  Asked : Vector Int 3
deriving DecidableEq, Inhabited
def GState.zero : GState := ⟨(Vector.replicate 3 (Vector.replicate 2 GTable.zero)), [], (Vector.replicate 3 (0 : Int))⟩
def GState.cs (x : GState) : List AV := (x.Tables.toList.flatMap (fun v : Vector GTable 2 => v.toList.flatMap GTable.cs)) ++ (([((fun q : List GGrant => AV.lst (q.flatMap GGrant.cs) q.length) x.Grants)]) ++ (x.Asked.toList.map AV.int))
theorem GState.len (x : GState) : (GState.cs x).length = 118 := by
  simp only [GState.cs, List.length_append]
  rw [show (x.Tables.toList.flatMap (fun v : Vector GTable 2 => v.toList.flatMap GTable.cs)).length = 114 from (vfm_len (fun x => (vfm_len (fun x => (GTable.len x)) x)) x.Tables), show ([((fun q : List GGrant => AV.lst (q.flatMap GGrant.cs) q.length) x.Grants)]).length = 1 from (show ([((fun q : List GGrant => AV.lst (q.flatMap GGrant.cs) q.length) x.Grants)]).length = 1 from rfl), show (x.Asked.toList.map AV.int).length = 3 from (vmap_len (f := AV.int) x.Asked)]
theorem GState.sub0 (x : GState) : Sub (GState.cs x) 0 (x.Tables.toList.flatMap (fun v : Vector GTable 2 => v.toList.flatMap GTable.cs)) := Sub.head _ _
abbrev GState.w0 (x : GState) (y : Vector (Vector GTable 2) 3) : GState := { x with Tables := y }
theorem GState.upd0 (x : GState) (y : Vector (Vector GTable 2) 3) : Upd (GState.cs x) 0 (y.toList.flatMap (fun v : Vector GTable 2 => v.toList.flatMap GTable.cs)) (GState.cs { x with Tables := y }) := Upd.head ((vfm_len (fun x => (vfm_len (fun x => (GTable.len x)) x)) y).trans (vfm_len (fun x => (vfm_len (fun x => (GTable.len x)) x)) x.Tables).symm)
theorem GState.sub1 (x : GState) : Sub (GState.cs x) 114 ([((fun q : List GGrant => AV.lst (q.flatMap GGrant.cs) q.length) x.Grants)]) := Sub.skip (k := 114) (vfm_len (fun x => (vfm_len (fun x => (GTable.len x)) x)) x.Tables) (Sub.head _ _)
abbrev GState.w1 (x : GState) (y : List GGrant) : GState := { x with Grants := y }
theorem GState.upd1 (x : GState) (y : List GGrant) : Upd (GState.cs x) 114 ([((fun q : List GGrant => AV.lst (q.flatMap GGrant.cs) q.length) y)]) (GState.cs { x with Grants := y }) := Upd.skip (k := 114) (vfm_len (fun x => (vfm_len (fun x => (GTable.len x)) x)) x.Tables) (Upd.head (show ([((fun q : List GGrant => AV.lst (q.flatMap GGrant.cs) q.length) y)]).length = ([((fun q : List GGrant => AV.lst (q.flatMap GGrant.cs) q.length) x.Grants)]).length from rfl))
theorem GState.sub2 (x : GState) : Sub (GState.cs x) 115 (x.Asked.toList.map AV.int) := Sub.skip (k := 114) (vfm_len (fun x => (vfm_len (fun x => (GTable.len x)) x)) x.Tables) (Sub.skip (k := 1) (show ([((fun q : List GGrant => AV.lst (q.flatMap GGrant.cs) q.length) x.Grants)]).length = 1 from rfl) (Sub.refl _))
abbrev GState.w2 (x : GState) (y : Vector Int 3) : GState := { x with Asked := y }
theorem GState.upd2 (x : GState) (y : Vector Int 3) : Upd (GState.cs x) 115 (y.toList.map AV.int) (GState.cs { x with Asked := y }) := Upd.skip (k := 114) (vfm_len (fun x => (vfm_len (fun x => (GTable.len x)) x)) x.Tables) (Upd.skip (k := 1) (show ([((fun q : List GGrant => AV.lst (q.flatMap GGrant.cs) q.length) x.Grants)]).length = 1 from rfl) (Upd.refl ((vmap_len (f := AV.int) y).trans (vmap_len (f := AV.int) x.Asked).symm)))
theorem in_60 : Info Tryd.prog 60 4 32 (.agg #[.int .i64 0, .int .i64 0, .int .i64 0, .int .i64 0]) := by unfold Info; kernel_rfl
theorem one_60 : (.agg #[.int .i64 0, .int .i64 0, .int .i64 0, .int .i64 0] : Value).cells.all (·.oneCell') = true := by kernel_rfl
theorem zc_60 : ((.agg #[.int .i64 0, .int .i64 0, .int .i64 0, .int .i64 0] : Value).cells.toList.map zcell) = Gright_place.cs Gright_place.zero := by rfl
theorem pl_60 : placesOf Tryd.prog 60 = some [(0, 1), (1, 1), (2, 1), (3, 1)] := by kernel_rfl
theorem in_47 : Info Tryd.prog 47 5 40 (.agg #[.int .i64 0, .int .i64 0, .int .i64 0, .int .i64 0, .bool false]) := by unfold Info; kernel_rfl
theorem one_47 : (.agg #[.int .i64 0, .int .i64 0, .int .i64 0, .int .i64 0, .bool false] : Value).cells.all (·.oneCell') = true := by kernel_rfl
theorem zc_47 : ((.agg #[.int .i64 0, .int .i64 0, .int .i64 0, .int .i64 0, .bool false] : Value).cells.toList.map zcell) = GGrant.cs GGrant.zero := by rfl
theorem pl_47 : placesOf Tryd.prog 47 = some [(0, 1), (1, 1), (2, 1), (3, 1), (4, 1)] := by kernel_rfl
theorem in_31 : Info Tryd.prog 31 114 1824 (.agg #[.bool false, .string ⟨#[]⟩, .slice none 0 0, .bool false, .slice none 0 0, .bool false, .slice none 0 0, .bool false, .slice none 0 0, .bool false, .slice none 0 0, .bool false, .slice none 0 0, .bool false, .slice none 0 0, .bool false, .slice none 0 0, .bool false, .slice none 0 0, .bool false, .string ⟨#[]⟩, .slice none 0 0, .bool false, .slice none 0 0, .bool false, .slice none 0 0, .bool false, .slice none 0 0, .bool false, .slice none 0 0, .bool false, .slice none 0 0, .bool false, .slice none 0 0, .bool false, .slice none 0 0, .bool false, .slice none 0 0, .bool false, .string ⟨#[]⟩, .slice none 0 0, .bool false, .slice none 0 0, .bool false, .slice none 0 0, .bool false, .slice none 0 0, .bool false, .slice none 0 0, .bool false, .slice none 0 0, .bool false, .slice none 0 0, .bool false, .slice none 0 0, .bool false, .slice none 0 0, .bool false, .string ⟨#[]⟩, .slice none 0 0, .bool false, .slice none 0 0, .bool false, .slice none 0 0, .bool false, .slice none 0 0, .bool false, .slice none 0 0, .bool false, .slice none 0 0, .bool false, .slice none 0 0, .bool false, .slice none 0 0, .bool false, .slice none 0 0, .bool false, .string ⟨#[]⟩, .slice none 0 0, .bool false, .slice none 0 0, .bool false, .slice none 0 0, .bool false, .slice none 0 0, .bool false, .slice none 0 0, .bool false, .slice none 0 0, .bool false, .slice none 0 0, .bool false, .slice none 0 0, .bool false, .slice none 0 0, .bool false, .string ⟨#[]⟩, .slice none 0 0, .bool false, .slice none 0 0, .bool false, .slice none 0 0, .bool false, .slice none 0 0, .bool false, .slice none 0 0, .bool false, .slice none 0 0, .bool false, .slice none 0 0, .bool false, .slice none 0 0, .bool false, .slice none 0 0]) := by unfold Info; kernel_rfl
theorem one_31 : (.agg #[.bool false, .string ⟨#[]⟩, .slice none 0 0, .bool false, .slice none 0 0, .bool false, .slice none 0 0, .bool false, .slice none 0 0, .bool false, .slice none 0 0, .bool false, .slice none 0 0, .bool false, .slice none 0 0, .bool false, .slice none 0 0, .bool false, .slice none 0 0, .bool false, .string ⟨#[]⟩, .slice none 0 0, .bool false, .slice none 0 0, .bool false, .slice none 0 0, .bool false, .slice none 0 0, .bool false, .slice none 0 0, .bool false, .slice none 0 0, .bool false, .slice none 0 0, .bool false, .slice none 0 0, .bool false, .slice none 0 0, .bool false, .string ⟨#[]⟩, .slice none 0 0, .bool false, .slice none 0 0, .bool false, .slice none 0 0, .bool false, .slice none 0 0, .bool false, .slice none 0 0, .bool false, .slice none 0 0, .bool false, .slice none 0 0, .bool false, .slice none 0 0, .bool false, .slice none 0 0, .bool false, .string ⟨#[]⟩, .slice none 0 0, .bool false, .slice none 0 0, .bool false, .slice none 0 0, .bool false, .slice none 0 0, .bool false, .slice none 0 0, .bool false, .slice none 0 0, .bool false, .slice none 0 0, .bool false, .slice none 0 0, .bool false, .slice none 0 0, .bool false, .string ⟨#[]⟩, .slice none 0 0, .bool false, .slice none 0 0, .bool false, .slice none 0 0, .bool false, .slice none 0 0, .bool false, .slice none 0 0, .bool false, .slice none 0 0, .bool false, .slice none 0 0, .bool false, .slice none 0 0, .bool false, .slice none 0 0, .bool false, .string ⟨#[]⟩, .slice none 0 0, .bool false, .slice none 0 0, .bool false, .slice none 0 0, .bool false, .slice none 0 0, .bool false, .slice none 0 0, .bool false, .slice none 0 0, .bool false, .slice none 0 0, .bool false, .slice none 0 0, .bool false, .slice none 0 0] : Value).cells.all (·.oneCell') = true := by kernel_rfl
theorem zc_31 : ((.agg #[.bool false, .string ⟨#[]⟩, .slice none 0 0, .bool false, .slice none 0 0, .bool false, .slice none 0 0, .bool false, .slice none 0 0, .bool false, .slice none 0 0, .bool false, .slice none 0 0, .bool false, .slice none 0 0, .bool false, .slice none 0 0, .bool false, .slice none 0 0, .bool false, .string ⟨#[]⟩, .slice none 0 0, .bool false, .slice none 0 0, .bool false, .slice none 0 0, .bool false, .slice none 0 0, .bool false, .slice none 0 0, .bool false, .slice none 0 0, .bool false, .slice none 0 0, .bool false, .slice none 0 0, .bool false, .slice none 0 0, .bool false, .string ⟨#[]⟩, .slice none 0 0, .bool false, .slice none 0 0, .bool false, .slice none 0 0, .bool false, .slice none 0 0, .bool false, .slice none 0 0, .bool false, .slice none 0 0, .bool false, .slice none 0 0, .bool false, .slice none 0 0, .bool false, .slice none 0 0, .bool false, .string ⟨#[]⟩, .slice none 0 0, .bool false, .slice none 0 0, .bool false, .slice none 0 0, .bool false, .slice none 0 0, .bool false, .slice none 0 0, .bool false, .slice none 0 0, .bool false, .slice none 0 0, .bool false, .slice none 0 0, .bool false, .slice none 0 0, .bool false, .string ⟨#[]⟩, .slice none 0 0, .bool false, .slice none 0 0, .bool false, .slice none 0 0, .bool false, .slice none 0 0, .bool false, .slice none 0 0, .bool false, .slice none 0 0, .bool false, .slice none 0 0, .bool false, .slice none 0 0, .bool false, .slice none 0 0, .bool false, .string ⟨#[]⟩, .slice none 0 0, .bool false, .slice none 0 0, .bool false, .slice none 0 0, .bool false, .slice none 0 0, .bool false, .slice none 0 0, .bool false, .slice none 0 0, .bool false, .slice none 0 0, .bool false, .slice none 0 0, .bool false, .slice none 0 0] : Value).cells.toList.map zcell) = ((Vector.replicate 3 (Vector.replicate 2 GTable.zero)).toList).flatMap (fun v : Vector GTable 2 => v.toList.flatMap GTable.cs) := by rfl
theorem in_30 : Info Tryd.prog 30 38 608 (.agg #[.bool false, .string ⟨#[]⟩, .slice none 0 0, .bool false, .slice none 0 0, .bool false, .slice none 0 0, .bool false, .slice none 0 0, .bool false, .slice none 0 0, .bool false, .slice none 0 0, .bool false, .slice none 0 0, .bool false, .slice none 0 0, .bool false, .slice none 0 0, .bool false, .string ⟨#[]⟩, .slice none 0 0, .bool false, .slice none 0 0, .bool false, .slice none 0 0, .bool false, .slice none 0 0, .bool false, .slice none 0 0, .bool false, .slice none 0 0, .bool false, .slice none 0 0, .bool false, .slice none 0 0, .bool false, .slice none 0 0]) := by unfold Info; kernel_rfl
theorem one_30 : (.agg #[.bool false, .string ⟨#[]⟩, .slice none 0 0, .bool false, .slice none 0 0, .bool false, .slice none 0 0, .bool false, .slice none 0 0, .bool false, .slice none 0 0, .bool false, .slice none 0 0, .bool false, .slice none 0 0, .bool false, .slice none 0 0, .bool false, .slice none 0 0, .bool false, .string ⟨#[]⟩, .slice none 0 0, .bool false, .slice none 0 0, .bool false, .slice none 0 0, .bool false, .slice none 0 0, .bool false, .slice none 0 0, .bool false, .slice none 0 0, .bool false, .slice none 0 0, .bool false, .slice none 0 0, .bool false, .slice none 0 0] : Value).cells.all (·.oneCell') = true := by kernel_rfl
theorem zc_30 : ((.agg #[.bool false, .string ⟨#[]⟩, .slice none 0 0, .bool false, .slice none 0 0, .bool false, .slice none 0 0, .bool false, .slice none 0 0, .bool false, .slice none 0 0, .bool false, .slice none 0 0, .bool false, .slice none 0 0, .bool false, .slice none 0 0, .bool false, .slice none 0 0, .bool false, .string ⟨#[]⟩, .slice none 0 0, .bool false, .slice none 0 0, .bool false, .slice none 0 0, .bool false, .slice none 0 0, .bool false, .slice none 0 0, .bool false, .slice none 0 0, .bool false, .slice none 0 0, .bool false, .slice none 0 0, .bool false, .slice none 0 0] : Value).cells.toList.map zcell) = ((Vector.replicate 2 GTable.zero).toList).flatMap GTable.cs := by rfl
theorem in_29 : Info Tryd.prog 29 19 304 (.agg #[.bool false, .string ⟨#[]⟩, .slice none 0 0, .bool false, .slice none 0 0, .bool false, .slice none 0 0, .bool false, .slice none 0 0, .bool false, .slice none 0 0, .bool false, .slice none 0 0, .bool false, .slice none 0 0, .bool false, .slice none 0 0, .bool false, .slice none 0 0]) := by unfold Info; kernel_rfl
theorem one_29 : (.agg #[.bool false, .string ⟨#[]⟩, .slice none 0 0, .bool false, .slice none 0 0, .bool false, .slice none 0 0, .bool false, .slice none 0 0, .bool false, .slice none 0 0, .bool false, .slice none 0 0, .bool false, .slice none 0 0, .bool false, .slice none 0 0, .bool false, .slice none 0 0] : Value).cells.all (·.oneCell') = true := by kernel_rfl
theorem zc_29 : ((.agg #[.bool false, .string ⟨#[]⟩, .slice none 0 0, .bool false, .slice none 0 0, .bool false, .slice none 0 0, .bool false, .slice none 0 0, .bool false, .slice none 0 0, .bool false, .slice none 0 0, .bool false, .slice none 0 0, .bool false, .slice none 0 0, .bool false, .slice none 0 0] : Value).cells.toList.map zcell) = GTable.cs GTable.zero := by rfl
theorem pl_29 : placesOf Tryd.prog 29 = some [(0, 1), (1, 1), (2, 1), (3, 16)] := by kernel_rfl
theorem in_32 : Info Tryd.prog 32 1 24 (.slice none 0 0) := by unfold Info; kernel_rfl
theorem one_32 : (.slice none 0 0 : Value).cells.all (·.oneCell') = true := by kernel_rfl
theorem zc_32 : ((.slice none 0 0 : Value).cells.toList.map zcell) = [((fun q : List GGrant => AV.lst (q.flatMap GGrant.cs) q.length) [])] := by rfl
theorem in_33 : Info Tryd.prog 33 3 24 (.agg #[.int .i64 0, .int .i64 0, .int .i64 0]) := by unfold Info; kernel_rfl
theorem one_33 : (.agg #[.int .i64 0, .int .i64 0, .int .i64 0] : Value).cells.all (·.oneCell') = true := by kernel_rfl
theorem zc_33 : ((.agg #[.int .i64 0, .int .i64 0, .int .i64 0] : Value).cells.toList.map zcell) = ((Vector.replicate 3 (0 : Int)).toList).map AV.int := by rfl

/-! deed.blank -/
noncomputable def g_deed_blank_l1 (t0 : GTable) (t9_0 : Int) : Int → Option (Int ⊕ (Bool ⊕ Unit))
  | t13_1 => (if t13_1 < (4 : Int) then if 0 ≤ t13_1 ∧ t13_1 < (4 : Int) then (if (((vrd (vrd t0.Drawers t9_0.toNat) t13_1.toNat).Full) = true) ∨ ((((vrd (vrd t0.Drawers t9_0.toNat) t13_1.toNat).Row).length : Int) > (0 : Int)) then some (.inr (.inl false)) else some (.inl (w64 (t13_1 + (1 : Int))))) else none else some (.inr (.inr ())))
noncomputable def g_deed_blank_l0 (t0 : GTable) : Int → Option (Int ⊕ (Bool ⊕ Unit))
  | t9_0 => (if t9_0 < (2 : Int) then if 0 ≤ t9_0 ∧ t9_0 < (2 : Int) then (loopO (g_deed_blank_l1 t0 t9_0) (0 : Int)).bind fun o'4 => match o'4 with | .inl y'5 => some (.inr (.inl y'5)) | .inr (y'6) => some (.inl (w64 (t9_0 + (1 : Int)))) else none else some (.inr (.inr ())))
noncomputable def g_deed_blank (t0 : GTable) : Option (Bool) :=
  (loopO (g_deed_blank_l0 t0) (0 : Int)).bind fun o'10 => match o'10 with | .inl y'11 => some y'11 | .inr (y'12) => some (decide ((((!t0.There) = true) ∧ (t0.Name = [])) ∧ ((t0.Cols.length : Int) = (0 : Int))))
set_option maxHeartbeats 4000000 in
set_option maxRecDepth 100000 in
theorem g_deed_blank_ac {t0 : GTable} {r : Bool} (H : g_deed_blank t0 = some r) : ACp Tryd.prog 10 [(.agg (GTable.cs t0))] (AV.bool r) := by
 refine ACp_of (AC2_of_body (vs := [.b r]) Tryd.func10 Y Y (Nat.le_of_ble_eq_true Y) Y ?_) (fun _ => .same _)
 unfold g_deed_blank at H
 refine as2 [(0, .g (GTable.cs t0))] [] Y Y Y ?_
 refine sg [0, 1] Y ?_
 refine r_op Y Y (MakeD.opD (n_box 1 Y Y) Y Y Y Y) ?_
 refine rp Y Y (p_asg Y Y) ?_
 refine rz [(1, .q 1 (0))] [(1, .pure (GTable.cs t0))] Y Y Y ?_
 refine AW2_seq ?_
 refine sg [0, 1, 2] Y ?_
 refine rp Y Y (u_fa Y Y Tryd.underlying29 Y in_27 nz Y Y (nl (GTable.len t0))) ?_
 refine rp Y Y (u_lda Y Y Tryd.underlying27 Y in_27 Y (Nat.succ_pos _) ((Sub.refl _).trans (GTable.sub3 t0)) (vfm_len (fun x => (vfm_len (fun x => (GCell.len x)) x)) t0.Drawers)) ?_
 refine rp Y Y (p_move Y Y) ?_
 refine rz [(1, .q 1 (0)), (8, .g (t0.Drawers.toList.flatMap (fun v : Vector GCell 4 => v.toList.flatMap GCell.cs))), (9, .i (0 : Int))] [(1, .pure (GTable.cs t0))] Y Y Y ?_
 refine AW2_block ?_
 refine as2 [(1, .q 1 (0)), (8, .g (t0.Drawers.toList.flatMap (fun v : Vector GCell 4 => v.toList.flatMap GCell.cs))), (9, .i (0 : Int))] [(1, .pure (GTable.cs t0))] Y Y Y ?_
 refine bindK H fun o'10 h8 H => ?_
 refine AW2_loopO (fun a'7 : Int => (⟨[(1, .q 1 (0)), (8, .g (t0.Drawers.toList.flatMap (fun v : Vector GCell 4 => v.toList.flatMap GCell.cs))), (9, .i a'7)], [(1, .pure (GTable.cs t0))], 40⟩ : TS)) (fun (o : Bool ⊕ Unit) e s' => match o with | .inl y'8 => e = Go.Exit.ret ∧ ResAll Tryd.prog s' [ResultVar.tmp 2] [.b y'8] ∧ HFits s' [] | .inr (y'9) => e = Go.Exit.exit 0 ∧ s' = (⟨[(1, .q 1 (0))], [(1, .pure (GTable.cs t0))], 40⟩ : TS)) h8 Y (fun t9_0 x hx => ?_) (fun e s' hs => ?_)
 ·clear H
  have H := hx
  clear hx
  unfold g_deed_blank_l0 at H
  refine sg [0] Y ?_
  refine rp Y Y (p_bin Y Y Y Y) ?_
  refine rz [(1, .q 1 (0)), (8, .g (t0.Drawers.toList.flatMap (fun v : Vector GCell 4 => v.toList.flatMap GCell.cs))), (9, .i t9_0), (10, .b (decide (t9_0 < (2 : Int))))] [(1, .pure (GTable.cs t0))] Y Y Y ?_
  refine AW2_seq ?_
  refine AW2_if (p := t9_0 < (2 : Int)) Y (fun h1 => ?_) (fun h1 => ?_)
  ·replace H := ite_then h1 H
   refine as2 [(1, .q 1 (0)), (8, .g (t0.Drawers.toList.flatMap (fun v : Vector GCell 4 => v.toList.flatMap GCell.cs))), (9, .i t9_0)] [(1, .pure (GTable.cs t0))] Y Y Y ?_
   refine AW2_skip ?_
   refine AW2_seq ?_
   refine AW2_block ?_
   refine sg [0, 1, 2] Y ?_
   refine chkK H fun h2 H => ?_
   refine rp Y Y (u_ixaa Y Y Tryd.underlying27 in_26 Tryd.underlying26 Y Y Y (ixe h2) (ixn h2) (Sub.vfm (fun x => (vfm_len (fun x => (GCell.len x)) x)) (ixn h2)) (vfm_len (fun x => (GCell.len x)) (vrd t0.Drawers t9_0.toNat))) ?_
   refine r_op Y Y (MakeD.opD (u_alloc 4 Y in_26 one_26 zc_26) Y Y Y Y) ?_
   refine r_op Y Y (u_st Y Y Y Y Y in_26 (vfm_len (fun x => (GCell.len x)) (vrd t0.Drawers t9_0.toNat)) (nl (vfm_len (fun x => (GCell.len x)) (Vector.replicate 4 GCell.zero))) (Upd.refl ((vfm_len (fun x => (GCell.len x)) (vrd t0.Drawers t9_0.toNat)).trans (vfm_len (fun x => (GCell.len x)) (Vector.replicate 4 GCell.zero)).symm))) ?_
   refine rz [(1, .q 1 (0)), (4, .q 4 (0)), (8, .g (t0.Drawers.toList.flatMap (fun v : Vector GCell 4 => v.toList.flatMap GCell.cs))), (9, .i t9_0)] [(1, .pure (GTable.cs t0)), (4, .pure (((vrd t0.Drawers t9_0.toNat).toList).flatMap GCell.cs))] Y Y Y ?_
   refine sg [0, 1] Y ?_
   refine rp Y Y (u_lda Y Y Tryd.underlying26 Y in_26 Y (Nat.succ_pos _) (Sub.refl _) (vfm_len (fun x => (GCell.len x)) (vrd t0.Drawers t9_0.toNat))) ?_
   refine rp Y Y (p_move Y Y) ?_
   refine rz [(1, .q 1 (0)), (8, .g (t0.Drawers.toList.flatMap (fun v : Vector GCell 4 => v.toList.flatMap GCell.cs))), (9, .i t9_0), (12, .g (((vrd t0.Drawers t9_0.toNat).toList).flatMap GCell.cs)), (13, .i (0 : Int))] [(1, .pure (GTable.cs t0))] Y Y Y ?_
   refine AW2_block ?_
   refine as2 [(1, .q 1 (0)), (8, .g (t0.Drawers.toList.flatMap (fun v : Vector GCell 4 => v.toList.flatMap GCell.cs))), (9, .i t9_0), (12, .g (((vrd t0.Drawers t9_0.toNat).toList).flatMap GCell.cs)), (13, .i (0 : Int))] [(1, .pure (GTable.cs t0))] Y Y Y ?_
   refine bindK H fun o'4 h7 H => ?_
   refine AW2_loopO (fun a'1 : Int => (⟨[(1, .q 1 (0)), (8, .g (t0.Drawers.toList.flatMap (fun v : Vector GCell 4 => v.toList.flatMap GCell.cs))), (9, .i t9_0), (12, .g (((vrd t0.Drawers t9_0.toNat).toList).flatMap GCell.cs)), (13, .i a'1)], [(1, .pure (GTable.cs t0))], 40⟩ : TS)) (fun (o : Bool ⊕ Unit) e s' => match o with | .inl y'2 => e = Go.Exit.ret ∧ ResAll Tryd.prog s' [ResultVar.tmp 2] [.b y'2] ∧ HFits s' [] | .inr (y'3) => e = Go.Exit.exit 2 ∧ s' = (⟨[(1, .q 1 (0)), (8, .g (t0.Drawers.toList.flatMap (fun v : Vector GCell 4 => v.toList.flatMap GCell.cs))), (9, .i t9_0)], [(1, .pure (GTable.cs t0))], 40⟩ : TS)) h7 Y (fun t13_1 x hx => ?_) (fun e s' hs => ?_)
   ·clear H
    have H := hx
    clear hx
    unfold g_deed_blank_l1 at H
    refine sg [0] Y ?_
    refine rp Y Y (p_bin Y Y Y Y) ?_
    refine rz [(1, .q 1 (0)), (8, .g (t0.Drawers.toList.flatMap (fun v : Vector GCell 4 => v.toList.flatMap GCell.cs))), (9, .i t9_0), (12, .g (((vrd t0.Drawers t9_0.toNat).toList).flatMap GCell.cs)), (13, .i t13_1), (14, .b (decide (t13_1 < (4 : Int))))] [(1, .pure (GTable.cs t0))] Y Y Y ?_
    refine AW2_seq ?_
    refine AW2_if (p := t13_1 < (4 : Int)) Y (fun h3 => ?_) (fun h3 => ?_)
    ·replace H := ite_then h3 H
     refine as2 [(1, .q 1 (0)), (8, .g (t0.Drawers.toList.flatMap (fun v : Vector GCell 4 => v.toList.flatMap GCell.cs))), (9, .i t9_0), (12, .g (((vrd t0.Drawers t9_0.toNat).toList).flatMap GCell.cs)), (13, .i t13_1)] [(1, .pure (GTable.cs t0))] Y Y Y ?_
     refine AW2_skip ?_
     refine AW2_seq ?_
     refine AW2_block ?_
     refine sg [0, 1, 2] Y ?_
     refine chkK H fun h4 H => ?_
     refine rp Y Y (u_ixaa Y Y Tryd.underlying26 in_25 Tryd.underlying25 Y Y Y (ixe h4) (ixn h4) (Sub.vfm (fun x => (GCell.len x)) (ixn h4)) (GCell.len (vrd (vrd t0.Drawers t9_0.toNat) t13_1.toNat))) ?_
     refine r_op Y Y (MakeD.opD (u_alloc 6 Y in_25 one_25 zc_25) Y Y Y Y) ?_
     refine r_op Y Y (u_st Y Y Y Y Y in_25 (GCell.len (vrd (vrd t0.Drawers t9_0.toNat) t13_1.toNat)) (nl (GCell.len GCell.zero)) (Upd.refl ((GCell.len (vrd (vrd t0.Drawers t9_0.toNat) t13_1.toNat)).trans (GCell.len GCell.zero).symm))) ?_
     refine rz [(1, .q 1 (0)), (6, .q 6 (0)), (8, .g (t0.Drawers.toList.flatMap (fun v : Vector GCell 4 => v.toList.flatMap GCell.cs))), (9, .i t9_0), (12, .g (((vrd t0.Drawers t9_0.toNat).toList).flatMap GCell.cs)), (13, .i t13_1)] [(1, .pure (GTable.cs t0)), (6, .pure (GCell.cs (vrd (vrd t0.Drawers t9_0.toNat) t13_1.toNat)))] Y Y Y ?_
     refine AW2_seq ?_
     refine AW2_mid (⟨[(1, .q 1 (0)), (8, .g (t0.Drawers.toList.flatMap (fun v : Vector GCell 4 => v.toList.flatMap GCell.cs))), (9, .i t9_0), (12, .g (((vrd t0.Drawers t9_0.toNat).toList).flatMap GCell.cs)), (13, .i t13_1), (23, .b (decide ((((vrd (vrd t0.Drawers t9_0.toNat) t13_1.toNat).Full) = true) ∨ ((((vrd (vrd t0.Drawers t9_0.toNat) t13_1.toNat).Row).length : Int) > (0 : Int)))))], [(1, .pure (GTable.cs t0))], 40⟩ : TS) ?_ ?_
     ·refine AW2_reg [0, 1, 2, 3, 4, 5, 6, 7] Y ?_
      refine rp Y Y (u_fa Y Y Tryd.underlying25 Y in_4 nz Y Y (nl (GCell.len (vrd (vrd t0.Drawers t9_0.toNat) t13_1.toNat)))) ?_
      refine rp Y Y (u_ld Y Y Tryd.underlying4 Y Y ((Sub.refl _).trans (GCell.sub0 (vrd (vrd t0.Drawers t9_0.toNat) t13_1.toNat)))) ?_
      refine rp Y Y (p_move Y Y) ?_
      refine (Classical.em (((vrd (vrd t0.Drawers t9_0.toNat) t13_1.toNat).Full) = true)).elim (fun h5 => ?_) (fun h5 => ?_)
      ·refine r_off Y Y Y Y h5 Y Y ?_
       refine r_off Y Y Y Y h5 Y Y ?_
       refine r_off Y Y Y Y h5 Y Y ?_
       refine r_off Y Y Y Y h5 Y Y ?_
       refine rp Y Y (p_pkt Y Y h5 (tb (dT (p := (((vrd (vrd t0.Drawers t9_0.toNat) t13_1.toNat).Full) = true) ∨ ((((vrd (vrd t0.Drawers t9_0.toNat) t13_1.toNat).Row).length : Int) > (0 : Int))) (Or.inl h5)).symm)) ?_
       refine rs [(1, .q 1 (0)), (8, .g (t0.Drawers.toList.flatMap (fun v : Vector GCell 4 => v.toList.flatMap GCell.cs))), (9, .i t9_0), (12, .g (((vrd t0.Drawers t9_0.toNat).toList).flatMap GCell.cs)), (13, .i t13_1), (23, .b (decide ((((vrd (vrd t0.Drawers t9_0.toNat) t13_1.toNat).Full) = true) ∨ ((((vrd (vrd t0.Drawers t9_0.toNat) t13_1.toNat).Row).length : Int) > (0 : Int)))))] [(1, .pure (GTable.cs t0))] Y Y Y ?_
       exact RunW_nil rfl
      ·refine r_on Y Y Y Y (bfalse h5) Y (PureD.opD (u_fa Y Y Tryd.underlying25 Y in_23 nz Y Y (nl (GCell.len (vrd (vrd t0.Drawers t9_0.toNat) t13_1.toNat))))) ?_
       refine r_on Y Y Y Y (bfalse h5) Y (PureD.opD (u_ld Y Y Tryd.underlying23 Y Y ((Sub.refl _).trans (GCell.sub1 (vrd (vrd t0.Drawers t9_0.toNat) t13_1.toNat))))) ?_
       refine r_on Y Y Y Y (bfalse h5) Y (PureD.opD (p_lenl Y Tryd.underlying23 Y Y)) ?_
       refine r_on Y Y Y Y (bfalse h5) Y (PureD.opD (p_bin Y Y Y Y)) ?_
       refine rp Y Y (p_pkf Y Y (bfalse h5) (tb ((or_l (p := ((vrd (vrd t0.Drawers t9_0.toNat) t13_1.toNat).Full) = true) (q := (((vrd (vrd t0.Drawers t9_0.toNat) t13_1.toNat).Row).length : Int) > (0 : Int)) h5)))) ?_
       refine rs [(1, .q 1 (0)), (8, .g (t0.Drawers.toList.flatMap (fun v : Vector GCell 4 => v.toList.flatMap GCell.cs))), (9, .i t9_0), (12, .g (((vrd t0.Drawers t9_0.toNat).toList).flatMap GCell.cs)), (13, .i t13_1), (23, .b (decide ((((vrd (vrd t0.Drawers t9_0.toNat) t13_1.toNat).Full) = true) ∨ ((((vrd (vrd t0.Drawers t9_0.toNat) t13_1.toNat).Row).length : Int) > (0 : Int)))))] [(1, .pure (GTable.cs t0))] Y Y Y ?_
       exact RunW_nil rfl
     ·refine AW2_if (p := (((vrd (vrd t0.Drawers t9_0.toNat) t13_1.toNat).Full) = true) ∨ ((((vrd (vrd t0.Drawers t9_0.toNat) t13_1.toNat).Row).length : Int) > (0 : Int))) Y (fun h6 => ?_) (fun h6 => ?_)
      ·replace H := ite_then h6 H
       refine sg [0] Y ?_
       refine rp Y Y (p_asg Y Y) ?_
       refine rz [(2, .b false)] [] Y Y Y ?_
       refine AW2_ret ?_
       have hz := some_elim H
       subst hz
       exact ⟨Y, ⟨res_tmp (.same _), trivial⟩, trivial⟩
      ·replace H := ite_else h6 H
       refine as2 [(1, .q 1 (0)), (8, .g (t0.Drawers.toList.flatMap (fun v : Vector GCell 4 => v.toList.flatMap GCell.cs))), (9, .i t9_0), (12, .g (((vrd t0.Drawers t9_0.toNat).toList).flatMap GCell.cs)), (13, .i t13_1)] [(1, .pure (GTable.cs t0))] Y Y Y ?_
       refine AW2_skip ?_
       refine AW2_reg [0, 1] Y ?_
       refine rp Y Y (p_bin Y Y Y Y) ?_
       refine rp Y Y (p_move Y Y) ?_
       refine rz [(1, .q 1 (0)), (8, .g (t0.Drawers.toList.flatMap (fun v : Vector GCell 4 => v.toList.flatMap GCell.cs))), (9, .i t9_0), (12, .g (((vrd t0.Drawers t9_0.toNat).toList).flatMap GCell.cs)), (13, .i (w64 (t13_1 + (1 : Int))))] [(1, .pure (GTable.cs t0))] Y Y Y ?_
       have hz := some_elim H
       subst hz
       exact ⟨Y, Y⟩
    ·replace H := ite_else h3 H
     refine as2 [(1, .q 1 (0)), (8, .g (t0.Drawers.toList.flatMap (fun v : Vector GCell 4 => v.toList.flatMap GCell.cs))), (9, .i t9_0)] [(1, .pure (GTable.cs t0))] Y Y Y ?_
     refine AW2_exit ?_
     refine thenQ2_exit ?_
     have hz := some_elim H
     subst hz
     exact ⟨Y, Y⟩
   ·rcases o'4 with y'5 | y'6
    ·obtain ⟨rfl, hs⟩ := hs
     refine ⟨by simp, ?_⟩
     have hz := some_elim H
     subst hz
     exact ⟨Y, hs.1, hs.2⟩
    ·obtain ⟨rfl, rfl⟩ := hs
     refine ⟨by simp, ?_⟩
     refine blockQ2_exit ?_
     refine AW2_reg [0, 1] Y ?_
     refine rp Y Y (p_bin Y Y Y Y) ?_
     refine rp Y Y (p_move Y Y) ?_
     refine rz [(1, .q 1 (0)), (8, .g (t0.Drawers.toList.flatMap (fun v : Vector GCell 4 => v.toList.flatMap GCell.cs))), (9, .i (w64 (t9_0 + (1 : Int))))] [(1, .pure (GTable.cs t0))] Y Y Y ?_
     have hz := some_elim H
     subst hz
     exact ⟨Y, Y⟩
  ·replace H := ite_else h1 H
   refine as2 [(1, .q 1 (0))] [(1, .pure (GTable.cs t0))] Y Y Y ?_
   refine AW2_exit ?_
   refine thenQ2_exit ?_
   have hz := some_elim H
   subst hz
   exact ⟨Y, Y⟩
 ·rcases o'10 with y'11 | y'12
  ·obtain ⟨rfl, hs⟩ := hs
   refine ⟨by simp, ?_⟩
   have hz := some_elim H
   subst hz
   exact ⟨hs.1, hs.2⟩
  ·obtain ⟨rfl, rfl⟩ := hs
   refine ⟨by simp, ?_⟩
   refine blockQ2_exit ?_
   refine AW2_seq ?_
   refine AW2_mid (⟨[(2, .b (decide ((((!t0.There) = true) ∧ (t0.Name = [])) ∧ ((t0.Cols.length : Int) = (0 : Int)))))], [], 40⟩ : TS) ?_ ?_
   ·refine AW2_reg [0, 1, 2, 3, 4, 5, 6, 7, 8, 9, 10, 11, 12, 13, 14] Y ?_
    refine rp Y Y (u_fa Y Y Tryd.underlying29 Y in_4 nz Y Y (nl (GTable.len t0))) ?_
    refine rp Y Y (u_ld Y Y Tryd.underlying4 Y Y ((Sub.refl _).trans (GTable.sub0 t0))) ?_
    refine rp Y Y (p_not Y Y) ?_
    refine rp Y Y (p_move Y Y) ?_
    refine (Classical.em ((!t0.There) = true)).elim (fun h9 => ?_) (fun h9 => ?_)
    ·refine rn Y Y Y Y h9 Y (u_fa Y Y Tryd.underlying29 Y in_9 nz Y Y (nl (GTable.len t0))) ?_
     refine rn Y Y Y Y h9 Y (u_ld Y Y Tryd.underlying9 Y Y ((Sub.refl _).trans (GTable.sub1 t0))) ?_
     refine rn Y Y Y Y h9 Y (p_seq Y Y Y) ?_
     refine rp Y Y (p_pkt Y Y h9 (tb ((and_l (p := (!t0.There) = true) (q := t0.Name = []) h9)))) ?_
     refine rp Y Y (p_move Y Y) ?_
     refine (Classical.em (t0.Name = [])).elim (fun h10 => ?_) (fun h10 => ?_)
     ·refine r_on Y Y Y Y (dT (p := ((!t0.There) = true) ∧ (t0.Name = [])) ⟨h9, h10⟩) Y (PureD.opD (u_fa Y Y Tryd.underlying29 Y in_22 nz Y Y (nl (GTable.len t0)))) ?_
      refine r_on Y Y Y Y (dT (p := ((!t0.There) = true) ∧ (t0.Name = [])) ⟨h9, h10⟩) Y (PureD.opD (u_ld Y Y Tryd.underlying22 Y Y ((Sub.refl _).trans (GTable.sub2 t0)))) ?_
      refine r_on Y Y Y Y (dT (p := ((!t0.There) = true) ∧ (t0.Name = [])) ⟨h9, h10⟩) Y (PureD.opD (p_lenl Y Tryd.underlying22 Y Y)) ?_
      refine r_on Y Y Y Y (dT (p := ((!t0.There) = true) ∧ (t0.Name = [])) ⟨h9, h10⟩) Y (PureD.opD (p_ieq Y Y Y)) ?_
      refine rp Y Y (p_pkt Y Y (dT (p := ((!t0.There) = true) ∧ (t0.Name = [])) ⟨h9, h10⟩) (tb ((and_l (p := ((!t0.There) = true) ∧ (t0.Name = [])) (q := (t0.Cols.length : Int) = (0 : Int)) ⟨h9, h10⟩)))) ?_
      refine rp Y Y (p_asg Y Y) ?_
      refine rs [(2, .b (decide ((((!t0.There) = true) ∧ (t0.Name = [])) ∧ ((t0.Cols.length : Int) = (0 : Int)))))] [] Y Y Y ?_
      exact RunW_nil rfl
     ·refine r_off Y Y Y Y (dF (p := ((!t0.There) = true) ∧ (t0.Name = [])) (fun h => h10 h.2)) Y Y ?_
      refine r_off Y Y Y Y (dF (p := ((!t0.There) = true) ∧ (t0.Name = [])) (fun h => h10 h.2)) Y Y ?_
      refine r_off Y Y Y Y (dF (p := ((!t0.There) = true) ∧ (t0.Name = [])) (fun h => h10 h.2)) Y Y ?_
      refine r_off Y Y Y Y (dF (p := ((!t0.There) = true) ∧ (t0.Name = [])) (fun h => h10 h.2)) Y Y ?_
      refine rp Y Y (p_pkf Y Y (dF (p := ((!t0.There) = true) ∧ (t0.Name = [])) (fun h => h10 h.2)) (tb (dF (p := (((!t0.There) = true) ∧ (t0.Name = [])) ∧ ((t0.Cols.length : Int) = (0 : Int))) (fun x => (fun h => h10 h.2) x.1)).symm)) ?_
      refine rp Y Y (p_asg Y Y) ?_
      refine rs [(2, .b (decide ((((!t0.There) = true) ∧ (t0.Name = [])) ∧ ((t0.Cols.length : Int) = (0 : Int)))))] [] Y Y Y ?_
      exact RunW_nil rfl
    ·refine r_off Y Y Y Y (bfalse h9) Y Y ?_
     refine r_off Y Y Y Y (bfalse h9) Y Y ?_
     refine r_off Y Y Y Y (bfalse h9) Y Y ?_
     refine rp Y Y (p_pkf Y Y (bfalse h9) (tb (dF (p := ((!t0.There) = true) ∧ (t0.Name = [])) (fun x => h9 x.1)).symm)) ?_
     refine rp Y Y (p_move Y Y) ?_
     refine r_off Y Y Y Y (dF (p := ((!t0.There) = true) ∧ (t0.Name = [])) (fun h => h9 h.1)) Y Y ?_
     refine r_off Y Y Y Y (dF (p := ((!t0.There) = true) ∧ (t0.Name = [])) (fun h => h9 h.1)) Y Y ?_
     refine r_off Y Y Y Y (dF (p := ((!t0.There) = true) ∧ (t0.Name = [])) (fun h => h9 h.1)) Y Y ?_
     refine r_off Y Y Y Y (dF (p := ((!t0.There) = true) ∧ (t0.Name = [])) (fun h => h9 h.1)) Y Y ?_
     refine rp Y Y (p_pkf Y Y (dF (p := ((!t0.There) = true) ∧ (t0.Name = [])) (fun h => h9 h.1)) (tb (dF (p := (((!t0.There) = true) ∧ (t0.Name = [])) ∧ ((t0.Cols.length : Int) = (0 : Int))) (fun x => (fun h => h9 h.1) x.1)).symm)) ?_
     refine rp Y Y (p_asg Y Y) ?_
     refine rs [(2, .b (decide ((((!t0.There) = true) ∧ (t0.Name = [])) ∧ ((t0.Cols.length : Int) = (0 : Int)))))] [] Y Y Y ?_
     exact RunW_nil rfl
   ·refine AW2_ret ?_
    have hz := some_elim H
    subst hz
    exact ⟨⟨res_tmp (.same _), trivial⟩, trivial⟩

/-! right.owner -/
noncomputable def g_right_owner (object0 : Int) : Option (Int) :=
  some (w64 (object0.tdiv (4 : Int)))
set_option maxHeartbeats 4000000 in
set_option maxRecDepth 100000 in
theorem g_right_owner_ac {object0 : Int} {r : Int} (H : g_right_owner object0 = some r) : ACp Tryd.prog 41 [(AV.int object0)] (AV.int r) := by
 refine ACp_of (AC2_of_body (vs := [.i r]) Tryd.func41 Y Y (Nat.le_of_ble_eq_true Y) Y ?_) (fun _ => .same _)
 unfold g_right_owner at H
 refine as2 [(0, .i object0)] [] Y Y Y ?_
 refine sg [0] Y ?_
 refine rp Y Y (p_asg Y Y) ?_
 refine rz [(0, .i object0)] [] Y Y Y ?_
 refine sg [0, 1, 2] Y ?_
 refine rp Y Y (p_move Y Y) ?_
 refine rp Y Y (p_iquo Y Y Y (by decide)) ?_
 refine rp Y Y (p_asg Y Y) ?_
 refine rz [(2, .i (w64 (object0.tdiv (4 : Int))))] [] Y Y Y ?_
 refine AW2_ret ?_
 have hz := some_elim H
 subst hz
 exact ⟨⟨res_tmp (.same _), trivial⟩, trivial⟩

/-! right.bounds -/
def g_right_bounds_r5 : List (List (Nat × Option Nat)) := [[(1, none)], [(39, some 0)], [(1, none)], [(41, some 2)], [(40, some 1), (42, some 3)], [(43, some 4)], [(1, none), (44, some 5)], [(44, some 5), (45, some 6)], [(1, none), (44, some 5)], [(44, some 5), (47, some 8)], [(44, some 5), (48, some 9)]]
def g_right_bounds_r5c : List (List Nat) := [[], [0], [], [2], [0, 1, 2, 3], [0, 1, 2, 3, 4], [0, 1, 2, 3, 4, 5], [0, 1, 2, 3, 4, 5, 6], [0, 1, 2, 3, 4, 5], [0, 1, 2, 3, 4, 5, 8], [0, 1, 2, 3, 4, 5, 8, 9], [0, 1, 2, 3, 4, 5, 6, 7, 8, 9, 10], [0, 1, 2, 3, 4, 5, 6, 7, 8, 9, 10, 11]]
noncomputable def g_right_bounds (g0 : GGrant) : Option (Int) :=
  (if (((((g0.From < (0 : Int)) ∨ (g0.From ≥ (3 : Int))) ∨ (g0.To < (0 : Int))) ∨ (g0.To ≥ (3 : Int))) ∨ (g0.Object < (0 : Int))) ∨ (g0.Object ≥ (12 : Int)) then some (6 : Int) else (if (g0.Right ≠ (1 : Int)) ∧ (g0.Right ≠ (2 : Int)) then some (2 : Int) else ((if g0.From = g0.To then some true else (g_right_owner g0.Object).bind fun r'1 => some (decide (g0.To = r'1)))).bind fun g'2 => (if g'2 = true then some (3 : Int) else some (0 : Int))))
set_option maxHeartbeats 4000000 in
set_option maxRecDepth 100000 in
theorem g_right_bounds_ac {g0 : GGrant} {r : Int} (H : g_right_bounds g0 = some r) : ACp Tryd.prog 21 [(.agg (GGrant.cs g0))] (AV.int r) := by
 refine ACp_of (AC2_of_body (vs := [.i r]) Tryd.func21 Y Y (Nat.le_of_ble_eq_true Y) Y ?_) (fun _ => .same _)
 unfold g_right_bounds at H
 refine as2 [(0, .g (GGrant.cs g0))] [] Y Y Y ?_
 refine sg [0, 1] Y ?_
 refine r_op Y Y (MakeD.opD (n_box 1 Y Y) Y Y Y Y) ?_
 refine rp Y Y (p_asg Y Y) ?_
 refine rz [(1, .q 1 (0))] [(1, .pure (GGrant.cs g0))] Y Y Y ?_
 refine AW2_seq ?_
 refine AW2_seq ?_
 refine AW2_mid (⟨[(1, .q 1 (0)), (30, .b (decide ((((((g0.From < (0 : Int)) ∨ (g0.From ≥ (3 : Int))) ∨ (g0.To < (0 : Int))) ∨ (g0.To ≥ (3 : Int))) ∨ (g0.Object < (0 : Int))) ∨ (g0.Object ≥ (12 : Int)))))], [(1, .pure (GGrant.cs g0))], 52⟩ : TS) ?_ ?_
 ·refine AW2_reg [0, 1, 2, 3, 4, 5, 6, 7, 8, 9, 10, 11, 12, 13, 14, 15, 16, 17, 18, 19, 20, 21, 22, 23, 24, 25, 26, 27] Y ?_
  refine rp Y Y (u_fa Y Y Tryd.underlying47 Y in_3 nz Y Y (nl (GGrant.len g0))) ?_
  refine rp Y Y (u_ld Y Y Tryd.underlying3 Y Y ((Sub.refl _).trans (GGrant.sub0 g0))) ?_
  refine rp Y Y (p_bin Y Y Y Y) ?_
  refine rp Y Y (p_move Y Y) ?_
  refine (Classical.em (g0.From < (0 : Int))).elim (fun h1 => ?_) (fun h1 => ?_)
  ·refine r_off Y Y Y Y (dT h1) Y Y ?_
   refine r_off Y Y Y Y (dT h1) Y Y ?_
   refine r_off Y Y Y Y (dT h1) Y Y ?_
   refine rp Y Y (p_pkt Y Y (dT h1) (tb (dT (p := (g0.From < (0 : Int)) ∨ (g0.From ≥ (3 : Int))) (Or.inl h1)).symm)) ?_
   refine rp Y Y (p_move Y Y) ?_
   refine r_off Y Y Y Y (dT (p := (g0.From < (0 : Int)) ∨ (g0.From ≥ (3 : Int))) (Or.inl h1)) Y Y ?_
   refine r_off Y Y Y Y (dT (p := (g0.From < (0 : Int)) ∨ (g0.From ≥ (3 : Int))) (Or.inl h1)) Y Y ?_
   refine r_off Y Y Y Y (dT (p := (g0.From < (0 : Int)) ∨ (g0.From ≥ (3 : Int))) (Or.inl h1)) Y Y ?_
   refine rp Y Y (p_pkt Y Y (dT (p := (g0.From < (0 : Int)) ∨ (g0.From ≥ (3 : Int))) (Or.inl h1)) (tb (dT (p := ((g0.From < (0 : Int)) ∨ (g0.From ≥ (3 : Int))) ∨ (g0.To < (0 : Int))) (Or.inl (Or.inl h1))).symm)) ?_
   refine rp Y Y (p_move Y Y) ?_
   refine r_off Y Y Y Y (dT (p := ((g0.From < (0 : Int)) ∨ (g0.From ≥ (3 : Int))) ∨ (g0.To < (0 : Int))) (Or.inl (Or.inl h1))) Y Y ?_
   refine r_off Y Y Y Y (dT (p := ((g0.From < (0 : Int)) ∨ (g0.From ≥ (3 : Int))) ∨ (g0.To < (0 : Int))) (Or.inl (Or.inl h1))) Y Y ?_
   refine r_off Y Y Y Y (dT (p := ((g0.From < (0 : Int)) ∨ (g0.From ≥ (3 : Int))) ∨ (g0.To < (0 : Int))) (Or.inl (Or.inl h1))) Y Y ?_
   refine rp Y Y (p_pkt Y Y (dT (p := ((g0.From < (0 : Int)) ∨ (g0.From ≥ (3 : Int))) ∨ (g0.To < (0 : Int))) (Or.inl (Or.inl h1))) (tb (dT (p := (((g0.From < (0 : Int)) ∨ (g0.From ≥ (3 : Int))) ∨ (g0.To < (0 : Int))) ∨ (g0.To ≥ (3 : Int))) (Or.inl (Or.inl (Or.inl h1)))).symm)) ?_
   refine rp Y Y (p_move Y Y) ?_
   refine r_off Y Y Y Y (dT (p := (((g0.From < (0 : Int)) ∨ (g0.From ≥ (3 : Int))) ∨ (g0.To < (0 : Int))) ∨ (g0.To ≥ (3 : Int))) (Or.inl (Or.inl (Or.inl h1)))) Y Y ?_
   refine r_off Y Y Y Y (dT (p := (((g0.From < (0 : Int)) ∨ (g0.From ≥ (3 : Int))) ∨ (g0.To < (0 : Int))) ∨ (g0.To ≥ (3 : Int))) (Or.inl (Or.inl (Or.inl h1)))) Y Y ?_
   refine r_off Y Y Y Y (dT (p := (((g0.From < (0 : Int)) ∨ (g0.From ≥ (3 : Int))) ∨ (g0.To < (0 : Int))) ∨ (g0.To ≥ (3 : Int))) (Or.inl (Or.inl (Or.inl h1)))) Y Y ?_
   refine rp Y Y (p_pkt Y Y (dT (p := (((g0.From < (0 : Int)) ∨ (g0.From ≥ (3 : Int))) ∨ (g0.To < (0 : Int))) ∨ (g0.To ≥ (3 : Int))) (Or.inl (Or.inl (Or.inl h1)))) (tb (dT (p := ((((g0.From < (0 : Int)) ∨ (g0.From ≥ (3 : Int))) ∨ (g0.To < (0 : Int))) ∨ (g0.To ≥ (3 : Int))) ∨ (g0.Object < (0 : Int))) (Or.inl (Or.inl (Or.inl (Or.inl h1))))).symm)) ?_
   refine rp Y Y (p_move Y Y) ?_
   refine r_off Y Y Y Y (dT (p := ((((g0.From < (0 : Int)) ∨ (g0.From ≥ (3 : Int))) ∨ (g0.To < (0 : Int))) ∨ (g0.To ≥ (3 : Int))) ∨ (g0.Object < (0 : Int))) (Or.inl (Or.inl (Or.inl (Or.inl h1))))) Y Y ?_
   refine r_off Y Y Y Y (dT (p := ((((g0.From < (0 : Int)) ∨ (g0.From ≥ (3 : Int))) ∨ (g0.To < (0 : Int))) ∨ (g0.To ≥ (3 : Int))) ∨ (g0.Object < (0 : Int))) (Or.inl (Or.inl (Or.inl (Or.inl h1))))) Y Y ?_
   refine r_off Y Y Y Y (dT (p := ((((g0.From < (0 : Int)) ∨ (g0.From ≥ (3 : Int))) ∨ (g0.To < (0 : Int))) ∨ (g0.To ≥ (3 : Int))) ∨ (g0.Object < (0 : Int))) (Or.inl (Or.inl (Or.inl (Or.inl h1))))) Y Y ?_
   refine rp Y Y (p_pkt Y Y (dT (p := ((((g0.From < (0 : Int)) ∨ (g0.From ≥ (3 : Int))) ∨ (g0.To < (0 : Int))) ∨ (g0.To ≥ (3 : Int))) ∨ (g0.Object < (0 : Int))) (Or.inl (Or.inl (Or.inl (Or.inl h1))))) (tb (dT (p := (((((g0.From < (0 : Int)) ∨ (g0.From ≥ (3 : Int))) ∨ (g0.To < (0 : Int))) ∨ (g0.To ≥ (3 : Int))) ∨ (g0.Object < (0 : Int))) ∨ (g0.Object ≥ (12 : Int))) (Or.inl (Or.inl (Or.inl (Or.inl (Or.inl h1)))))).symm)) ?_
   refine rs [(1, .q 1 (0)), (30, .b (decide ((((((g0.From < (0 : Int)) ∨ (g0.From ≥ (3 : Int))) ∨ (g0.To < (0 : Int))) ∨ (g0.To ≥ (3 : Int))) ∨ (g0.Object < (0 : Int))) ∨ (g0.Object ≥ (12 : Int)))))] [(1, .pure (GGrant.cs g0))] Y Y Y ?_
   exact RunW_nil rfl
  ·refine r_on Y Y Y Y (dF h1) Y (PureD.opD (u_fa Y Y Tryd.underlying47 Y in_3 nz Y Y (nl (GGrant.len g0)))) ?_
   refine r_on Y Y Y Y (dF h1) Y (PureD.opD (u_ld Y Y Tryd.underlying3 Y Y ((Sub.refl _).trans (GGrant.sub0 g0)))) ?_
   refine r_on Y Y Y Y (dF h1) Y (PureD.opD (p_bin Y Y Y Y)) ?_
   refine rp Y Y (p_pkf Y Y (dF h1) (tb ((or_l (p := g0.From < (0 : Int)) (q := g0.From ≥ (3 : Int)) h1)))) ?_
   refine rp Y Y (p_move Y Y) ?_
   refine (Classical.em (g0.From ≥ (3 : Int))).elim (fun h2 => ?_) (fun h2 => ?_)
   ·refine r_off Y Y Y Y (dT (p := (g0.From < (0 : Int)) ∨ (g0.From ≥ (3 : Int))) (Or.inr h2)) Y Y ?_
    refine r_off Y Y Y Y (dT (p := (g0.From < (0 : Int)) ∨ (g0.From ≥ (3 : Int))) (Or.inr h2)) Y Y ?_
    refine r_off Y Y Y Y (dT (p := (g0.From < (0 : Int)) ∨ (g0.From ≥ (3 : Int))) (Or.inr h2)) Y Y ?_
    refine rp Y Y (p_pkt Y Y (dT (p := (g0.From < (0 : Int)) ∨ (g0.From ≥ (3 : Int))) (Or.inr h2)) (tb (dT (p := ((g0.From < (0 : Int)) ∨ (g0.From ≥ (3 : Int))) ∨ (g0.To < (0 : Int))) (Or.inl (Or.inr h2))).symm)) ?_
    refine rp Y Y (p_move Y Y) ?_
    refine r_off Y Y Y Y (dT (p := ((g0.From < (0 : Int)) ∨ (g0.From ≥ (3 : Int))) ∨ (g0.To < (0 : Int))) (Or.inl (Or.inr h2))) Y Y ?_
    refine r_off Y Y Y Y (dT (p := ((g0.From < (0 : Int)) ∨ (g0.From ≥ (3 : Int))) ∨ (g0.To < (0 : Int))) (Or.inl (Or.inr h2))) Y Y ?_
    refine r_off Y Y Y Y (dT (p := ((g0.From < (0 : Int)) ∨ (g0.From ≥ (3 : Int))) ∨ (g0.To < (0 : Int))) (Or.inl (Or.inr h2))) Y Y ?_
    refine rp Y Y (p_pkt Y Y (dT (p := ((g0.From < (0 : Int)) ∨ (g0.From ≥ (3 : Int))) ∨ (g0.To < (0 : Int))) (Or.inl (Or.inr h2))) (tb (dT (p := (((g0.From < (0 : Int)) ∨ (g0.From ≥ (3 : Int))) ∨ (g0.To < (0 : Int))) ∨ (g0.To ≥ (3 : Int))) (Or.inl (Or.inl (Or.inr h2)))).symm)) ?_
    refine rp Y Y (p_move Y Y) ?_
    refine r_off Y Y Y Y (dT (p := (((g0.From < (0 : Int)) ∨ (g0.From ≥ (3 : Int))) ∨ (g0.To < (0 : Int))) ∨ (g0.To ≥ (3 : Int))) (Or.inl (Or.inl (Or.inr h2)))) Y Y ?_
    refine r_off Y Y Y Y (dT (p := (((g0.From < (0 : Int)) ∨ (g0.From ≥ (3 : Int))) ∨ (g0.To < (0 : Int))) ∨ (g0.To ≥ (3 : Int))) (Or.inl (Or.inl (Or.inr h2)))) Y Y ?_
    refine r_off Y Y Y Y (dT (p := (((g0.From < (0 : Int)) ∨ (g0.From ≥ (3 : Int))) ∨ (g0.To < (0 : Int))) ∨ (g0.To ≥ (3 : Int))) (Or.inl (Or.inl (Or.inr h2)))) Y Y ?_
    refine rp Y Y (p_pkt Y Y (dT (p := (((g0.From < (0 : Int)) ∨ (g0.From ≥ (3 : Int))) ∨ (g0.To < (0 : Int))) ∨ (g0.To ≥ (3 : Int))) (Or.inl (Or.inl (Or.inr h2)))) (tb (dT (p := ((((g0.From < (0 : Int)) ∨ (g0.From ≥ (3 : Int))) ∨ (g0.To < (0 : Int))) ∨ (g0.To ≥ (3 : Int))) ∨ (g0.Object < (0 : Int))) (Or.inl (Or.inl (Or.inl (Or.inr h2))))).symm)) ?_
    refine rp Y Y (p_move Y Y) ?_
    refine r_off Y Y Y Y (dT (p := ((((g0.From < (0 : Int)) ∨ (g0.From ≥ (3 : Int))) ∨ (g0.To < (0 : Int))) ∨ (g0.To ≥ (3 : Int))) ∨ (g0.Object < (0 : Int))) (Or.inl (Or.inl (Or.inl (Or.inr h2))))) Y Y ?_
    refine r_off Y Y Y Y (dT (p := ((((g0.From < (0 : Int)) ∨ (g0.From ≥ (3 : Int))) ∨ (g0.To < (0 : Int))) ∨ (g0.To ≥ (3 : Int))) ∨ (g0.Object < (0 : Int))) (Or.inl (Or.inl (Or.inl (Or.inr h2))))) Y Y ?_
    refine r_off Y Y Y Y (dT (p := ((((g0.From < (0 : Int)) ∨ (g0.From ≥ (3 : Int))) ∨ (g0.To < (0 : Int))) ∨ (g0.To ≥ (3 : Int))) ∨ (g0.Object < (0 : Int))) (Or.inl (Or.inl (Or.inl (Or.inr h2))))) Y Y ?_
    refine rp Y Y (p_pkt Y Y (dT (p := ((((g0.From < (0 : Int)) ∨ (g0.From ≥ (3 : Int))) ∨ (g0.To < (0 : Int))) ∨ (g0.To ≥ (3 : Int))) ∨ (g0.Object < (0 : Int))) (Or.inl (Or.inl (Or.inl (Or.inr h2))))) (tb (dT (p := (((((g0.From < (0 : Int)) ∨ (g0.From ≥ (3 : Int))) ∨ (g0.To < (0 : Int))) ∨ (g0.To ≥ (3 : Int))) ∨ (g0.Object < (0 : Int))) ∨ (g0.Object ≥ (12 : Int))) (Or.inl (Or.inl (Or.inl (Or.inl (Or.inr h2)))))).symm)) ?_
    refine rs [(1, .q 1 (0)), (30, .b (decide ((((((g0.From < (0 : Int)) ∨ (g0.From ≥ (3 : Int))) ∨ (g0.To < (0 : Int))) ∨ (g0.To ≥ (3 : Int))) ∨ (g0.Object < (0 : Int))) ∨ (g0.Object ≥ (12 : Int)))))] [(1, .pure (GGrant.cs g0))] Y Y Y ?_
    exact RunW_nil rfl
   ·refine r_on Y Y Y Y (dF (p := (g0.From < (0 : Int)) ∨ (g0.From ≥ (3 : Int))) (not_or.2 ⟨h1, h2⟩)) Y (PureD.opD (u_fa Y Y Tryd.underlying47 Y in_3 nz Y Y (nl (GGrant.len g0)))) ?_
    refine r_on Y Y Y Y (dF (p := (g0.From < (0 : Int)) ∨ (g0.From ≥ (3 : Int))) (not_or.2 ⟨h1, h2⟩)) Y (PureD.opD (u_ld Y Y Tryd.underlying3 Y Y ((Sub.refl _).trans (GGrant.sub1 g0)))) ?_
    refine r_on Y Y Y Y (dF (p := (g0.From < (0 : Int)) ∨ (g0.From ≥ (3 : Int))) (not_or.2 ⟨h1, h2⟩)) Y (PureD.opD (p_bin Y Y Y Y)) ?_
    refine rp Y Y (p_pkf Y Y (dF (p := (g0.From < (0 : Int)) ∨ (g0.From ≥ (3 : Int))) (not_or.2 ⟨h1, h2⟩)) (tb ((or_l (p := (g0.From < (0 : Int)) ∨ (g0.From ≥ (3 : Int))) (q := g0.To < (0 : Int)) (not_or.2 ⟨h1, h2⟩))))) ?_
    refine rp Y Y (p_move Y Y) ?_
    refine (Classical.em (g0.To < (0 : Int))).elim (fun h3 => ?_) (fun h3 => ?_)
    ·refine r_off Y Y Y Y (dT (p := ((g0.From < (0 : Int)) ∨ (g0.From ≥ (3 : Int))) ∨ (g0.To < (0 : Int))) (Or.inr h3)) Y Y ?_
     refine r_off Y Y Y Y (dT (p := ((g0.From < (0 : Int)) ∨ (g0.From ≥ (3 : Int))) ∨ (g0.To < (0 : Int))) (Or.inr h3)) Y Y ?_
     refine r_off Y Y Y Y (dT (p := ((g0.From < (0 : Int)) ∨ (g0.From ≥ (3 : Int))) ∨ (g0.To < (0 : Int))) (Or.inr h3)) Y Y ?_
     refine rp Y Y (p_pkt Y Y (dT (p := ((g0.From < (0 : Int)) ∨ (g0.From ≥ (3 : Int))) ∨ (g0.To < (0 : Int))) (Or.inr h3)) (tb (dT (p := (((g0.From < (0 : Int)) ∨ (g0.From ≥ (3 : Int))) ∨ (g0.To < (0 : Int))) ∨ (g0.To ≥ (3 : Int))) (Or.inl (Or.inr h3))).symm)) ?_
     refine rp Y Y (p_move Y Y) ?_
     refine r_off Y Y Y Y (dT (p := (((g0.From < (0 : Int)) ∨ (g0.From ≥ (3 : Int))) ∨ (g0.To < (0 : Int))) ∨ (g0.To ≥ (3 : Int))) (Or.inl (Or.inr h3))) Y Y ?_
     refine r_off Y Y Y Y (dT (p := (((g0.From < (0 : Int)) ∨ (g0.From ≥ (3 : Int))) ∨ (g0.To < (0 : Int))) ∨ (g0.To ≥ (3 : Int))) (Or.inl (Or.inr h3))) Y Y ?_
     refine r_off Y Y Y Y (dT (p := (((g0.From < (0 : Int)) ∨ (g0.From ≥ (3 : Int))) ∨ (g0.To < (0 : Int))) ∨ (g0.To ≥ (3 : Int))) (Or.inl (Or.inr h3))) Y Y ?_
     refine rp Y Y (p_pkt Y Y (dT (p := (((g0.From < (0 : Int)) ∨ (g0.From ≥ (3 : Int))) ∨ (g0.To < (0 : Int))) ∨ (g0.To ≥ (3 : Int))) (Or.inl (Or.inr h3))) (tb (dT (p := ((((g0.From < (0 : Int)) ∨ (g0.From ≥ (3 : Int))) ∨ (g0.To < (0 : Int))) ∨ (g0.To ≥ (3 : Int))) ∨ (g0.Object < (0 : Int))) (Or.inl (Or.inl (Or.inr h3)))).symm)) ?_
     refine rp Y Y (p_move Y Y) ?_
     refine r_off Y Y Y Y (dT (p := ((((g0.From < (0 : Int)) ∨ (g0.From ≥ (3 : Int))) ∨ (g0.To < (0 : Int))) ∨ (g0.To ≥ (3 : Int))) ∨ (g0.Object < (0 : Int))) (Or.inl (Or.inl (Or.inr h3)))) Y Y ?_
     refine r_off Y Y Y Y (dT (p := ((((g0.From < (0 : Int)) ∨ (g0.From ≥ (3 : Int))) ∨ (g0.To < (0 : Int))) ∨ (g0.To ≥ (3 : Int))) ∨ (g0.Object < (0 : Int))) (Or.inl (Or.inl (Or.inr h3)))) Y Y ?_
     refine r_off Y Y Y Y (dT (p := ((((g0.From < (0 : Int)) ∨ (g0.From ≥ (3 : Int))) ∨ (g0.To < (0 : Int))) ∨ (g0.To ≥ (3 : Int))) ∨ (g0.Object < (0 : Int))) (Or.inl (Or.inl (Or.inr h3)))) Y Y ?_
     refine rp Y Y (p_pkt Y Y (dT (p := ((((g0.From < (0 : Int)) ∨ (g0.From ≥ (3 : Int))) ∨ (g0.To < (0 : Int))) ∨ (g0.To ≥ (3 : Int))) ∨ (g0.Object < (0 : Int))) (Or.inl (Or.inl (Or.inr h3)))) (tb (dT (p := (((((g0.From < (0 : Int)) ∨ (g0.From ≥ (3 : Int))) ∨ (g0.To < (0 : Int))) ∨ (g0.To ≥ (3 : Int))) ∨ (g0.Object < (0 : Int))) ∨ (g0.Object ≥ (12 : Int))) (Or.inl (Or.inl (Or.inl (Or.inr h3))))).symm)) ?_
     refine rs [(1, .q 1 (0)), (30, .b (decide ((((((g0.From < (0 : Int)) ∨ (g0.From ≥ (3 : Int))) ∨ (g0.To < (0 : Int))) ∨ (g0.To ≥ (3 : Int))) ∨ (g0.Object < (0 : Int))) ∨ (g0.Object ≥ (12 : Int)))))] [(1, .pure (GGrant.cs g0))] Y Y Y ?_
     exact RunW_nil rfl
    ·refine r_on Y Y Y Y (dF (p := ((g0.From < (0 : Int)) ∨ (g0.From ≥ (3 : Int))) ∨ (g0.To < (0 : Int))) (not_or.2 ⟨(not_or.2 ⟨h1, h2⟩), h3⟩)) Y (PureD.opD (u_fa Y Y Tryd.underlying47 Y in_3 nz Y Y (nl (GGrant.len g0)))) ?_
     refine r_on Y Y Y Y (dF (p := ((g0.From < (0 : Int)) ∨ (g0.From ≥ (3 : Int))) ∨ (g0.To < (0 : Int))) (not_or.2 ⟨(not_or.2 ⟨h1, h2⟩), h3⟩)) Y (PureD.opD (u_ld Y Y Tryd.underlying3 Y Y ((Sub.refl _).trans (GGrant.sub1 g0)))) ?_
     refine r_on Y Y Y Y (dF (p := ((g0.From < (0 : Int)) ∨ (g0.From ≥ (3 : Int))) ∨ (g0.To < (0 : Int))) (not_or.2 ⟨(not_or.2 ⟨h1, h2⟩), h3⟩)) Y (PureD.opD (p_bin Y Y Y Y)) ?_
     refine rp Y Y (p_pkf Y Y (dF (p := ((g0.From < (0 : Int)) ∨ (g0.From ≥ (3 : Int))) ∨ (g0.To < (0 : Int))) (not_or.2 ⟨(not_or.2 ⟨h1, h2⟩), h3⟩)) (tb ((or_l (p := ((g0.From < (0 : Int)) ∨ (g0.From ≥ (3 : Int))) ∨ (g0.To < (0 : Int))) (q := g0.To ≥ (3 : Int)) (not_or.2 ⟨(not_or.2 ⟨h1, h2⟩), h3⟩))))) ?_
     refine rp Y Y (p_move Y Y) ?_
     refine (Classical.em (g0.To ≥ (3 : Int))).elim (fun h4 => ?_) (fun h4 => ?_)
     ·refine r_off Y Y Y Y (dT (p := (((g0.From < (0 : Int)) ∨ (g0.From ≥ (3 : Int))) ∨ (g0.To < (0 : Int))) ∨ (g0.To ≥ (3 : Int))) (Or.inr h4)) Y Y ?_
      refine r_off Y Y Y Y (dT (p := (((g0.From < (0 : Int)) ∨ (g0.From ≥ (3 : Int))) ∨ (g0.To < (0 : Int))) ∨ (g0.To ≥ (3 : Int))) (Or.inr h4)) Y Y ?_
      refine r_off Y Y Y Y (dT (p := (((g0.From < (0 : Int)) ∨ (g0.From ≥ (3 : Int))) ∨ (g0.To < (0 : Int))) ∨ (g0.To ≥ (3 : Int))) (Or.inr h4)) Y Y ?_
      refine rp Y Y (p_pkt Y Y (dT (p := (((g0.From < (0 : Int)) ∨ (g0.From ≥ (3 : Int))) ∨ (g0.To < (0 : Int))) ∨ (g0.To ≥ (3 : Int))) (Or.inr h4)) (tb (dT (p := ((((g0.From < (0 : Int)) ∨ (g0.From ≥ (3 : Int))) ∨ (g0.To < (0 : Int))) ∨ (g0.To ≥ (3 : Int))) ∨ (g0.Object < (0 : Int))) (Or.inl (Or.inr h4))).symm)) ?_
      refine rp Y Y (p_move Y Y) ?_
      refine r_off Y Y Y Y (dT (p := ((((g0.From < (0 : Int)) ∨ (g0.From ≥ (3 : Int))) ∨ (g0.To < (0 : Int))) ∨ (g0.To ≥ (3 : Int))) ∨ (g0.Object < (0 : Int))) (Or.inl (Or.inr h4))) Y Y ?_
      refine r_off Y Y Y Y (dT (p := ((((g0.From < (0 : Int)) ∨ (g0.From ≥ (3 : Int))) ∨ (g0.To < (0 : Int))) ∨ (g0.To ≥ (3 : Int))) ∨ (g0.Object < (0 : Int))) (Or.inl (Or.inr h4))) Y Y ?_
      refine r_off Y Y Y Y (dT (p := ((((g0.From < (0 : Int)) ∨ (g0.From ≥ (3 : Int))) ∨ (g0.To < (0 : Int))) ∨ (g0.To ≥ (3 : Int))) ∨ (g0.Object < (0 : Int))) (Or.inl (Or.inr h4))) Y Y ?_
      refine rp Y Y (p_pkt Y Y (dT (p := ((((g0.From < (0 : Int)) ∨ (g0.From ≥ (3 : Int))) ∨ (g0.To < (0 : Int))) ∨ (g0.To ≥ (3 : Int))) ∨ (g0.Object < (0 : Int))) (Or.inl (Or.inr h4))) (tb (dT (p := (((((g0.From < (0 : Int)) ∨ (g0.From ≥ (3 : Int))) ∨ (g0.To < (0 : Int))) ∨ (g0.To ≥ (3 : Int))) ∨ (g0.Object < (0 : Int))) ∨ (g0.Object ≥ (12 : Int))) (Or.inl (Or.inl (Or.inr h4)))).symm)) ?_
      refine rs [(1, .q 1 (0)), (30, .b (decide ((((((g0.From < (0 : Int)) ∨ (g0.From ≥ (3 : Int))) ∨ (g0.To < (0 : Int))) ∨ (g0.To ≥ (3 : Int))) ∨ (g0.Object < (0 : Int))) ∨ (g0.Object ≥ (12 : Int)))))] [(1, .pure (GGrant.cs g0))] Y Y Y ?_
      exact RunW_nil rfl
     ·refine r_on Y Y Y Y (dF (p := (((g0.From < (0 : Int)) ∨ (g0.From ≥ (3 : Int))) ∨ (g0.To < (0 : Int))) ∨ (g0.To ≥ (3 : Int))) (not_or.2 ⟨(not_or.2 ⟨(not_or.2 ⟨h1, h2⟩), h3⟩), h4⟩)) Y (PureD.opD (u_fa Y Y Tryd.underlying47 Y in_3 nz Y Y (nl (GGrant.len g0)))) ?_
      refine r_on Y Y Y Y (dF (p := (((g0.From < (0 : Int)) ∨ (g0.From ≥ (3 : Int))) ∨ (g0.To < (0 : Int))) ∨ (g0.To ≥ (3 : Int))) (not_or.2 ⟨(not_or.2 ⟨(not_or.2 ⟨h1, h2⟩), h3⟩), h4⟩)) Y (PureD.opD (u_ld Y Y Tryd.underlying3 Y Y ((Sub.refl _).trans (GGrant.sub2 g0)))) ?_
      refine r_on Y Y Y Y (dF (p := (((g0.From < (0 : Int)) ∨ (g0.From ≥ (3 : Int))) ∨ (g0.To < (0 : Int))) ∨ (g0.To ≥ (3 : Int))) (not_or.2 ⟨(not_or.2 ⟨(not_or.2 ⟨h1, h2⟩), h3⟩), h4⟩)) Y (PureD.opD (p_bin Y Y Y Y)) ?_
      refine rp Y Y (p_pkf Y Y (dF (p := (((g0.From < (0 : Int)) ∨ (g0.From ≥ (3 : Int))) ∨ (g0.To < (0 : Int))) ∨ (g0.To ≥ (3 : Int))) (not_or.2 ⟨(not_or.2 ⟨(not_or.2 ⟨h1, h2⟩), h3⟩), h4⟩)) (tb ((or_l (p := (((g0.From < (0 : Int)) ∨ (g0.From ≥ (3 : Int))) ∨ (g0.To < (0 : Int))) ∨ (g0.To ≥ (3 : Int))) (q := g0.Object < (0 : Int)) (not_or.2 ⟨(not_or.2 ⟨(not_or.2 ⟨h1, h2⟩), h3⟩), h4⟩))))) ?_
      refine rp Y Y (p_move Y Y) ?_
      refine (Classical.em (g0.Object < (0 : Int))).elim (fun h5 => ?_) (fun h5 => ?_)
      ·refine r_off Y Y Y Y (dT (p := ((((g0.From < (0 : Int)) ∨ (g0.From ≥ (3 : Int))) ∨ (g0.To < (0 : Int))) ∨ (g0.To ≥ (3 : Int))) ∨ (g0.Object < (0 : Int))) (Or.inr h5)) Y Y ?_
       refine r_off Y Y Y Y (dT (p := ((((g0.From < (0 : Int)) ∨ (g0.From ≥ (3 : Int))) ∨ (g0.To < (0 : Int))) ∨ (g0.To ≥ (3 : Int))) ∨ (g0.Object < (0 : Int))) (Or.inr h5)) Y Y ?_
       refine r_off Y Y Y Y (dT (p := ((((g0.From < (0 : Int)) ∨ (g0.From ≥ (3 : Int))) ∨ (g0.To < (0 : Int))) ∨ (g0.To ≥ (3 : Int))) ∨ (g0.Object < (0 : Int))) (Or.inr h5)) Y Y ?_
       refine rp Y Y (p_pkt Y Y (dT (p := ((((g0.From < (0 : Int)) ∨ (g0.From ≥ (3 : Int))) ∨ (g0.To < (0 : Int))) ∨ (g0.To ≥ (3 : Int))) ∨ (g0.Object < (0 : Int))) (Or.inr h5)) (tb (dT (p := (((((g0.From < (0 : Int)) ∨ (g0.From ≥ (3 : Int))) ∨ (g0.To < (0 : Int))) ∨ (g0.To ≥ (3 : Int))) ∨ (g0.Object < (0 : Int))) ∨ (g0.Object ≥ (12 : Int))) (Or.inl (Or.inr h5))).symm)) ?_
       refine rs [(1, .q 1 (0)), (30, .b (decide ((((((g0.From < (0 : Int)) ∨ (g0.From ≥ (3 : Int))) ∨ (g0.To < (0 : Int))) ∨ (g0.To ≥ (3 : Int))) ∨ (g0.Object < (0 : Int))) ∨ (g0.Object ≥ (12 : Int)))))] [(1, .pure (GGrant.cs g0))] Y Y Y ?_
       exact RunW_nil rfl
      ·refine r_on Y Y Y Y (dF (p := ((((g0.From < (0 : Int)) ∨ (g0.From ≥ (3 : Int))) ∨ (g0.To < (0 : Int))) ∨ (g0.To ≥ (3 : Int))) ∨ (g0.Object < (0 : Int))) (not_or.2 ⟨(not_or.2 ⟨(not_or.2 ⟨(not_or.2 ⟨h1, h2⟩), h3⟩), h4⟩), h5⟩)) Y (PureD.opD (u_fa Y Y Tryd.underlying47 Y in_3 nz Y Y (nl (GGrant.len g0)))) ?_
       refine r_on Y Y Y Y (dF (p := ((((g0.From < (0 : Int)) ∨ (g0.From ≥ (3 : Int))) ∨ (g0.To < (0 : Int))) ∨ (g0.To ≥ (3 : Int))) ∨ (g0.Object < (0 : Int))) (not_or.2 ⟨(not_or.2 ⟨(not_or.2 ⟨(not_or.2 ⟨h1, h2⟩), h3⟩), h4⟩), h5⟩)) Y (PureD.opD (u_ld Y Y Tryd.underlying3 Y Y ((Sub.refl _).trans (GGrant.sub2 g0)))) ?_
       refine r_on Y Y Y Y (dF (p := ((((g0.From < (0 : Int)) ∨ (g0.From ≥ (3 : Int))) ∨ (g0.To < (0 : Int))) ∨ (g0.To ≥ (3 : Int))) ∨ (g0.Object < (0 : Int))) (not_or.2 ⟨(not_or.2 ⟨(not_or.2 ⟨(not_or.2 ⟨h1, h2⟩), h3⟩), h4⟩), h5⟩)) Y (PureD.opD (p_bin Y Y Y Y)) ?_
       refine rp Y Y (p_pkf Y Y (dF (p := ((((g0.From < (0 : Int)) ∨ (g0.From ≥ (3 : Int))) ∨ (g0.To < (0 : Int))) ∨ (g0.To ≥ (3 : Int))) ∨ (g0.Object < (0 : Int))) (not_or.2 ⟨(not_or.2 ⟨(not_or.2 ⟨(not_or.2 ⟨h1, h2⟩), h3⟩), h4⟩), h5⟩)) (tb ((or_l (p := ((((g0.From < (0 : Int)) ∨ (g0.From ≥ (3 : Int))) ∨ (g0.To < (0 : Int))) ∨ (g0.To ≥ (3 : Int))) ∨ (g0.Object < (0 : Int))) (q := g0.Object ≥ (12 : Int)) (not_or.2 ⟨(not_or.2 ⟨(not_or.2 ⟨(not_or.2 ⟨h1, h2⟩), h3⟩), h4⟩), h5⟩))))) ?_
       refine rs [(1, .q 1 (0)), (30, .b (decide ((((((g0.From < (0 : Int)) ∨ (g0.From ≥ (3 : Int))) ∨ (g0.To < (0 : Int))) ∨ (g0.To ≥ (3 : Int))) ∨ (g0.Object < (0 : Int))) ∨ (g0.Object ≥ (12 : Int)))))] [(1, .pure (GGrant.cs g0))] Y Y Y ?_
       exact RunW_nil rfl
 ·refine AW2_if (p := (((((g0.From < (0 : Int)) ∨ (g0.From ≥ (3 : Int))) ∨ (g0.To < (0 : Int))) ∨ (g0.To ≥ (3 : Int))) ∨ (g0.Object < (0 : Int))) ∨ (g0.Object ≥ (12 : Int))) Y (fun h6 => ?_) (fun h6 => ?_)
  ·replace H := ite_then h6 H
   refine sg [0] Y ?_
   refine rp Y Y (p_asg Y Y) ?_
   refine rz [(2, .i (6 : Int))] [] Y Y Y ?_
   refine AW2_ret ?_
   have hz := some_elim H
   subst hz
   exact ⟨⟨res_tmp (.same _), trivial⟩, trivial⟩
  ·replace H := ite_else h6 H
   refine as2 [(1, .q 1 (0))] [(1, .pure (GGrant.cs g0))] Y Y Y ?_
   refine AW2_skip ?_
   refine AW2_seq ?_
   refine AW2_seq ?_
   refine AW2_mid (⟨[(1, .q 1 (0)), (38, .b (decide ((g0.Right ≠ (1 : Int)) ∧ (g0.Right ≠ (2 : Int)))))], [(1, .pure (GGrant.cs g0))], 52⟩ : TS) ?_ ?_
   ·refine AW2_reg [0, 1, 2, 3, 4, 5, 6, 7] Y ?_
    refine rp Y Y (u_fa Y Y Tryd.underlying47 Y in_3 nz Y Y (nl (GGrant.len g0))) ?_
    refine rp Y Y (u_ld Y Y Tryd.underlying3 Y Y ((Sub.refl _).trans (GGrant.sub3 g0))) ?_
    refine rp Y Y (p_ine Y Y Y) ?_
    refine rp Y Y (p_move Y Y) ?_
    refine (Classical.em (g0.Right ≠ (1 : Int))).elim (fun h7 => ?_) (fun h7 => ?_)
    ·refine r_on Y Y Y Y (dT h7) Y (PureD.opD (u_fa Y Y Tryd.underlying47 Y in_3 nz Y Y (nl (GGrant.len g0)))) ?_
     refine r_on Y Y Y Y (dT h7) Y (PureD.opD (u_ld Y Y Tryd.underlying3 Y Y ((Sub.refl _).trans (GGrant.sub3 g0)))) ?_
     refine r_on Y Y Y Y (dT h7) Y (PureD.opD (p_ine Y Y Y)) ?_
     refine rp Y Y (p_pkt Y Y (dT h7) (tb ((and_l (p := g0.Right ≠ (1 : Int)) (q := g0.Right ≠ (2 : Int)) h7)))) ?_
     refine rs [(1, .q 1 (0)), (38, .b (decide ((g0.Right ≠ (1 : Int)) ∧ (g0.Right ≠ (2 : Int)))))] [(1, .pure (GGrant.cs g0))] Y Y Y ?_
     exact RunW_nil rfl
    ·refine r_off Y Y Y Y (dF h7) Y Y ?_
     refine r_off Y Y Y Y (dF h7) Y Y ?_
     refine r_off Y Y Y Y (dF h7) Y Y ?_
     refine rp Y Y (p_pkf Y Y (dF h7) (tb (dF (p := (g0.Right ≠ (1 : Int)) ∧ (g0.Right ≠ (2 : Int))) (fun x => h7 x.1)).symm)) ?_
     refine rs [(1, .q 1 (0)), (38, .b (decide ((g0.Right ≠ (1 : Int)) ∧ (g0.Right ≠ (2 : Int)))))] [(1, .pure (GGrant.cs g0))] Y Y Y ?_
     exact RunW_nil rfl
   ·refine AW2_if (p := (g0.Right ≠ (1 : Int)) ∧ (g0.Right ≠ (2 : Int))) Y (fun h8 => ?_) (fun h8 => ?_)
    ·replace H := ite_then h8 H
     refine sg [0] Y ?_
     refine rp Y Y (p_asg Y Y) ?_
     refine rz [(2, .i (2 : Int))] [] Y Y Y ?_
     refine AW2_ret ?_
     have hz := some_elim H
     subst hz
     exact ⟨⟨res_tmp (.same _), trivial⟩, trivial⟩
    ·replace H := ite_else h8 H
     refine as2 [(1, .q 1 (0))] [(1, .pure (GGrant.cs g0))] Y Y Y ?_
     refine AW2_skip ?_
     refine AW2_seq ?_
     refine AW2_seq ?_
     refine bindK H fun g'2 h11 H => ?_
     refine AW2_mid (⟨[(51, .b g'2)], [], 52⟩ : TS) ?_ ?_
     ·clear H
      have H := h11
      clear h11
      refine (Classical.em (g0.From = g0.To)).elim (fun h9 => ?_) (fun h9 => ?_)
      ·replace H := ite_then h9 H
       have hz := some_elim H
       subst hz
       refine AW2_ghoQ ?_
       refine AW2_draw 11 [11, 12] (fun k => ([.q 1 (0 + 0), .i g0.From, .q 1 (0 + 1), .i g0.To, .b (decide (g0.From = g0.To)), .b (decide (g0.From = g0.To)), .p (.tup []), .p (.tup []), .p (.tup []), .p (.tup []), .p (.tup [])] : List TV).getD k TV.any) (fun k => g_right_bounds_r5.getD k []) [(44, some 5), (46, some 7), (49, some 10)] [] (fun k => g_right_bounds_r5c.getD k []) mixed (by kernel_rfl) Y Y (a_op (g_x Y (x_p Y (u_fa Y Y Tryd.underlying47 Y in_3 nz Y Y (nl (GGrant.len g0))) Y)) (a_op (g_x Y (x_p Y (u_ld Y Y Tryd.underlying3 Y Y ((Sub.refl _).trans (GGrant.sub0 g0))) Y)) (a_op (g_x Y (x_p Y (u_fa Y Y Tryd.underlying47 Y in_3 nz Y Y (nl (GGrant.len g0))) Y)) (a_op (g_x Y (x_p Y (u_ld Y Y Tryd.underlying3 Y Y ((Sub.refl _).trans (GGrant.sub1 g0))) Y)) (a_op (g_x Y (x_p Y (p_ieq Y Y Y) Y)) (a_op (g_x Y (x_p Y (p_move Y Y) Y)) (a_op (g_off Y Y Y Y Y (dT h9) Y Y) (a_op (g_off Y Y Y Y Y (dT h9) Y Y) (a_op (g_off Y Y Y Y Y (dT h9) Y Y) (a_op (g_off Y Y Y Y Y (dT h9) Y Y) (a_op (g_off Y Y Y Y Y (dT h9) Y Y) (a_nil)))))))))))) ?_
       refine t_off Y Y Y Y (dT h9) Y Y ?_
       refine t_op Y Y (PureD.opD (p_pkt Y Y (dT h9) (.same _))) ?_
       refine t_gho (Gho_st (L := [(51, .b true)]) (H := []) (N := 52) Y ⟨TLes.same _, trivial⟩ trivial) ?_
       exact rfl
      ·replace H := ite_else h9 H
       refine bindK H fun r'1 h10 H => ?_
       have hz := some_elim H
       subst hz
       refine AW2_ghoQ ?_
       refine AW2_draw 11 [11, 12] (fun k => ([.q 1 (0 + 0), .i g0.From, .q 1 (0 + 1), .i g0.To, .b (decide (g0.From = g0.To)), .b (decide (g0.From = g0.To)), .q 1 (0 + 1), .i g0.To, .q 1 (0 + 2), .i g0.Object, .i r'1] : List TV).getD k TV.any) (fun k => g_right_bounds_r5.getD k []) [(44, some 5), (46, some 7), (49, some 10)] [] (fun k => g_right_bounds_r5c.getD k []) mixed (by kernel_rfl) Y Y (a_op (g_x Y (x_p Y (u_fa Y Y Tryd.underlying47 Y in_3 nz Y Y (nl (GGrant.len g0))) Y)) (a_op (g_x Y (x_p Y (u_ld Y Y Tryd.underlying3 Y Y ((Sub.refl _).trans (GGrant.sub0 g0))) Y)) (a_op (g_x Y (x_p Y (u_fa Y Y Tryd.underlying47 Y in_3 nz Y Y (nl (GGrant.len g0))) Y)) (a_op (g_x Y (x_p Y (u_ld Y Y Tryd.underlying3 Y Y ((Sub.refl _).trans (GGrant.sub1 g0))) Y)) (a_op (g_x Y (x_p Y (p_ieq Y Y Y) Y)) (a_op (g_x Y (x_p Y (p_move Y Y) Y)) (a_op (g_on Y Y Y (dF h9) Y (x_p Y (u_fa Y Y Tryd.underlying47 Y in_3 nz Y Y (nl (GGrant.len g0))) Y)) (a_op (g_on Y Y Y (dF h9) Y (x_p Y (u_ld Y Y Tryd.underlying3 Y Y ((Sub.refl _).trans (GGrant.sub1 g0))) Y)) (a_op (g_on Y Y Y (dF h9) Y (x_p Y (u_fa Y Y Tryd.underlying47 Y in_3 nz Y Y (nl (GGrant.len g0))) Y)) (a_op (g_on Y Y Y (dF h9) Y (x_p Y (u_ld Y Y Tryd.underlying3 Y Y ((Sub.refl _).trans (GGrant.sub2 g0))) Y)) (a_op (g_on Y Y Y (dF h9) Y (x_p Y (p_callp Y Y Y Tryd.func41 Y Y (g_right_owner_ac h10) ⟨Y, trivial⟩) Y)) (a_nil)))))))))))) ?_
       refine t_on Y Y Y Y (dF h9) Y (PureD.opD (p_ieq Y Y Y)) ?_
       refine t_op Y Y (PureD.opD (p_pkf Y Y (dF h9) (.same _))) ?_
       refine t_gho (Gho_st (L := [(51, .b (decide (g0.To = r'1)))]) (H := []) (N := 52) Y ⟨TLes.same _, trivial⟩ trivial) ?_
       exact rfl
     ·refine AW2_cond Y (fun h12 => ?_) (fun h12 => ?_)
      ·replace H := ite_then h12 H
       refine sg [0] Y ?_
       refine rp Y Y (p_asg Y Y) ?_
       refine rz [(2, .i (3 : Int))] [] Y Y Y ?_
       refine AW2_ret ?_
       have hz := some_elim H
       subst hz
       exact ⟨⟨res_tmp (.same _), trivial⟩, trivial⟩
      ·replace H := ite_else (ne_true h12) H
       refine as2 [] [] Y Y Y ?_
       refine AW2_skip ?_
       refine sg [0] Y ?_
       refine rp Y Y (p_asg Y Y) ?_
       refine rz [(2, .i (0 : Int))] [] Y Y Y ?_
       refine AW2_ret ?_
       have hz := some_elim H
       subst hz
       exact ⟨⟨res_tmp (.same _), trivial⟩, trivial⟩

/-! right.placed -/
noncomputable def g_right_placed (g0 : GGrant) : Option (Gright_place) :=
  letO ({ { { { Gright_place.zero with object_ := g0.Object } with right_ := g0.Right } with from_ := g0.From } with to_ := g0.To }) fun t2'1 => some t2'1
set_option maxHeartbeats 4000000 in
set_option maxRecDepth 100000 in
theorem g_right_placed_ac {g0 : GGrant} {r : Gright_place} (H : g_right_placed g0 = some r) : ACp Tryd.prog 22 [(.agg (GGrant.cs g0))] (.agg (Gright_place.cs r)) := by
 refine ACp_of (AC2_of_body (vs := [.g (Gright_place.cs r)]) Tryd.func22 Y Y (Nat.le_of_ble_eq_true Y) Y ?_) (fun _ => .same _)
 unfold g_right_placed at H
 refine as2 [(0, .g (GGrant.cs g0))] [] Y Y Y ?_
 refine sg [0, 1] Y ?_
 refine r_op Y Y (MakeD.opD (n_box 1 Y Y) Y Y Y Y) ?_
 refine r_op Y Y (MakeD.opD (u_alloc 2 Y in_60 one_60 zc_60) Y Y Y Y) ?_
 refine rz [(1, .q 1 (0)), (2, .q 2 (0))] [(1, .pure (GGrant.cs g0)), (2, .pure (Gright_place.cs Gright_place.zero))] Y Y Y ?_
 refine sg [0, 1, 2, 3, 4, 5, 6, 7, 8, 9] Y ?_
 refine rp Y Y (u_fa Y Y Tryd.underlying47 Y in_3 nz Y Y (nl (GGrant.len g0))) ?_
 refine rp Y Y (u_ld Y Y Tryd.underlying3 Y Y ((Sub.refl _).trans (GGrant.sub2 g0))) ?_
 refine rp Y Y (u_fa Y Y Tryd.underlying47 Y in_3 nz Y Y (nl (GGrant.len g0))) ?_
 refine rp Y Y (u_ld Y Y Tryd.underlying3 Y Y ((Sub.refl _).trans (GGrant.sub3 g0))) ?_
 refine rp Y Y (u_fa Y Y Tryd.underlying47 Y in_3 nz Y Y (nl (GGrant.len g0))) ?_
 refine rp Y Y (u_ld Y Y Tryd.underlying3 Y Y ((Sub.refl _).trans (GGrant.sub0 g0))) ?_
 refine rp Y Y (u_fa Y Y Tryd.underlying47 Y in_3 nz Y Y (nl (GGrant.len g0))) ?_
 refine rp Y Y (u_ld Y Y Tryd.underlying3 Y Y ((Sub.refl _).trans (GGrant.sub1 g0))) ?_
 refine rp Y Y (u_bld Y in_60 one_60 zc_60 pl_60 Y (af_cons Y Y (Gright_place.upd0 Gright_place.zero g0.Object) (af_cons Y Y (Gright_place.upd1 ((Gright_place.w0 Gright_place.zero g0.Object)) g0.Right) (af_cons Y Y (Gright_place.upd2 ((Gright_place.w1 (Gright_place.w0 Gright_place.zero g0.Object) g0.Right)) g0.From) (af_cons Y Y (Gright_place.upd3 ((Gright_place.w2 (Gright_place.w1 (Gright_place.w0 Gright_place.zero g0.Object) g0.Right) g0.From)) g0.To) Y))))) ?_
 refine r_op Y Y (u_st Y Y Y Y Y in_60 (Gright_place.len ((Gright_place.w3 (Gright_place.w2 (Gright_place.w1 (Gright_place.w0 Gright_place.zero g0.Object) g0.Right) g0.From) g0.To))) (nl (Gright_place.len Gright_place.zero)) (Upd.refl ((Gright_place.len ((Gright_place.w3 (Gright_place.w2 (Gright_place.w1 (Gright_place.w0 Gright_place.zero g0.Object) g0.Right) g0.From) g0.To))).trans (Gright_place.len Gright_place.zero).symm))) ?_
 refine rz [(2, .q 2 (0))] [(2, .pure (Gright_place.cs ((Gright_place.w3 (Gright_place.w2 (Gright_place.w1 (Gright_place.w0 Gright_place.zero g0.Object) g0.Right) g0.From) g0.To))))] Y Y Y ?_
 refine gen1 (fun t2'1 => (⟨[(2, .q 2 (0))], [(2, .pure (Gright_place.cs t2'1))], 12⟩ : TS)) H ?_
 intro t2'1 H
 refine AW2_ret ?_
 have hz := some_elim H
 subst hz
 exact ⟨⟨res_cella Tryd.underlying60 Y in_60.sz Y (Sub.le (Sub.refl _) (Gright_place.len t2'1)) (by decide) (Sub.take (Sub.refl _) (Gright_place.len t2'1)), trivial⟩, trivial⟩

/-! right.place).before -/
noncomputable def g_right_place_before (p0 : Gright_place) (q1 : Gright_place) : Option (Bool) :=
  (if p0.object_ ≠ q1.object_ then some (decide (p0.object_ < q1.object_)) else (if p0.right_ ≠ q1.right_ then some (decide (p0.right_ < q1.right_)) else (if p0.from_ ≠ q1.from_ then some (decide (p0.from_ < q1.from_)) else some (decide (p0.to_ < q1.to_)))))
set_option maxHeartbeats 4000000 in
set_option maxRecDepth 100000 in
theorem g_right_place_before_ac {p0 : Gright_place} {q1 : Gright_place} {r : Bool} (H : g_right_place_before p0 q1 = some r) : ACp Tryd.prog 23 [(.agg (Gright_place.cs p0)), (.agg (Gright_place.cs q1))] (AV.bool r) := by
 refine ACp_of (AC2_of_body (vs := [.b r]) Tryd.func23 Y Y (Nat.le_of_ble_eq_true Y) Y ?_) (fun _ => .same _)
 unfold g_right_place_before at H
 refine as2 [(0, .g (Gright_place.cs p0)), (1, .g (Gright_place.cs q1))] [] Y Y Y ?_
 refine sg [0, 1, 2] Y ?_
 refine r_op Y Y (MakeD.opD (n_box 2 Y Y) Y Y Y Y) ?_
 refine r_op Y Y (MakeD.opD (n_box 3 Y Y) Y Y Y Y) ?_
 refine rp Y Y (p_asg Y Y) ?_
 refine rz [(2, .q 2 (0)), (3, .q 3 (0))] [(2, .pure (Gright_place.cs p0)), (3, .pure (Gright_place.cs q1))] Y Y Y ?_
 refine AW2_seq ?_
 refine AW2_block ?_
 refine sg [0, 1, 2, 3, 4, 5] Y ?_
 refine rp Y Y (u_fa Y Y Tryd.underlying60 Y in_3 nz Y Y (nl (Gright_place.len p0))) ?_
 refine rp Y Y (u_ld Y Y Tryd.underlying3 Y Y ((Sub.refl _).trans (Gright_place.sub0 p0))) ?_
 refine rp Y Y (u_fa Y Y Tryd.underlying60 Y in_3 nz Y Y (nl (Gright_place.len q1))) ?_
 refine rp Y Y (u_ld Y Y Tryd.underlying3 Y Y ((Sub.refl _).trans (Gright_place.sub0 q1))) ?_
 refine rp Y Y (p_ine Y Y Y) ?_
 refine rp Y Y (p_asg Y Y) ?_
 refine rz [(2, .q 2 (0)), (3, .q 3 (0)), (5, .b (decide (p0.object_ ≠ q1.object_)))] [(2, .pure (Gright_place.cs p0)), (3, .pure (Gright_place.cs q1))] Y Y Y ?_
 refine AW2_if (p := p0.object_ ≠ q1.object_) Y (fun h1 => ?_) (fun h1 => ?_)
 ·replace H := ite_then h1 H
  refine sg [0, 1, 2, 3, 4, 5] Y ?_
  refine rp Y Y (u_fa Y Y Tryd.underlying60 Y in_3 nz Y Y (nl (Gright_place.len p0))) ?_
  refine rp Y Y (u_ld Y Y Tryd.underlying3 Y Y ((Sub.refl _).trans (Gright_place.sub0 p0))) ?_
  refine rp Y Y (u_fa Y Y Tryd.underlying60 Y in_3 nz Y Y (nl (Gright_place.len q1))) ?_
  refine rp Y Y (u_ld Y Y Tryd.underlying3 Y Y ((Sub.refl _).trans (Gright_place.sub0 q1))) ?_
  refine rp Y Y (p_bin Y Y Y Y) ?_
  refine rp Y Y (p_asg Y Y) ?_
  refine rz [(4, .b (decide (p0.object_ < q1.object_)))] [] Y Y Y ?_
  refine AW2_ret ?_
  have hz := some_elim H
  subst hz
  exact ⟨⟨res_tmp (.same _), trivial⟩, trivial⟩
 ·replace H := ite_else h1 H
  refine sg [0, 1, 2, 3, 4, 5] Y ?_
  refine rp Y Y (u_fa Y Y Tryd.underlying60 Y in_3 nz Y Y (nl (Gright_place.len p0))) ?_
  refine rp Y Y (u_ld Y Y Tryd.underlying3 Y Y ((Sub.refl _).trans (Gright_place.sub1 p0))) ?_
  refine rp Y Y (u_fa Y Y Tryd.underlying60 Y in_3 nz Y Y (nl (Gright_place.len q1))) ?_
  refine rp Y Y (u_ld Y Y Tryd.underlying3 Y Y ((Sub.refl _).trans (Gright_place.sub1 q1))) ?_
  refine rp Y Y (p_ine Y Y Y) ?_
  refine rp Y Y (p_asg Y Y) ?_
  refine rz [(2, .q 2 (0)), (3, .q 3 (0)), (16, .b (decide (p0.right_ ≠ q1.right_)))] [(2, .pure (Gright_place.cs p0)), (3, .pure (Gright_place.cs q1))] Y Y Y ?_
  refine AW2_if (p := p0.right_ ≠ q1.right_) Y (fun h2 => ?_) (fun h2 => ?_)
  ·replace H := ite_then h2 H
   refine sg [0, 1, 2, 3, 4, 5] Y ?_
   refine rp Y Y (u_fa Y Y Tryd.underlying60 Y in_3 nz Y Y (nl (Gright_place.len p0))) ?_
   refine rp Y Y (u_ld Y Y Tryd.underlying3 Y Y ((Sub.refl _).trans (Gright_place.sub1 p0))) ?_
   refine rp Y Y (u_fa Y Y Tryd.underlying60 Y in_3 nz Y Y (nl (Gright_place.len q1))) ?_
   refine rp Y Y (u_ld Y Y Tryd.underlying3 Y Y ((Sub.refl _).trans (Gright_place.sub1 q1))) ?_
   refine rp Y Y (p_bin Y Y Y Y) ?_
   refine rp Y Y (p_asg Y Y) ?_
   refine rz [(4, .b (decide (p0.right_ < q1.right_)))] [] Y Y Y ?_
   refine AW2_ret ?_
   have hz := some_elim H
   subst hz
   exact ⟨⟨res_tmp (.same _), trivial⟩, trivial⟩
  ·replace H := ite_else h2 H
   refine sg [0, 1, 2, 3, 4, 5] Y ?_
   refine rp Y Y (u_fa Y Y Tryd.underlying60 Y in_3 nz Y Y (nl (Gright_place.len p0))) ?_
   refine rp Y Y (u_ld Y Y Tryd.underlying3 Y Y ((Sub.refl _).trans (Gright_place.sub2 p0))) ?_
   refine rp Y Y (u_fa Y Y Tryd.underlying60 Y in_3 nz Y Y (nl (Gright_place.len q1))) ?_
   refine rp Y Y (u_ld Y Y Tryd.underlying3 Y Y ((Sub.refl _).trans (Gright_place.sub2 q1))) ?_
   refine rp Y Y (p_ine Y Y Y) ?_
   refine rp Y Y (p_asg Y Y) ?_
   refine rz [(2, .q 2 (0)), (3, .q 3 (0)), (27, .b (decide (p0.from_ ≠ q1.from_)))] [(2, .pure (Gright_place.cs p0)), (3, .pure (Gright_place.cs q1))] Y Y Y ?_
   refine AW2_if (p := p0.from_ ≠ q1.from_) Y (fun h3 => ?_) (fun h3 => ?_)
   ·replace H := ite_then h3 H
    refine sg [0, 1, 2, 3, 4, 5] Y ?_
    refine rp Y Y (u_fa Y Y Tryd.underlying60 Y in_3 nz Y Y (nl (Gright_place.len p0))) ?_
    refine rp Y Y (u_ld Y Y Tryd.underlying3 Y Y ((Sub.refl _).trans (Gright_place.sub2 p0))) ?_
    refine rp Y Y (u_fa Y Y Tryd.underlying60 Y in_3 nz Y Y (nl (Gright_place.len q1))) ?_
    refine rp Y Y (u_ld Y Y Tryd.underlying3 Y Y ((Sub.refl _).trans (Gright_place.sub2 q1))) ?_
    refine rp Y Y (p_bin Y Y Y Y) ?_
    refine rp Y Y (p_asg Y Y) ?_
    refine rz [(4, .b (decide (p0.from_ < q1.from_)))] [] Y Y Y ?_
    refine AW2_ret ?_
    have hz := some_elim H
    subst hz
    exact ⟨⟨res_tmp (.same _), trivial⟩, trivial⟩
   ·replace H := ite_else h3 H
    refine as2 [(2, .q 2 (0)), (3, .q 3 (0))] [(2, .pure (Gright_place.cs p0)), (3, .pure (Gright_place.cs q1))] Y Y Y ?_
    refine AW2_skip ?_
    refine sg [0, 1, 2, 3, 4, 5] Y ?_
    refine rp Y Y (u_fa Y Y Tryd.underlying60 Y in_3 nz Y Y (nl (Gright_place.len p0))) ?_
    refine rp Y Y (u_ld Y Y Tryd.underlying3 Y Y ((Sub.refl _).trans (Gright_place.sub3 p0))) ?_
    refine rp Y Y (u_fa Y Y Tryd.underlying60 Y in_3 nz Y Y (nl (Gright_place.len q1))) ?_
    refine rp Y Y (u_ld Y Y Tryd.underlying3 Y Y ((Sub.refl _).trans (Gright_place.sub3 q1))) ?_
    refine rp Y Y (p_bin Y Y Y Y) ?_
    refine rp Y Y (p_asg Y Y) ?_
    refine rz [(4, .b (decide (p0.to_ < q1.to_)))] [] Y Y Y ?_
    refine AW2_ret ?_
    have hz := some_elim H
    subst hz
    exact ⟨⟨res_tmp (.same _), trivial⟩, trivial⟩

/-! right.held -/
def g_right_held_r6 : List (List (Nat × Option Nat)) := [[(5, none)], [(26, some 0)], [(5, none)], [(28, some 2)], [(29, some 3)]]
def g_right_held_r6c : List (List Nat) := [[], [0], [], [2], [2, 3], [0, 1, 2, 3, 4]]
noncomputable def g_right_held_l2 (l0 : List GGrant) (good3_0 : List Int) (t16_1 : Int) : Int → Option (Int ⊕ (((List Int)) ⊕ Unit))
  | t37_2 => (if t37_2 < (l0.length : Int) then if 0 ≤ t37_2 ∧ t37_2 < (l0.length : Int) then if 0 ≤ t37_2 ∧ t37_2 < (good3_0.length : Int) then letO (decide ((((((lrd good3_0 t37_2.toNat) = (1 : Int)) ∧ (((lrd l0 t37_2.toNat).Option_) = true)) ∧ ((lrd l0 t37_2.toNat).To = (lrd l0 t16_1.toNat).From)) ∧ ((lrd l0 t37_2.toNat).Object = (lrd l0 t16_1.toNat).Object)) ∧ ((lrd l0 t37_2.toNat).Right = (lrd l0 t16_1.toNat).Right))) fun t71'4 => (if t71'4 = true then if 0 ≤ t16_1 ∧ t16_1 < (good3_0.length : Int) then some (.inr (.inl (good3_0.set t16_1.toNat (1 : Int)))) else none else some (.inl (w64 (t37_2 + (1 : Int))))) else none else none else some (.inr (.inr ())))
noncomputable def g_right_held_l1 (l0 : List GGrant) (good3_0 : List Int) : Int → Option (Int ⊕ (((List Int)) ⊕ Unit))
  | t16_1 => (if t16_1 < (l0.length : Int) then (show Option ((((List Int))) ⊕ Unit) from if 0 ≤ t16_1 ∧ t16_1 < (l0.length : Int) then if 0 ≤ t16_1 ∧ t16_1 < (good3_0.length : Int) then (if (lrd good3_0 t16_1.toNat) = (1 : Int) then some (.inr ()) else (g_right_owner ((lrd l0 t16_1.toNat).Object)).bind fun r'3 => (if (lrd l0 t16_1.toNat).From = r'3 then if 0 ≤ t16_1 ∧ t16_1 < (good3_0.length : Int) then some (.inl (good3_0.set t16_1.toNat (1 : Int))) else none else (loopO (g_right_held_l2 l0 good3_0 t16_1) (0 : Int)).bind fun o'8 => match o'8 with | .inl y'9 => some (.inl y'9) | .inr (y'10) => some (.inr ()))) else none else none).bind fun o'12 => match o'12 with | .inl y'11 => some (.inr (.inl y'11)) | .inr j'1 => some (.inl (w64 (t16_1 + (1 : Int)))) else some (.inr (.inr ())))
noncomputable def g_right_held_l3 (l0 : List GGrant) (good3_0 : List Int) : Int × (List GGrant) → Option ((Int × (List GGrant)) ⊕ (((List GGrant))))
  | (t79_3, out8_3) => (if t79_3 < (l0.length : Int) then (if 0 ≤ t79_3 ∧ t79_3 < (l0.length : Int) then if 0 ≤ t79_3 ∧ t79_3 < (good3_0.length : Int) then (if (lrd good3_0 t79_3.toNat) = (1 : Int) then if room (out8_3.length + ([(lrd l0 t79_3.toNat)] : List GGrant).length) 40 then some (out8_3 ++ ([(lrd l0 t79_3.toNat)] : List GGrant)) else none else some out8_3) else none else none).bind fun j'20 => some (.inl (w64 (t79_3 + (1 : Int)), j'20)) else some (.inr out8_3))
noncomputable def g_right_held_l0 (l0 : List GGrant) : (List Int) → Option (((List Int)) ⊕ (((List GGrant))))
  | good3_0 => (loopO (g_right_held_l1 l0 good3_0) (0 : Int)).bind fun o'17 => match o'17 with | .inl y'18 => some (.inl y'18) | .inr (y'19) => (loopO (g_right_held_l3 l0 good3_0) ((0 : Int), ([] : List GGrant))).bind fun y'24 => some (.inr y'24)
noncomputable def g_right_held (l0 : List GGrant) : Option ((List GGrant)) :=
  if 0 ≤ (l0.length : Int) then if 8 * (l0.length : Int).toNat ≤ 281474976710656 then (loopO (g_right_held_l0 l0) (List.replicate ((l0.length : Int).toNat) (0 : Int))).bind fun y'28 => some y'28 else none else none
set_option maxHeartbeats 4000000 in
set_option maxRecDepth 100000 in
theorem g_right_held_ac2 {l0 : List GGrant} {r : (List GGrant)} (H : g_right_held l0 = some r) : AC2 Tryd.prog 24 (pureT [((fun q : List GGrant => AV.lst (q.flatMap GGrant.cs) q.length) l0)]) [] (.c (.own 2 r.length 5)) [(2, .pure (r.flatMap GGrant.cs))] := by
 refine AC2_of_body (vs := [.c (.own 2 r.length 5)]) Tryd.func24 Y Y (Nat.le_of_ble_eq_true Y) Y ?_
 unfold g_right_held at H
 refine as2 [(0, .p ((fun q : List GGrant => AV.lst (q.flatMap GGrant.cs) q.length) l0))] [] Y Y Y ?_
 refine sg [0] Y ?_
 refine rp Y Y (p_asgn Y) ?_
 refine rz [(0, .p ((fun q : List GGrant => AV.lst (q.flatMap GGrant.cs) q.length) l0))] [] Y Y Y ?_
 refine AW2_scope Y ?_
 refine AW2_reg [0, 1, 2, 3] Y ?_
 refine rp Y Y (p_move Y Y) ?_
 refine rp Y Y (p_lenl Y Tryd.underlying32 Y Y) ?_
 refine chkK H fun h1 H => ?_
 refine chkK H fun h2 H => ?_
 refine r_op Y Y (MakeD.opD (u_make 13 Y Y Y (Int.toNat_of_nonneg h1).symm Tryd.underlying74 in_3 Y one_3 h2 (by omega) zc_3 (az_map _ _ _) (List.length_replicate (n := (l0.length : Int).toNat) (a := (0 : Int))).symm) Y Y Y Y) ?_
 refine rp Y Y (p_asg Y Y) ?_
 refine rs [(0, .p ((fun q : List GGrant => AV.lst (q.flatMap GGrant.cs) q.length) l0)), (3, .c (.own 13 (List.replicate ((l0.length : Int).toNat) (0 : Int)).length 1))] [(13, .pure ((List.replicate ((l0.length : Int).toNat) (0 : Int)).map AV.int))] Y Y Y ?_
 refine RunW_gho (Gho_ren 13 3 Y Y Y Y Y) ?_
 refine rz [(0, .p ((fun q : List GGrant => AV.lst (q.flatMap GGrant.cs) q.length) l0)), (3, .c (.own 3 (List.replicate ((l0.length : Int).toNat) (0 : Int)).length 1))] [(3, .pure ((List.replicate ((l0.length : Int).toNat) (0 : Int)).map AV.int))] Y Y Y ?_
 refine is2 [(0, .p ((fun q : List GGrant => AV.lst (q.flatMap GGrant.cs) q.length) l0)), (3, .c (.own 3 (List.replicate ((l0.length : Int).toNat) (0 : Int)).length 1))] [(3, .pure ((List.replicate ((l0.length : Int).toNat) (0 : Int)).map AV.int))] Y Y Y ?_
 refine bindK H fun y'28 h29 H => ?_
 refine inScope_loopO (fun a'25 : (List Int) => (⟨[(0, .p ((fun q : List GGrant => AV.lst (q.flatMap GGrant.cs) q.length) l0)), (3, .c (.own 3 a'25.length 1))], [(3, .pure (a'25.map AV.int))], 95⟩ : TS)) (fun (y'26 : ((List GGrant))) e s' => e = Go.Exit.ret ∧ ResAll Tryd.prog s' [ResultVar.tmp 2] [.c (.own 2 y'26.length 5)] ∧ HFits s' [(2, .pure (y'26.flatMap GGrant.cs))]) h29 Y (fun good3_0 x hx => ?_) (fun e s' hs => ?_)
 ·clear H
  have H := hx
  clear hx
  unfold g_right_held_l0 at H
  refine AW2_seq ?_
  refine sg [0, 1, 2] Y ?_
  refine rp Y Y (p_move Y Y) ?_
  refine rp Y Y (p_lenl Y Tryd.underlying32 Y Y) ?_
  refine rp Y Y (p_move Y Y) ?_
  refine rz [(0, .p ((fun q : List GGrant => AV.lst (q.flatMap GGrant.cs) q.length) l0)), (3, .c (.own 3 good3_0.length 1)), (14, .p ((fun q : List GGrant => AV.lst (q.flatMap GGrant.cs) q.length) l0)), (15, .i (l0.length : Int)), (16, .i (0 : Int))] [(3, .pure (good3_0.map AV.int))] Y Y Y ?_
  refine AW2_block ?_
  refine as2 [(0, .p ((fun q : List GGrant => AV.lst (q.flatMap GGrant.cs) q.length) l0)), (3, .c (.own 3 good3_0.length 1)), (14, .p ((fun q : List GGrant => AV.lst (q.flatMap GGrant.cs) q.length) l0)), (15, .i (l0.length : Int)), (16, .i (0 : Int))] [(3, .pure (good3_0.map AV.int))] Y Y Y ?_
  refine bindK H fun o'17 h21 H => ?_
  refine AW2_loopO (fun a'14 : Int => (⟨[(0, .p ((fun q : List GGrant => AV.lst (q.flatMap GGrant.cs) q.length) l0)), (3, .c (.own 3 good3_0.length 1)), (14, .p ((fun q : List GGrant => AV.lst (q.flatMap GGrant.cs) q.length) l0)), (15, .i (l0.length : Int)), (16, .i a'14)], [(3, .pure (good3_0.map AV.int))], 95⟩ : TS)) (fun (o : ((List Int)) ⊕ Unit) e s' => match o with | .inl y'15 => e = Go.Exit.goto 0 ∧ s' = (⟨[(0, .p ((fun q : List GGrant => AV.lst (q.flatMap GGrant.cs) q.length) l0)), (3, .c (.own 3 y'15.length 1))], [(3, .pure (y'15.map AV.int))], 95⟩ : TS) | .inr (y'16) => e = Go.Exit.exit 0 ∧ s' = (⟨[(0, .p ((fun q : List GGrant => AV.lst (q.flatMap GGrant.cs) q.length) l0)), (3, .c (.own 3 good3_0.length 1))], [(3, .pure (good3_0.map AV.int))], 95⟩ : TS)) h21 Y (fun t16_1 x hx => ?_) (fun e s' hs => ?_)
  ·clear H
   have H := hx
   clear hx
   unfold g_right_held_l1 at H
   refine sg [0] Y ?_
   refine rp Y Y (p_bin Y Y Y Y) ?_
   refine rz [(0, .p ((fun q : List GGrant => AV.lst (q.flatMap GGrant.cs) q.length) l0)), (3, .c (.own 3 good3_0.length 1)), (14, .p ((fun q : List GGrant => AV.lst (q.flatMap GGrant.cs) q.length) l0)), (15, .i (l0.length : Int)), (16, .i t16_1), (17, .b (decide (t16_1 < (l0.length : Int))))] [(3, .pure (good3_0.map AV.int))] Y Y Y ?_
   refine AW2_seq ?_
   refine AW2_if (p := t16_1 < (l0.length : Int)) Y (fun h3 => ?_) (fun h3 => ?_)
   ·replace H := ite_then h3 H
    refine as2 [(0, .p ((fun q : List GGrant => AV.lst (q.flatMap GGrant.cs) q.length) l0)), (3, .c (.own 3 good3_0.length 1)), (14, .p ((fun q : List GGrant => AV.lst (q.flatMap GGrant.cs) q.length) l0)), (15, .i (l0.length : Int)), (16, .i t16_1)] [(3, .pure (good3_0.map AV.int))] Y Y Y ?_
    refine AW2_skip ?_
    refine AW2_seq ?_
    refine bindK H fun o'12 h4 H => ?_
    refine AW2_join (fun j'1 : Unit => (⟨[(0, .p ((fun q : List GGrant => AV.lst (q.flatMap GGrant.cs) q.length) l0)), (3, .c (.own 3 good3_0.length 1)), (14, .p ((fun q : List GGrant => AV.lst (q.flatMap GGrant.cs) q.length) l0)), (15, .i (l0.length : Int)), (16, .i t16_1)], [(3, .pure (good3_0.map AV.int))], 95⟩ : TS)) (fun (y'2 : ((List Int))) e s' => e = Go.Exit.goto 0 ∧ s' = (⟨[(0, .p ((fun q : List GGrant => AV.lst (q.flatMap GGrant.cs) q.length) l0)), (3, .c (.own 3 y'2.length 1))], [(3, .pure (y'2.map AV.int))], 95⟩ : TS)) (x := o'12) ?_ (fun j'1 hy => ?_) (fun y'11 e s' hy hs => ?_)
    ·clear H
     have H := h4
     clear h4
     refine AW2_block ?_
     refine sg [0, 1, 2, 3, 4, 5] Y ?_
     refine rp Y Y (p_move Y Y) ?_
     refine chkK H fun h5 H => ?_
     refine rp Y Y (u_ixl Y Y Tryd.underlying32 in_47 Y Y (ixe h5) (ixn h5) (fne (fun x => (GGrant.len x)) (by decide) (ixn h5))) ?_
     refine rp Y Y (u_lda Y Y Tryd.underlying47 Y in_47 Y (Nat.succ_pos _) (Sub.fm default (fun x => (GGrant.len x)) (ixn h5)) (GGrant.len (lrd l0 t16_1.toNat))) ?_
     refine r_op Y Y (MakeD.opD (u_alloc 5 Y in_47 one_47 zc_47) Y Y Y Y) ?_
     refine rp Y Y (p_asg Y Y) ?_
     refine r_op Y Y (u_st Y Y Y Y Y in_47 (GGrant.len (lrd l0 t16_1.toNat)) (nl (GGrant.len GGrant.zero)) (Upd.refl ((GGrant.len (lrd l0 t16_1.toNat)).trans (GGrant.len GGrant.zero).symm))) ?_
     refine rz [(0, .p ((fun q : List GGrant => AV.lst (q.flatMap GGrant.cs) q.length) l0)), (3, .c (.own 3 good3_0.length 1)), (4, .i t16_1), (5, .q 5 (0)), (14, .p ((fun q : List GGrant => AV.lst (q.flatMap GGrant.cs) q.length) l0)), (15, .i (l0.length : Int)), (16, .i t16_1)] [(3, .pure (good3_0.map AV.int)), (5, .pure (GGrant.cs (lrd l0 t16_1.toNat)))] Y Y Y ?_
     refine AW2_seq ?_
     refine sg [0, 1, 2, 3, 4] Y ?_
     refine rp Y Y (p_move Y Y) ?_
     refine rp Y Y (p_move Y Y) ?_
     refine chkK H fun h6 H => ?_
     refine rp Y Y (u_ixo Y Y Tryd.underlying74 in_3 Y Y (lne (ixn h6)) Y (ixe h6) (ixn h6)) ?_
     refine rp Y Y (u_ld Y Y Tryd.underlying3 Y Y ((Sub.refl _).trans (Sub.map default (ixn h6)))) ?_
     refine rp Y Y (p_ieq Y Y Y) ?_
     refine rz [(0, .p ((fun q : List GGrant => AV.lst (q.flatMap GGrant.cs) q.length) l0)), (3, .c (.own 3 good3_0.length 1)), (4, .i t16_1), (5, .q 5 (0)), (14, .p ((fun q : List GGrant => AV.lst (q.flatMap GGrant.cs) q.length) l0)), (15, .i (l0.length : Int)), (16, .i t16_1), (25, .b (decide ((lrd good3_0 t16_1.toNat) = (1 : Int))))] [(3, .pure (good3_0.map AV.int)), (5, .pure (GGrant.cs (lrd l0 t16_1.toNat)))] Y Y Y ?_
     refine AW2_if (p := (lrd good3_0 t16_1.toNat) = (1 : Int)) Y (fun h7 => ?_) (fun h7 => ?_)
     ·replace H := ite_then h7 H
      refine as2 [(0, .p ((fun q : List GGrant => AV.lst (q.flatMap GGrant.cs) q.length) l0)), (3, .c (.own 3 good3_0.length 1)), (14, .p ((fun q : List GGrant => AV.lst (q.flatMap GGrant.cs) q.length) l0)), (15, .i (l0.length : Int)), (16, .i t16_1)] [(3, .pure (good3_0.map AV.int))] Y Y Y ?_
      refine AW2_exit ?_
      refine thenQ2_exit ?_
      refine blockQ2_exit ?_
      have hz := some_elim H
      subst hz
      exact ⟨Y, Y⟩
     ·replace H := ite_else h7 H
      refine as2 [(0, .p ((fun q : List GGrant => AV.lst (q.flatMap GGrant.cs) q.length) l0)), (3, .c (.own 3 good3_0.length 1)), (4, .i t16_1), (5, .q 5 (0)), (14, .p ((fun q : List GGrant => AV.lst (q.flatMap GGrant.cs) q.length) l0)), (15, .i (l0.length : Int)), (16, .i t16_1)] [(3, .pure (good3_0.map AV.int)), (5, .pure (GGrant.cs (lrd l0 t16_1.toNat)))] Y Y Y ?_
      refine AW2_skip ?_
      refine AW2_seq ?_
      refine AW2_seq ?_
      refine bindK H fun r'3 h8 H => ?_
      refine AW2_ghoQ ?_
      refine AW2_draw 5 [5] (fun k => ([.q 5 (0 + 0), .i ((lrd l0 t16_1.toNat).From), .q 5 (0 + 2), .i ((lrd l0 t16_1.toNat).Object), .i r'3] : List TV).getD k TV.any) (fun k => g_right_held_r6.getD k []) [(0, none), (3, none), (4, none), (5, none), (14, none), (15, none), (16, none), (27, some 1), (30, some 4)] [] (fun k => g_right_held_r6c.getD k []) mixed (by kernel_rfl) Y Y (a_op (g_x Y (x_p Y (u_fa Y Y Tryd.underlying47 Y in_3 nz Y Y (nl (GGrant.len (lrd l0 t16_1.toNat)))) Y)) (a_op (g_x Y (x_p Y (u_ld Y Y Tryd.underlying3 Y Y ((Sub.refl _).trans (GGrant.sub0 (lrd l0 t16_1.toNat)))) Y)) (a_op (g_x Y (x_p Y (u_fa Y Y Tryd.underlying47 Y in_3 nz Y Y (nl (GGrant.len (lrd l0 t16_1.toNat)))) Y)) (a_op (g_x Y (x_p Y (u_ld Y Y Tryd.underlying3 Y Y ((Sub.refl _).trans (GGrant.sub2 (lrd l0 t16_1.toNat)))) Y)) (a_op (g_x Y (x_p Y (p_callp Y Y Y Tryd.func41 Y Y (g_right_owner_ac h8) ⟨Y, trivial⟩) Y)) (a_nil)))))) ?_
      refine t_op Y Y (PureD.opD (p_ieq Y Y Y)) ?_
      refine t_gho (Gho_st (L := [(0, .p ((fun q : List GGrant => AV.lst (q.flatMap GGrant.cs) q.length) l0)), (3, .c (.own 3 good3_0.length 1)), (4, .i t16_1), (5, .q 5 (0)), (14, .p ((fun q : List GGrant => AV.lst (q.flatMap GGrant.cs) q.length) l0)), (15, .i (l0.length : Int)), (16, .i t16_1), (31, .b (decide ((lrd l0 t16_1.toNat).From = r'3)))]) (H := [(3, .pure (good3_0.map AV.int)), (5, .pure (GGrant.cs (lrd l0 t16_1.toNat)))]) (N := 95) Y ⟨TLes.same _, TLes.same _, TLes.same _, TLes.same _, TLes.same _, TLes.same _, TLes.same _, TLes.same _, trivial⟩ ⟨Y, Y, trivial⟩) ?_
      refine AW2_if (p := (lrd l0 t16_1.toNat).From = r'3) Y (fun h9 => ?_) (fun h9 => ?_)
      ·replace H := ite_then h9 H
       refine sg [0, 1, 2, 3] Y ?_
       refine rp Y Y (p_move Y Y) ?_
       refine rp Y Y (p_move Y Y) ?_
       refine chkK H fun h10 H => ?_
       refine rp Y Y (u_ixo Y Y Tryd.underlying74 in_3 Y Y (lne (ixn h10)) Y (ixe h10) (ixn h10)) ?_
       refine r_op Y Y (u_st Y Y Y Y Y in_3 Y (lne (ixn h10)) (Upd.trans (Sub.refl _) (Upd.map (ixn h10)) (Upd.refl (by simp [bcells_length])))) ?_
       refine RunW_st [(0, .p ((fun q : List GGrant => AV.lst (q.flatMap GGrant.cs) q.length) l0)), (3, .c (.own 3 (good3_0.set t16_1.toNat (1 : Int)).length 1))] [(3, .pure ((good3_0.set t16_1.toNat (1 : Int)).map AV.int))] Y ⟨TLes.same _, TLes.own (by simp only [List.length_set]), trivial⟩ ⟨Y, trivial⟩ ?_
       refine RunW_nil ?_
       refine as2 [(0, .p ((fun q : List GGrant => AV.lst (q.flatMap GGrant.cs) q.length) l0)), (3, .c (.own 3 (good3_0.set t16_1.toNat (1 : Int)).length 1))] [(3, .pure ((good3_0.set t16_1.toNat (1 : Int)).map AV.int))] Y Y Y ?_
       refine AW2_goto ?_
       refine thenQ2_goto ?_
       refine blockQ2_goto ?_
       have hz := some_elim H
       subst hz
       exact ⟨Y, Y⟩
      ·replace H := ite_else h9 H
       refine as2 [(0, .p ((fun q : List GGrant => AV.lst (q.flatMap GGrant.cs) q.length) l0)), (3, .c (.own 3 good3_0.length 1)), (4, .i t16_1), (5, .q 5 (0)), (14, .p ((fun q : List GGrant => AV.lst (q.flatMap GGrant.cs) q.length) l0)), (15, .i (l0.length : Int)), (16, .i t16_1)] [(3, .pure (good3_0.map AV.int)), (5, .pure (GGrant.cs (lrd l0 t16_1.toNat)))] Y Y Y ?_
       refine AW2_skip ?_
       refine sg [0, 1, 2] Y ?_
       refine rp Y Y (p_move Y Y) ?_
       refine rp Y Y (p_lenl Y Tryd.underlying32 Y Y) ?_
       refine rp Y Y (p_move Y Y) ?_
       refine rz [(0, .p ((fun q : List GGrant => AV.lst (q.flatMap GGrant.cs) q.length) l0)), (3, .c (.own 3 good3_0.length 1)), (4, .i t16_1), (5, .q 5 (0)), (14, .p ((fun q : List GGrant => AV.lst (q.flatMap GGrant.cs) q.length) l0)), (15, .i (l0.length : Int)), (16, .i t16_1), (35, .p ((fun q : List GGrant => AV.lst (q.flatMap GGrant.cs) q.length) l0)), (36, .i (l0.length : Int)), (37, .i (0 : Int))] [(3, .pure (good3_0.map AV.int)), (5, .pure (GGrant.cs (lrd l0 t16_1.toNat)))] Y Y Y ?_
       refine AW2_block ?_
       refine as2 [(0, .p ((fun q : List GGrant => AV.lst (q.flatMap GGrant.cs) q.length) l0)), (3, .c (.own 3 good3_0.length 1)), (4, .i t16_1), (5, .q 5 (0)), (14, .p ((fun q : List GGrant => AV.lst (q.flatMap GGrant.cs) q.length) l0)), (15, .i (l0.length : Int)), (16, .i t16_1), (35, .p ((fun q : List GGrant => AV.lst (q.flatMap GGrant.cs) q.length) l0)), (36, .i (l0.length : Int)), (37, .i (0 : Int))] [(3, .pure (good3_0.map AV.int)), (5, .pure (GGrant.cs (lrd l0 t16_1.toNat)))] Y Y Y ?_
       refine bindK H fun o'8 h20 H => ?_
       refine AW2_loopO (fun a'5 : Int => (⟨[(0, .p ((fun q : List GGrant => AV.lst (q.flatMap GGrant.cs) q.length) l0)), (3, .c (.own 3 good3_0.length 1)), (4, .i t16_1), (5, .q 5 (0)), (14, .p ((fun q : List GGrant => AV.lst (q.flatMap GGrant.cs) q.length) l0)), (15, .i (l0.length : Int)), (16, .i t16_1), (35, .p ((fun q : List GGrant => AV.lst (q.flatMap GGrant.cs) q.length) l0)), (36, .i (l0.length : Int)), (37, .i a'5)], [(3, .pure (good3_0.map AV.int)), (5, .pure (GGrant.cs (lrd l0 t16_1.toNat)))], 95⟩ : TS)) (fun (o : ((List Int)) ⊕ Unit) e s' => match o with | .inl y'6 => e = Go.Exit.goto 0 ∧ s' = (⟨[(0, .p ((fun q : List GGrant => AV.lst (q.flatMap GGrant.cs) q.length) l0)), (3, .c (.own 3 y'6.length 1))], [(3, .pure (y'6.map AV.int))], 95⟩ : TS) | .inr (y'7) => e = Go.Exit.exit 2 ∧ s' = (⟨[(0, .p ((fun q : List GGrant => AV.lst (q.flatMap GGrant.cs) q.length) l0)), (3, .c (.own 3 good3_0.length 1)), (14, .p ((fun q : List GGrant => AV.lst (q.flatMap GGrant.cs) q.length) l0)), (15, .i (l0.length : Int)), (16, .i t16_1)], [(3, .pure (good3_0.map AV.int))], 95⟩ : TS)) h20 Y (fun t37_2 x hx => ?_) (fun e s' hs => ?_)
       ·clear H
        have H := hx
        clear hx
        unfold g_right_held_l2 at H
        refine sg [0] Y ?_
        refine rp Y Y (p_bin Y Y Y Y) ?_
        refine rz [(0, .p ((fun q : List GGrant => AV.lst (q.flatMap GGrant.cs) q.length) l0)), (3, .c (.own 3 good3_0.length 1)), (4, .i t16_1), (5, .q 5 (0)), (14, .p ((fun q : List GGrant => AV.lst (q.flatMap GGrant.cs) q.length) l0)), (15, .i (l0.length : Int)), (16, .i t16_1), (35, .p ((fun q : List GGrant => AV.lst (q.flatMap GGrant.cs) q.length) l0)), (36, .i (l0.length : Int)), (37, .i t37_2), (38, .b (decide (t37_2 < (l0.length : Int))))] [(3, .pure (good3_0.map AV.int)), (5, .pure (GGrant.cs (lrd l0 t16_1.toNat)))] Y Y Y ?_
        refine AW2_seq ?_
        refine AW2_if (p := t37_2 < (l0.length : Int)) Y (fun h11 => ?_) (fun h11 => ?_)
        ·replace H := ite_then h11 H
         refine as2 [(0, .p ((fun q : List GGrant => AV.lst (q.flatMap GGrant.cs) q.length) l0)), (3, .c (.own 3 good3_0.length 1)), (4, .i t16_1), (5, .q 5 (0)), (14, .p ((fun q : List GGrant => AV.lst (q.flatMap GGrant.cs) q.length) l0)), (15, .i (l0.length : Int)), (16, .i t16_1), (35, .p ((fun q : List GGrant => AV.lst (q.flatMap GGrant.cs) q.length) l0)), (36, .i (l0.length : Int)), (37, .i t37_2)] [(3, .pure (good3_0.map AV.int)), (5, .pure (GGrant.cs (lrd l0 t16_1.toNat)))] Y Y Y ?_
         refine AW2_skip ?_
         refine AW2_seq ?_
         refine AW2_block ?_
         refine sg [0, 1, 2, 3, 4, 5] Y ?_
         refine rp Y Y (p_move Y Y) ?_
         refine chkK H fun h12 H => ?_
         refine rp Y Y (u_ixl Y Y Tryd.underlying32 in_47 Y Y (ixe h12) (ixn h12) (fne (fun x => (GGrant.len x)) (by decide) (ixn h12))) ?_
         refine rp Y Y (u_lda Y Y Tryd.underlying47 Y in_47 Y (Nat.succ_pos _) (Sub.fm default (fun x => (GGrant.len x)) (ixn h12)) (GGrant.len (lrd l0 t37_2.toNat))) ?_
         refine r_op Y Y (MakeD.opD (u_alloc 7 Y in_47 one_47 zc_47) Y Y Y Y) ?_
         refine rp Y Y (p_asg Y Y) ?_
         refine r_op Y Y (u_st Y Y Y Y Y in_47 (GGrant.len (lrd l0 t37_2.toNat)) (nl (GGrant.len GGrant.zero)) (Upd.refl ((GGrant.len (lrd l0 t37_2.toNat)).trans (GGrant.len GGrant.zero).symm))) ?_
         refine rz [(0, .p ((fun q : List GGrant => AV.lst (q.flatMap GGrant.cs) q.length) l0)), (3, .c (.own 3 good3_0.length 1)), (4, .i t16_1), (5, .q 5 (0)), (6, .i t37_2), (7, .q 7 (0)), (14, .p ((fun q : List GGrant => AV.lst (q.flatMap GGrant.cs) q.length) l0)), (15, .i (l0.length : Int)), (16, .i t16_1), (35, .p ((fun q : List GGrant => AV.lst (q.flatMap GGrant.cs) q.length) l0)), (36, .i (l0.length : Int)), (37, .i t37_2)] [(3, .pure (good3_0.map AV.int)), (5, .pure (GGrant.cs (lrd l0 t16_1.toNat))), (7, .pure (GGrant.cs (lrd l0 t37_2.toNat)))] Y Y Y ?_
         refine AW2_seq ?_
         refine chkK H fun h13 H => ?_
         refine AW2_mid (⟨[(0, .p ((fun q : List GGrant => AV.lst (q.flatMap GGrant.cs) q.length) l0)), (3, .c (.own 3 good3_0.length 1)), (4, .i t16_1), (5, .q 5 (0)), (14, .p ((fun q : List GGrant => AV.lst (q.flatMap GGrant.cs) q.length) l0)), (15, .i (l0.length : Int)), (16, .i t16_1), (35, .p ((fun q : List GGrant => AV.lst (q.flatMap GGrant.cs) q.length) l0)), (36, .i (l0.length : Int)), (37, .i t37_2), (71, .b (decide ((((((lrd good3_0 t37_2.toNat) = (1 : Int)) ∧ (((lrd l0 t37_2.toNat).Option_) = true)) ∧ ((lrd l0 t37_2.toNat).To = (lrd l0 t16_1.toNat).From)) ∧ ((lrd l0 t37_2.toNat).Object = (lrd l0 t16_1.toNat).Object)) ∧ ((lrd l0 t37_2.toNat).Right = (lrd l0 t16_1.toNat).Right))))], [(3, .pure (good3_0.map AV.int)), (5, .pure (GGrant.cs (lrd l0 t16_1.toNat)))], 95⟩ : TS) ?_ ?_
         ·refine AW2_reg [0, 1, 2, 3, 4, 5, 6, 7, 8, 9, 10, 11, 12, 13, 14, 15, 16, 17, 18, 19, 20, 21, 22, 23, 24, 25, 26, 27, 28, 29] Y ?_
          refine rp Y Y (p_move Y Y) ?_
          refine rp Y Y (p_move Y Y) ?_
          refine rp Y Y (u_ixo Y Y Tryd.underlying74 in_3 Y Y (lne (ixn h13)) Y (ixe h13) (ixn h13)) ?_
          refine rp Y Y (u_ld Y Y Tryd.underlying3 Y Y ((Sub.refl _).trans (Sub.map default (ixn h13)))) ?_
          refine rp Y Y (p_ieq Y Y Y) ?_
          refine rp Y Y (p_move Y Y) ?_
          refine (Classical.em ((lrd good3_0 t37_2.toNat) = (1 : Int))).elim (fun h14 => ?_) (fun h14 => ?_)
          ·refine r_on Y Y Y Y (dT h14) Y (PureD.opD (u_fa Y Y Tryd.underlying47 Y in_4 nz Y Y (nl (GGrant.len (lrd l0 t37_2.toNat))))) ?_
           refine r_on Y Y Y Y (dT h14) Y (PureD.opD (u_ld Y Y Tryd.underlying4 Y Y ((Sub.refl _).trans (GGrant.sub4 (lrd l0 t37_2.toNat))))) ?_
           refine rp Y Y (p_pkt Y Y (dT h14) (tb ((bdec _).trans (and_l (p := (lrd good3_0 t37_2.toNat) = (1 : Int)) (q := ((lrd l0 t37_2.toNat).Option_) = true) h14)))) ?_
           refine rp Y Y (p_move Y Y) ?_
           refine (Classical.em (((lrd l0 t37_2.toNat).Option_) = true)).elim (fun h15 => ?_) (fun h15 => ?_)
           ·have qq1 := dT (p := ((lrd good3_0 t37_2.toNat) = (1 : Int)) ∧ (((lrd l0 t37_2.toNat).Option_) = true)) ⟨h14, h15⟩
            refine rn Y Y Y Y qq1 Y (u_fa Y Y Tryd.underlying47 Y in_3 nz Y Y (nl (GGrant.len (lrd l0 t37_2.toNat)))) ?_
            refine rn Y Y Y Y qq1 Y (u_ld Y Y Tryd.underlying3 Y Y ((Sub.refl _).trans (GGrant.sub1 (lrd l0 t37_2.toNat)))) ?_
            refine rn Y Y Y Y qq1 Y (u_fa Y Y Tryd.underlying47 Y in_3 nz Y Y (nl (GGrant.len (lrd l0 t16_1.toNat)))) ?_
            refine rn Y Y Y Y qq1 Y (u_ld Y Y Tryd.underlying3 Y Y ((Sub.refl _).trans (GGrant.sub0 (lrd l0 t16_1.toNat)))) ?_
            refine rn Y Y Y Y qq1 Y (p_ieq Y Y Y) ?_
            refine rp Y Y (p_pkt Y Y qq1 (tb ((and_l (p := ((lrd good3_0 t37_2.toNat) = (1 : Int)) ∧ (((lrd l0 t37_2.toNat).Option_) = true)) (q := (lrd l0 t37_2.toNat).To = (lrd l0 t16_1.toNat).From) ⟨h14, h15⟩)))) ?_
            refine rp Y Y (p_move Y Y) ?_
            refine (Classical.em ((lrd l0 t37_2.toNat).To = (lrd l0 t16_1.toNat).From)).elim (fun h16 => ?_) (fun h16 => ?_)
            ·have qq2 := dT (p := (((lrd good3_0 t37_2.toNat) = (1 : Int)) ∧ (((lrd l0 t37_2.toNat).Option_) = true)) ∧ ((lrd l0 t37_2.toNat).To = (lrd l0 t16_1.toNat).From)) ⟨⟨h14, h15⟩, h16⟩
             refine rn Y Y Y Y qq2 Y (u_fa Y Y Tryd.underlying47 Y in_3 nz Y Y (nl (GGrant.len (lrd l0 t37_2.toNat)))) ?_
             refine rn Y Y Y Y qq2 Y (u_ld Y Y Tryd.underlying3 Y Y ((Sub.refl _).trans (GGrant.sub2 (lrd l0 t37_2.toNat)))) ?_
             refine rn Y Y Y Y qq2 Y (u_fa Y Y Tryd.underlying47 Y in_3 nz Y Y (nl (GGrant.len (lrd l0 t16_1.toNat)))) ?_
             refine rn Y Y Y Y qq2 Y (u_ld Y Y Tryd.underlying3 Y Y ((Sub.refl _).trans (GGrant.sub2 (lrd l0 t16_1.toNat)))) ?_
             refine rn Y Y Y Y qq2 Y (p_ieq Y Y Y) ?_
             refine rp Y Y (p_pkt Y Y qq2 (tb ((and_l (p := (((lrd good3_0 t37_2.toNat) = (1 : Int)) ∧ (((lrd l0 t37_2.toNat).Option_) = true)) ∧ ((lrd l0 t37_2.toNat).To = (lrd l0 t16_1.toNat).From)) (q := (lrd l0 t37_2.toNat).Object = (lrd l0 t16_1.toNat).Object) ⟨⟨h14, h15⟩, h16⟩)))) ?_
             refine rp Y Y (p_move Y Y) ?_
             refine (Classical.em ((lrd l0 t37_2.toNat).Object = (lrd l0 t16_1.toNat).Object)).elim (fun h17 => ?_) (fun h17 => ?_)
             ·have qq3 := dT (p := ((((lrd good3_0 t37_2.toNat) = (1 : Int)) ∧ (((lrd l0 t37_2.toNat).Option_) = true)) ∧ ((lrd l0 t37_2.toNat).To = (lrd l0 t16_1.toNat).From)) ∧ ((lrd l0 t37_2.toNat).Object = (lrd l0 t16_1.toNat).Object)) ⟨⟨⟨h14, h15⟩, h16⟩, h17⟩
              refine rn Y Y Y Y qq3 Y (u_fa Y Y Tryd.underlying47 Y in_3 nz Y Y (nl (GGrant.len (lrd l0 t37_2.toNat)))) ?_
              refine rn Y Y Y Y qq3 Y (u_ld Y Y Tryd.underlying3 Y Y ((Sub.refl _).trans (GGrant.sub3 (lrd l0 t37_2.toNat)))) ?_
              refine rn Y Y Y Y qq3 Y (u_fa Y Y Tryd.underlying47 Y in_3 nz Y Y (nl (GGrant.len (lrd l0 t16_1.toNat)))) ?_
              refine rn Y Y Y Y qq3 Y (u_ld Y Y Tryd.underlying3 Y Y ((Sub.refl _).trans (GGrant.sub3 (lrd l0 t16_1.toNat)))) ?_
              refine rn Y Y Y Y qq3 Y (p_ieq Y Y Y) ?_
              refine rp Y Y (p_pkt Y Y qq3 (tb ((and_l (p := ((((lrd good3_0 t37_2.toNat) = (1 : Int)) ∧ (((lrd l0 t37_2.toNat).Option_) = true)) ∧ ((lrd l0 t37_2.toNat).To = (lrd l0 t16_1.toNat).From)) ∧ ((lrd l0 t37_2.toNat).Object = (lrd l0 t16_1.toNat).Object)) (q := (lrd l0 t37_2.toNat).Right = (lrd l0 t16_1.toNat).Right) ⟨⟨⟨h14, h15⟩, h16⟩, h17⟩)))) ?_
              refine rs [(0, .p ((fun q : List GGrant => AV.lst (q.flatMap GGrant.cs) q.length) l0)), (3, .c (.own 3 good3_0.length 1)), (4, .i t16_1), (5, .q 5 (0)), (14, .p ((fun q : List GGrant => AV.lst (q.flatMap GGrant.cs) q.length) l0)), (15, .i (l0.length : Int)), (16, .i t16_1), (35, .p ((fun q : List GGrant => AV.lst (q.flatMap GGrant.cs) q.length) l0)), (36, .i (l0.length : Int)), (37, .i t37_2), (71, .b (decide ((((((lrd good3_0 t37_2.toNat) = (1 : Int)) ∧ (((lrd l0 t37_2.toNat).Option_) = true)) ∧ ((lrd l0 t37_2.toNat).To = (lrd l0 t16_1.toNat).From)) ∧ ((lrd l0 t37_2.toNat).Object = (lrd l0 t16_1.toNat).Object)) ∧ ((lrd l0 t37_2.toNat).Right = (lrd l0 t16_1.toNat).Right))))] [(3, .pure (good3_0.map AV.int)), (5, .pure (GGrant.cs (lrd l0 t16_1.toNat)))] Y Y Y ?_
              exact RunW_nil rfl
             ·have qq4 := dF (p := ((((lrd good3_0 t37_2.toNat) = (1 : Int)) ∧ (((lrd l0 t37_2.toNat).Option_) = true)) ∧ ((lrd l0 t37_2.toNat).To = (lrd l0 t16_1.toNat).From)) ∧ ((lrd l0 t37_2.toNat).Object = (lrd l0 t16_1.toNat).Object)) (fun h => h17 h.2)
              iterate 5 (refine r_off rfl rfl rfl rfl qq4 rfl rfl ?_)
              refine rp Y Y (p_pkf Y Y qq4 (tb (dF (p := (((((lrd good3_0 t37_2.toNat) = (1 : Int)) ∧ (((lrd l0 t37_2.toNat).Option_) = true)) ∧ ((lrd l0 t37_2.toNat).To = (lrd l0 t16_1.toNat).From)) ∧ ((lrd l0 t37_2.toNat).Object = (lrd l0 t16_1.toNat).Object)) ∧ ((lrd l0 t37_2.toNat).Right = (lrd l0 t16_1.toNat).Right)) (fun x => (fun h => h17 h.2) x.1)).symm)) ?_
              refine rs [(0, .p ((fun q : List GGrant => AV.lst (q.flatMap GGrant.cs) q.length) l0)), (3, .c (.own 3 good3_0.length 1)), (4, .i t16_1), (5, .q 5 (0)), (14, .p ((fun q : List GGrant => AV.lst (q.flatMap GGrant.cs) q.length) l0)), (15, .i (l0.length : Int)), (16, .i t16_1), (35, .p ((fun q : List GGrant => AV.lst (q.flatMap GGrant.cs) q.length) l0)), (36, .i (l0.length : Int)), (37, .i t37_2), (71, .b (decide ((((((lrd good3_0 t37_2.toNat) = (1 : Int)) ∧ (((lrd l0 t37_2.toNat).Option_) = true)) ∧ ((lrd l0 t37_2.toNat).To = (lrd l0 t16_1.toNat).From)) ∧ ((lrd l0 t37_2.toNat).Object = (lrd l0 t16_1.toNat).Object)) ∧ ((lrd l0 t37_2.toNat).Right = (lrd l0 t16_1.toNat).Right))))] [(3, .pure (good3_0.map AV.int)), (5, .pure (GGrant.cs (lrd l0 t16_1.toNat)))] Y Y Y ?_
              exact RunW_nil rfl
            ·have qq5 := dF (p := (((lrd good3_0 t37_2.toNat) = (1 : Int)) ∧ (((lrd l0 t37_2.toNat).Option_) = true)) ∧ ((lrd l0 t37_2.toNat).To = (lrd l0 t16_1.toNat).From)) (fun h => h16 h.2)
             iterate 5 (refine r_off rfl rfl rfl rfl qq5 rfl rfl ?_)
             refine rp Y Y (p_pkf Y Y qq5 (tb (dF (p := ((((lrd good3_0 t37_2.toNat) = (1 : Int)) ∧ (((lrd l0 t37_2.toNat).Option_) = true)) ∧ ((lrd l0 t37_2.toNat).To = (lrd l0 t16_1.toNat).From)) ∧ ((lrd l0 t37_2.toNat).Object = (lrd l0 t16_1.toNat).Object)) (fun x => (fun h => h16 h.2) x.1)).symm)) ?_
             refine rp Y Y (p_move Y Y) ?_
             have qq6 := dF (p := ((((lrd good3_0 t37_2.toNat) = (1 : Int)) ∧ (((lrd l0 t37_2.toNat).Option_) = true)) ∧ ((lrd l0 t37_2.toNat).To = (lrd l0 t16_1.toNat).From)) ∧ ((lrd l0 t37_2.toNat).Object = (lrd l0 t16_1.toNat).Object)) (fun h => (fun h => h16 h.2) h.1)
             iterate 5 (refine r_off rfl rfl rfl rfl qq6 rfl rfl ?_)
             refine rp Y Y (p_pkf Y Y qq6 (tb (dF (p := (((((lrd good3_0 t37_2.toNat) = (1 : Int)) ∧ (((lrd l0 t37_2.toNat).Option_) = true)) ∧ ((lrd l0 t37_2.toNat).To = (lrd l0 t16_1.toNat).From)) ∧ ((lrd l0 t37_2.toNat).Object = (lrd l0 t16_1.toNat).Object)) ∧ ((lrd l0 t37_2.toNat).Right = (lrd l0 t16_1.toNat).Right)) (fun x => (fun h => (fun h => h16 h.2) h.1) x.1)).symm)) ?_
             refine rs [(0, .p ((fun q : List GGrant => AV.lst (q.flatMap GGrant.cs) q.length) l0)), (3, .c (.own 3 good3_0.length 1)), (4, .i t16_1), (5, .q 5 (0)), (14, .p ((fun q : List GGrant => AV.lst (q.flatMap GGrant.cs) q.length) l0)), (15, .i (l0.length : Int)), (16, .i t16_1), (35, .p ((fun q : List GGrant => AV.lst (q.flatMap GGrant.cs) q.length) l0)), (36, .i (l0.length : Int)), (37, .i t37_2), (71, .b (decide ((((((lrd good3_0 t37_2.toNat) = (1 : Int)) ∧ (((lrd l0 t37_2.toNat).Option_) = true)) ∧ ((lrd l0 t37_2.toNat).To = (lrd l0 t16_1.toNat).From)) ∧ ((lrd l0 t37_2.toNat).Object = (lrd l0 t16_1.toNat).Object)) ∧ ((lrd l0 t37_2.toNat).Right = (lrd l0 t16_1.toNat).Right))))] [(3, .pure (good3_0.map AV.int)), (5, .pure (GGrant.cs (lrd l0 t16_1.toNat)))] Y Y Y ?_
             exact RunW_nil rfl
           ·have qq7 := dF (p := ((lrd good3_0 t37_2.toNat) = (1 : Int)) ∧ (((lrd l0 t37_2.toNat).Option_) = true)) (fun h => h15 h.2)
            iterate 5 (refine r_off rfl rfl rfl rfl qq7 rfl rfl ?_)
            refine rp Y Y (p_pkf Y Y qq7 (tb (dF (p := (((lrd good3_0 t37_2.toNat) = (1 : Int)) ∧ (((lrd l0 t37_2.toNat).Option_) = true)) ∧ ((lrd l0 t37_2.toNat).To = (lrd l0 t16_1.toNat).From)) (fun x => (fun h => h15 h.2) x.1)).symm)) ?_
            refine rp Y Y (p_move Y Y) ?_
            have qq8 := dF (p := (((lrd good3_0 t37_2.toNat) = (1 : Int)) ∧ (((lrd l0 t37_2.toNat).Option_) = true)) ∧ ((lrd l0 t37_2.toNat).To = (lrd l0 t16_1.toNat).From)) (fun h => (fun h => h15 h.2) h.1)
            iterate 5 (refine r_off rfl rfl rfl rfl qq8 rfl rfl ?_)
            refine rp Y Y (p_pkf Y Y qq8 (tb (dF (p := ((((lrd good3_0 t37_2.toNat) = (1 : Int)) ∧ (((lrd l0 t37_2.toNat).Option_) = true)) ∧ ((lrd l0 t37_2.toNat).To = (lrd l0 t16_1.toNat).From)) ∧ ((lrd l0 t37_2.toNat).Object = (lrd l0 t16_1.toNat).Object)) (fun x => (fun h => (fun h => h15 h.2) h.1) x.1)).symm)) ?_
            refine rp Y Y (p_move Y Y) ?_
            have qq9 := dF (p := ((((lrd good3_0 t37_2.toNat) = (1 : Int)) ∧ (((lrd l0 t37_2.toNat).Option_) = true)) ∧ ((lrd l0 t37_2.toNat).To = (lrd l0 t16_1.toNat).From)) ∧ ((lrd l0 t37_2.toNat).Object = (lrd l0 t16_1.toNat).Object)) (fun h => (fun h => (fun h => h15 h.2) h.1) h.1)
            iterate 5 (refine r_off rfl rfl rfl rfl qq9 rfl rfl ?_)
            refine rp Y Y (p_pkf Y Y qq9 (tb (dF (p := (((((lrd good3_0 t37_2.toNat) = (1 : Int)) ∧ (((lrd l0 t37_2.toNat).Option_) = true)) ∧ ((lrd l0 t37_2.toNat).To = (lrd l0 t16_1.toNat).From)) ∧ ((lrd l0 t37_2.toNat).Object = (lrd l0 t16_1.toNat).Object)) ∧ ((lrd l0 t37_2.toNat).Right = (lrd l0 t16_1.toNat).Right)) (fun x => (fun h => (fun h => (fun h => h15 h.2) h.1) h.1) x.1)).symm)) ?_
            refine rs [(0, .p ((fun q : List GGrant => AV.lst (q.flatMap GGrant.cs) q.length) l0)), (3, .c (.own 3 good3_0.length 1)), (4, .i t16_1), (5, .q 5 (0)), (14, .p ((fun q : List GGrant => AV.lst (q.flatMap GGrant.cs) q.length) l0)), (15, .i (l0.length : Int)), (16, .i t16_1), (35, .p ((fun q : List GGrant => AV.lst (q.flatMap GGrant.cs) q.length) l0)), (36, .i (l0.length : Int)), (37, .i t37_2), (71, .b (decide ((((((lrd good3_0 t37_2.toNat) = (1 : Int)) ∧ (((lrd l0 t37_2.toNat).Option_) = true)) ∧ ((lrd l0 t37_2.toNat).To = (lrd l0 t16_1.toNat).From)) ∧ ((lrd l0 t37_2.toNat).Object = (lrd l0 t16_1.toNat).Object)) ∧ ((lrd l0 t37_2.toNat).Right = (lrd l0 t16_1.toNat).Right))))] [(3, .pure (good3_0.map AV.int)), (5, .pure (GGrant.cs (lrd l0 t16_1.toNat)))] Y Y Y ?_
            exact RunW_nil rfl
          ·iterate 2 (refine r_off rfl rfl rfl rfl (dF h14) rfl rfl ?_)
           refine rp Y Y (p_pkf Y Y (dF h14) (tb (dF (p := ((lrd good3_0 t37_2.toNat) = (1 : Int)) ∧ (((lrd l0 t37_2.toNat).Option_) = true)) (fun x => h14 x.1)).symm)) ?_
           refine rp Y Y (p_move Y Y) ?_
           have qq10 := dF (p := ((lrd good3_0 t37_2.toNat) = (1 : Int)) ∧ (((lrd l0 t37_2.toNat).Option_) = true)) (fun h => h14 h.1)
           iterate 5 (refine r_off rfl rfl rfl rfl qq10 rfl rfl ?_)
           refine rp Y Y (p_pkf Y Y qq10 (tb (dF (p := (((lrd good3_0 t37_2.toNat) = (1 : Int)) ∧ (((lrd l0 t37_2.toNat).Option_) = true)) ∧ ((lrd l0 t37_2.toNat).To = (lrd l0 t16_1.toNat).From)) (fun x => (fun h => h14 h.1) x.1)).symm)) ?_
           refine rp Y Y (p_move Y Y) ?_
           have qq11 := dF (p := (((lrd good3_0 t37_2.toNat) = (1 : Int)) ∧ (((lrd l0 t37_2.toNat).Option_) = true)) ∧ ((lrd l0 t37_2.toNat).To = (lrd l0 t16_1.toNat).From)) (fun h => (fun h => h14 h.1) h.1)
           iterate 5 (refine r_off rfl rfl rfl rfl qq11 rfl rfl ?_)
           refine rp Y Y (p_pkf Y Y qq11 (tb (dF (p := ((((lrd good3_0 t37_2.toNat) = (1 : Int)) ∧ (((lrd l0 t37_2.toNat).Option_) = true)) ∧ ((lrd l0 t37_2.toNat).To = (lrd l0 t16_1.toNat).From)) ∧ ((lrd l0 t37_2.toNat).Object = (lrd l0 t16_1.toNat).Object)) (fun x => (fun h => (fun h => h14 h.1) h.1) x.1)).symm)) ?_
           refine rp Y Y (p_move Y Y) ?_
           have qq12 := dF (p := ((((lrd good3_0 t37_2.toNat) = (1 : Int)) ∧ (((lrd l0 t37_2.toNat).Option_) = true)) ∧ ((lrd l0 t37_2.toNat).To = (lrd l0 t16_1.toNat).From)) ∧ ((lrd l0 t37_2.toNat).Object = (lrd l0 t16_1.toNat).Object)) (fun h => (fun h => (fun h => h14 h.1) h.1) h.1)
           iterate 5 (refine r_off rfl rfl rfl rfl qq12 rfl rfl ?_)
           refine rp Y Y (p_pkf Y Y qq12 (tb (dF (p := (((((lrd good3_0 t37_2.toNat) = (1 : Int)) ∧ (((lrd l0 t37_2.toNat).Option_) = true)) ∧ ((lrd l0 t37_2.toNat).To = (lrd l0 t16_1.toNat).From)) ∧ ((lrd l0 t37_2.toNat).Object = (lrd l0 t16_1.toNat).Object)) ∧ ((lrd l0 t37_2.toNat).Right = (lrd l0 t16_1.toNat).Right)) (fun x => (fun h => (fun h => (fun h => h14 h.1) h.1) h.1) x.1)).symm)) ?_
           refine rs [(0, .p ((fun q : List GGrant => AV.lst (q.flatMap GGrant.cs) q.length) l0)), (3, .c (.own 3 good3_0.length 1)), (4, .i t16_1), (5, .q 5 (0)), (14, .p ((fun q : List GGrant => AV.lst (q.flatMap GGrant.cs) q.length) l0)), (15, .i (l0.length : Int)), (16, .i t16_1), (35, .p ((fun q : List GGrant => AV.lst (q.flatMap GGrant.cs) q.length) l0)), (36, .i (l0.length : Int)), (37, .i t37_2), (71, .b (decide ((((((lrd good3_0 t37_2.toNat) = (1 : Int)) ∧ (((lrd l0 t37_2.toNat).Option_) = true)) ∧ ((lrd l0 t37_2.toNat).To = (lrd l0 t16_1.toNat).From)) ∧ ((lrd l0 t37_2.toNat).Object = (lrd l0 t16_1.toNat).Object)) ∧ ((lrd l0 t37_2.toNat).Right = (lrd l0 t16_1.toNat).Right))))] [(3, .pure (good3_0.map AV.int)), (5, .pure (GGrant.cs (lrd l0 t16_1.toNat)))] Y Y Y ?_
           exact RunW_nil rfl
         ·refine gen1 (fun t71'4 => (⟨[(0, .p ((fun q : List GGrant => AV.lst (q.flatMap GGrant.cs) q.length) l0)), (3, .c (.own 3 good3_0.length 1)), (4, .i t16_1), (5, .q 5 (0)), (14, .p ((fun q : List GGrant => AV.lst (q.flatMap GGrant.cs) q.length) l0)), (15, .i (l0.length : Int)), (16, .i t16_1), (35, .p ((fun q : List GGrant => AV.lst (q.flatMap GGrant.cs) q.length) l0)), (36, .i (l0.length : Int)), (37, .i t37_2), (71, .b t71'4)], [(3, .pure (good3_0.map AV.int)), (5, .pure (GGrant.cs (lrd l0 t16_1.toNat)))], 95⟩ : TS)) H ?_
          intro t71'4 H
          refine AW2_cond Y (fun h18 => ?_) (fun h18 => ?_)
          ·replace H := ite_then h18 H
           refine sg [0, 1, 2, 3] Y ?_
           refine rp Y Y (p_move Y Y) ?_
           refine rp Y Y (p_move Y Y) ?_
           refine chkK H fun h19 H => ?_
           refine rp Y Y (u_ixo Y Y Tryd.underlying74 in_3 Y Y (lne (ixn h19)) Y (ixe h19) (ixn h19)) ?_
           refine r_op Y Y (u_st Y Y Y Y Y in_3 Y (lne (ixn h19)) (Upd.trans (Sub.refl _) (Upd.map (ixn h19)) (Upd.refl (by simp [bcells_length])))) ?_
           refine RunW_st [(0, .p ((fun q : List GGrant => AV.lst (q.flatMap GGrant.cs) q.length) l0)), (3, .c (.own 3 (good3_0.set t16_1.toNat (1 : Int)).length 1))] [(3, .pure ((good3_0.set t16_1.toNat (1 : Int)).map AV.int))] Y ⟨TLes.same _, TLes.own (by simp only [List.length_set]), trivial⟩ ⟨Y, trivial⟩ ?_
           refine RunW_nil ?_
           refine as2 [(0, .p ((fun q : List GGrant => AV.lst (q.flatMap GGrant.cs) q.length) l0)), (3, .c (.own 3 (good3_0.set t16_1.toNat (1 : Int)).length 1))] [(3, .pure ((good3_0.set t16_1.toNat (1 : Int)).map AV.int))] Y Y Y ?_
           refine AW2_goto ?_
           refine blockQ2_goto ?_
           refine thenQ2_goto ?_
           have hz := some_elim H
           subst hz
           exact ⟨Y, Y⟩
          ·replace H := ite_else (ne_true h18) H
           refine as2 [(0, .p ((fun q : List GGrant => AV.lst (q.flatMap GGrant.cs) q.length) l0)), (3, .c (.own 3 good3_0.length 1)), (4, .i t16_1), (5, .q 5 (0)), (14, .p ((fun q : List GGrant => AV.lst (q.flatMap GGrant.cs) q.length) l0)), (15, .i (l0.length : Int)), (16, .i t16_1), (35, .p ((fun q : List GGrant => AV.lst (q.flatMap GGrant.cs) q.length) l0)), (36, .i (l0.length : Int)), (37, .i t37_2)] [(3, .pure (good3_0.map AV.int)), (5, .pure (GGrant.cs (lrd l0 t16_1.toNat)))] Y Y Y ?_
           refine AW2_skip ?_
           refine AW2_reg [0, 1] Y ?_
           refine rp Y Y (p_bin Y Y Y Y) ?_
           refine rp Y Y (p_move Y Y) ?_
           refine rz [(0, .p ((fun q : List GGrant => AV.lst (q.flatMap GGrant.cs) q.length) l0)), (3, .c (.own 3 good3_0.length 1)), (4, .i t16_1), (5, .q 5 (0)), (14, .p ((fun q : List GGrant => AV.lst (q.flatMap GGrant.cs) q.length) l0)), (15, .i (l0.length : Int)), (16, .i t16_1), (35, .p ((fun q : List GGrant => AV.lst (q.flatMap GGrant.cs) q.length) l0)), (36, .i (l0.length : Int)), (37, .i (w64 (t37_2 + (1 : Int))))] [(3, .pure (good3_0.map AV.int)), (5, .pure (GGrant.cs (lrd l0 t16_1.toNat)))] Y Y Y ?_
           have hz := some_elim H
           subst hz
           exact ⟨Y, Y⟩
        ·replace H := ite_else h11 H
         refine as2 [(0, .p ((fun q : List GGrant => AV.lst (q.flatMap GGrant.cs) q.length) l0)), (3, .c (.own 3 good3_0.length 1)), (14, .p ((fun q : List GGrant => AV.lst (q.flatMap GGrant.cs) q.length) l0)), (15, .i (l0.length : Int)), (16, .i t16_1)] [(3, .pure (good3_0.map AV.int))] Y Y Y ?_
         refine AW2_exit ?_
         refine thenQ2_exit ?_
         have hz := some_elim H
         subst hz
         exact ⟨Y, Y⟩
       ·rcases o'8 with y'9 | y'10
        ·obtain ⟨rfl, rfl⟩ := hs
         refine ⟨by simp, ?_⟩
         refine blockQ2_goto ?_
         refine blockQ2_goto ?_
         have hz := some_elim H
         subst hz
         exact ⟨Y, Y⟩
        ·obtain ⟨rfl, rfl⟩ := hs
         refine ⟨by simp, ?_⟩
         refine blockQ2_exit ?_
         have hz := some_elim H
         subst hz
         exact ⟨Y, Y⟩
    ·subst hy
     refine AW2_reg [0, 1] Y ?_
     refine rp Y Y (p_bin Y Y Y Y) ?_
     refine rp Y Y (p_move Y Y) ?_
     refine rz [(0, .p ((fun q : List GGrant => AV.lst (q.flatMap GGrant.cs) q.length) l0)), (3, .c (.own 3 good3_0.length 1)), (14, .p ((fun q : List GGrant => AV.lst (q.flatMap GGrant.cs) q.length) l0)), (15, .i (l0.length : Int)), (16, .i (w64 (t16_1 + (1 : Int))))] [(3, .pure (good3_0.map AV.int))] Y Y Y ?_
     have hz := some_elim H
     subst hz
     exact ⟨Y, Y⟩
    ·subst hy
     obtain ⟨rfl, rfl⟩ := hs
     refine thenQ2_goto ?_
     have hz := some_elim H
     subst hz
     exact ⟨Y, Y⟩
   ·replace H := ite_else h3 H
    refine as2 [(0, .p ((fun q : List GGrant => AV.lst (q.flatMap GGrant.cs) q.length) l0)), (3, .c (.own 3 good3_0.length 1))] [(3, .pure (good3_0.map AV.int))] Y Y Y ?_
    refine AW2_exit ?_
    refine thenQ2_exit ?_
    have hz := some_elim H
    subst hz
    exact ⟨Y, Y⟩
  ·rcases o'17 with y'18 | y'19
   ·obtain ⟨rfl, rfl⟩ := hs
    refine ⟨by simp, ?_⟩
    refine blockQ2_goto ?_
    refine thenQ2_goto ?_
    have hz := some_elim H
    subst hz
    exact ⟨Y, Y⟩
   ·obtain ⟨rfl, rfl⟩ := hs
    refine ⟨by simp, ?_⟩
    refine blockQ2_exit ?_
    refine sg [0] Y ?_
    refine rp Y Y (p_asgn Y) ?_
    refine rz [(0, .p ((fun q : List GGrant => AV.lst (q.flatMap GGrant.cs) q.length) l0)), (3, .c (.own 3 good3_0.length 1)), (8, .p .nil)] [(3, .pure (good3_0.map AV.int))] Y Y Y ?_
    refine AW2_seq ?_
    refine sg [0, 1, 2] Y ?_
    refine rp Y Y (p_move Y Y) ?_
    refine rp Y Y (p_lenl Y Tryd.underlying32 Y Y) ?_
    refine rp Y Y (p_move Y Y) ?_
    refine rz [(3, .c (.own 3 good3_0.length 1)), (8, .p .nil), (77, .p ((fun q : List GGrant => AV.lst (q.flatMap GGrant.cs) q.length) l0)), (78, .i (l0.length : Int)), (79, .i (0 : Int))] [(3, .pure (good3_0.map AV.int))] Y Y Y ?_
    refine AW2_block ?_
    refine as2 [(3, .c (.own 3 good3_0.length 1)), (8, .p .nil), (77, .p ((fun q : List GGrant => AV.lst (q.flatMap GGrant.cs) q.length) l0)), (78, .i (l0.length : Int)), (79, .i (0 : Int))] [(3, .pure (good3_0.map AV.int))] Y Y Y ?_
    refine AW2_gho (Gho_own (d := 8) (b := 8) (z := 5) Y Y Y Y) ?_
    refine AW2_st [(3, .c (.own 3 good3_0.length 1)), (8, .c (.own 8 ([] : List GGrant).length 5)), (77, .p ((fun q : List GGrant => AV.lst (q.flatMap GGrant.cs) q.length) l0)), (78, .i (l0.length : Int)), (79, .i (0 : Int))] [(3, .pure (good3_0.map AV.int)), (8, .pure (([] : List GGrant).flatMap GGrant.cs))] Y ⟨TLes.same _, TLes.own Y, TLes.same _, TLes.same _, TLes.same _, trivial⟩ ⟨Y, Y, trivial⟩ ?_
    refine bindK H fun y'24 h28 H => ?_
    refine AW2_loopO (fun a'21 : Int × (List GGrant) => (⟨[(3, .c (.own 3 good3_0.length 1)), (8, .c (.own 8 a'21.2.length 5)), (77, .p ((fun q : List GGrant => AV.lst (q.flatMap GGrant.cs) q.length) l0)), (78, .i (l0.length : Int)), (79, .i a'21.1)], [(3, .pure (good3_0.map AV.int)), (8, .pure (a'21.2.flatMap GGrant.cs))], 95⟩ : TS)) (fun (y'22 : ((List GGrant))) e s' => e = Go.Exit.exit 4 ∧ s' = (⟨[(8, .c (.own 8 y'22.length 5))], [(8, .pure (y'22.flatMap GGrant.cs))], 95⟩ : TS)) h28 Y (fun a x hx => ?_) (fun e s' hs => ?_)
    ·clear H
     obtain ⟨t79_3, out8_3⟩ := a
     have H := hx
     clear hx
     unfold g_right_held_l3 at H
     refine sg [0] Y ?_
     refine rp Y Y (p_bin Y Y Y Y) ?_
     refine rz [(3, .c (.own 3 good3_0.length 1)), (8, .c (.own 8 out8_3.length 5)), (77, .p ((fun q : List GGrant => AV.lst (q.flatMap GGrant.cs) q.length) l0)), (78, .i (l0.length : Int)), (79, .i t79_3), (80, .b (decide (t79_3 < (l0.length : Int))))] [(3, .pure (good3_0.map AV.int)), (8, .pure (out8_3.flatMap GGrant.cs))] Y Y Y ?_
     refine AW2_seq ?_
     refine AW2_if (p := t79_3 < (l0.length : Int)) Y (fun h22 => ?_) (fun h22 => ?_)
     ·replace H := ite_then h22 H
      refine as2 [(3, .c (.own 3 good3_0.length 1)), (8, .c (.own 8 out8_3.length 5)), (77, .p ((fun q : List GGrant => AV.lst (q.flatMap GGrant.cs) q.length) l0)), (78, .i (l0.length : Int)), (79, .i t79_3)] [(3, .pure (good3_0.map AV.int)), (8, .pure (out8_3.flatMap GGrant.cs))] Y Y Y ?_
      refine AW2_skip ?_
      refine AW2_seq ?_
      refine bindK H fun j'20 h23 H => ?_
      refine AW2_mid (⟨[(3, .c (.own 3 good3_0.length 1)), (8, .c (.own 8 j'20.length 5)), (77, .p ((fun q : List GGrant => AV.lst (q.flatMap GGrant.cs) q.length) l0)), (78, .i (l0.length : Int)), (79, .i t79_3)], [(3, .pure (good3_0.map AV.int)), (8, .pure (j'20.flatMap GGrant.cs))], 95⟩ : TS) ?_ ?_
      ·clear H
       have H := h23
       clear h23
       refine AW2_block ?_
       refine sg [0, 1, 2, 3, 4, 5] Y ?_
       refine rp Y Y (p_move Y Y) ?_
       refine chkK H fun h24 H => ?_
       refine rp Y Y (u_ixl Y Y Tryd.underlying32 in_47 Y Y (ixe h24) (ixn h24) (fne (fun x => (GGrant.len x)) (by decide) (ixn h24))) ?_
       refine rp Y Y (u_lda Y Y Tryd.underlying47 Y in_47 Y (Nat.succ_pos _) (Sub.fm default (fun x => (GGrant.len x)) (ixn h24)) (GGrant.len (lrd l0 t79_3.toNat))) ?_
       refine r_op Y Y (MakeD.opD (u_alloc 10 Y in_47 one_47 zc_47) Y Y Y Y) ?_
       refine rp Y Y (p_asg Y Y) ?_
       refine r_op Y Y (u_st Y Y Y Y Y in_47 (GGrant.len (lrd l0 t79_3.toNat)) (nl (GGrant.len GGrant.zero)) (Upd.refl ((GGrant.len (lrd l0 t79_3.toNat)).trans (GGrant.len GGrant.zero).symm))) ?_
       refine rz [(3, .c (.own 3 good3_0.length 1)), (8, .c (.own 8 out8_3.length 5)), (9, .i t79_3), (10, .q 10 (0)), (77, .p ((fun q : List GGrant => AV.lst (q.flatMap GGrant.cs) q.length) l0)), (78, .i (l0.length : Int)), (79, .i t79_3)] [(3, .pure (good3_0.map AV.int)), (8, .pure (out8_3.flatMap GGrant.cs)), (10, .pure (GGrant.cs (lrd l0 t79_3.toNat)))] Y Y Y ?_
       refine sg [0, 1, 2, 3, 4] Y ?_
       refine rp Y Y (p_move Y Y) ?_
       refine rp Y Y (p_move Y Y) ?_
       refine chkK H fun h25 H => ?_
       refine rp Y Y (u_ixo Y Y Tryd.underlying74 in_3 Y Y (lne (ixn h25)) Y (ixe h25) (ixn h25)) ?_
       refine rp Y Y (u_ld Y Y Tryd.underlying3 Y Y ((Sub.refl _).trans (Sub.map default (ixn h25)))) ?_
       refine rp Y Y (p_ieq Y Y Y) ?_
       refine rz [(3, .c (.own 3 good3_0.length 1)), (8, .c (.own 8 out8_3.length 5)), (10, .q 10 (0)), (77, .p ((fun q : List GGrant => AV.lst (q.flatMap GGrant.cs) q.length) l0)), (78, .i (l0.length : Int)), (79, .i t79_3), (88, .b (decide ((lrd good3_0 t79_3.toNat) = (1 : Int))))] [(3, .pure (good3_0.map AV.int)), (8, .pure (out8_3.flatMap GGrant.cs)), (10, .pure (GGrant.cs (lrd l0 t79_3.toNat)))] Y Y Y ?_
       refine AW2_if (p := (lrd good3_0 t79_3.toNat) = (1 : Int)) Y (fun h26 => ?_) (fun h26 => ?_)
       ·replace H := ite_then h26 H
        refine AW2_reg [0, 1, 2, 3, 4] Y ?_
        refine rp Y Y (p_move Y Y) ?_
        refine rp Y Y (u_lda Y Y Tryd.underlying47 Y in_47 Y (Nat.succ_pos _) (Sub.refl _) (GGrant.len (lrd l0 t79_3.toNat))) ?_
        refine r_op Y Y (MakeD.opD (u_bs 91 Y Tryd.underlying32 in_47 Y one_47 (by decide) (by decide) zc_47 Y (af_lit (g := GGrant.cs) (fun x => (GGrant.len x)) (GGrant.len GGrant.zero) [(lrd l0 t79_3.toNat)])) Y Y Y Y) ?_
        refine chkK H fun h27 H => ?_
        refine r_op Y Y (u_app [8, 89] Y Y Y Y Tryd.underlying32 Tryd.underlying32 in_47 Y Y Y (fm_length (fun x => (GGrant.len x)) out8_3) (by decide) (srcT_o Y Y (fm_length (fun x => (GGrant.len x)) ([(lrd l0 t79_3.toNat)] : List GGrant)) (by decide)) (fm_length (fun x => (GGrant.len x)) ([(lrd l0 t79_3.toNat)] : List GGrant)) h27 (by decide) Y Y (fapp GGrant.cs out8_3 ([(lrd l0 t79_3.toNat)] : List GGrant)) (lapp out8_3 ([(lrd l0 t79_3.toNat)] : List GGrant))) ?_
        refine rp Y Y (p_asg Y Y) ?_
        refine rz [(3, .c (.own 3 good3_0.length 1)), (8, .c (.own 8 (out8_3 ++ ([(lrd l0 t79_3.toNat)] : List GGrant)).length 5)), (77, .p ((fun q : List GGrant => AV.lst (q.flatMap GGrant.cs) q.length) l0)), (78, .i (l0.length : Int)), (79, .i t79_3)] [(3, .pure (good3_0.map AV.int)), (8, .pure ((out8_3 ++ ([(lrd l0 t79_3.toNat)] : List GGrant)).flatMap GGrant.cs))] Y Y Y ?_
        have hz := some_elim H
        subst hz
        exact rfl
       ·replace H := ite_else h26 H
        refine as2 [(3, .c (.own 3 good3_0.length 1)), (8, .c (.own 8 out8_3.length 5)), (77, .p ((fun q : List GGrant => AV.lst (q.flatMap GGrant.cs) q.length) l0)), (78, .i (l0.length : Int)), (79, .i t79_3)] [(3, .pure (good3_0.map AV.int)), (8, .pure (out8_3.flatMap GGrant.cs))] Y Y Y ?_
        refine AW2_skip ?_
        have hz := some_elim H
        subst hz
        exact rfl
      ·refine AW2_reg [0, 1] Y ?_
       refine rp Y Y (p_bin Y Y Y Y) ?_
       refine rp Y Y (p_move Y Y) ?_
       refine rz [(3, .c (.own 3 good3_0.length 1)), (8, .c (.own 8 j'20.length 5)), (77, .p ((fun q : List GGrant => AV.lst (q.flatMap GGrant.cs) q.length) l0)), (78, .i (l0.length : Int)), (79, .i (w64 (t79_3 + (1 : Int))))] [(3, .pure (good3_0.map AV.int)), (8, .pure (j'20.flatMap GGrant.cs))] Y Y Y ?_
       have hz := some_elim H
       subst hz
       exact ⟨Y, Y⟩
     ·replace H := ite_else h22 H
      refine as2 [(8, .c (.own 8 out8_3.length 5))] [(8, .pure (out8_3.flatMap GGrant.cs))] Y Y Y ?_
      refine AW2_exit ?_
      refine thenQ2_exit ?_
      have hz := some_elim H
      subst hz
      exact ⟨Y, Y⟩
    ·obtain ⟨rfl, rfl⟩ := hs
     refine ⟨by simp, ?_⟩
     refine blockQ2_exit ?_
     refine sg [0, 1] Y ?_
     refine rp Y Y (p_move Y Y) ?_
     refine rp Y Y (p_asg Y Y) ?_
     refine rs [(2, .c (.own 8 y'24.length 5))] [(8, .pure (y'24.flatMap GGrant.cs))] Y Y Y ?_
     refine RunW_gho (Gho_ren 8 2 Y Y Y Y Y) ?_
     refine rz [(2, .c (.own 2 y'24.length 5))] [(2, .pure (y'24.flatMap GGrant.cs))] Y Y Y ?_
     refine as2 [(2, .c (.own 2 y'24.length 5))] [(2, .pure (y'24.flatMap GGrant.cs))] Y Y Y ?_
     refine AW2_ret ?_
     have hz := some_elim H
     subst hz
     exact ⟨Y, ⟨res_tmp (.same _), trivial⟩, ⟨Y, trivial⟩⟩
 ·obtain ⟨rfl, hs⟩ := hs
  refine ⟨by simp, ?_⟩
  have hz := some_elim H
  subst hz
  exact ⟨hs.1, hs.2⟩
theorem g_right_held_ac {l0 : List GGrant} {r : (List GGrant)} (H : g_right_held l0 = some r) : ACp Tryd.prog 24 [((fun q : List GGrant => AV.lst (q.flatMap GGrant.cs) q.length) l0)] ((fun q : List GGrant => AV.lst (q.flatMap GGrant.cs) q.length) r) := ACp_pub (g_right_held_ac2 H) (fun _ _ hm => lent_own hm rfl (fm_length (fun x => (GGrant.len x)) r) (by decide))

/-! right.Check -/
def g_right_Check_r9 : List (List (Nat × Option Nat)) := [[(3, none)], [(21, some 0)], [(22, some 1)], [(0, none), (23, some 2)], [(3, none), (23, some 2)], [(23, some 2), (25, some 4)], [(23, some 2), (24, some 3), (26, some 5)], [(23, some 2), (27, some 6)], [(23, some 2), (28, some 7)], [(4, none), (23, some 2)]]
def g_right_Check_r9c : List (List Nat) := [[], [0], [0, 1], [0, 1, 2], [0, 1, 2], [0, 1, 2, 4], [0, 1, 2, 3, 4, 5], [0, 1, 2, 3, 4, 5, 6], [0, 1, 2, 3, 4, 5, 6, 7], [0, 1, 2], [0, 1, 2, 3, 4, 5, 6, 7, 8, 9], [0, 1, 2, 3, 4, 5, 6, 7, 8, 9, 10], [0, 1, 2, 3, 4, 5, 6, 7, 8, 9, 10, 11], [0, 1, 2, 3, 4, 5, 6, 7, 8, 9, 10, 11, 12]]
noncomputable def g_right_Check_l0 (l0 : List GGrant) : Int → Option (Int ⊕ (Int ⊕ Unit))
  | t11_0 => (if t11_0 < (l0.length : Int) then if 0 ≤ t11_0 ∧ t11_0 < (l0.length : Int) then (g_right_bounds (lrd l0 t11_0.toNat)).bind fun r'1 => (if r'1 ≠ (0 : Int) then some (.inr (.inl r'1)) else ((if t11_0 > (0 : Int) then if 0 ≤ w64 (t11_0 - (1 : Int)) ∧ w64 (t11_0 - (1 : Int)) < (l0.length : Int) then (g_right_placed (lrd l0 ((w64 (t11_0 - (1 : Int))).toNat))).bind fun r'2 => (g_right_placed (lrd l0 t11_0.toNat)).bind fun r'3 => (g_right_place_before r'2 r'3).bind fun r'4 => some (!r'4) else none else some false)).bind fun g'5 => (if g'5 = true then some (.inr (.inl (3 : Int))) else some (.inl (w64 (t11_0 + (1 : Int)))))) else none else some (.inr (.inr ())))
noncomputable def g_right_Check (l0 : List GGrant) : Option (Int) :=
  (if (l0.length : Int) > (96 : Int) then some (1 : Int) else (loopO (g_right_Check_l0 l0) (0 : Int)).bind fun o'9 => match o'9 with | .inl y'10 => some y'10 | .inr (y'11) => (g_right_held l0).bind fun r'12 => (if (r'12.length : Int) ≠ (l0.length : Int) then some (11 : Int) else some (0 : Int)))
set_option maxHeartbeats 4000000 in
set_option maxRecDepth 100000 in
theorem g_right_Check_ac {l0 : List GGrant} {r : Int} (H : g_right_Check l0 = some r) : ACp Tryd.prog 11 [((fun q : List GGrant => AV.lst (q.flatMap GGrant.cs) q.length) l0)] (AV.int r) := by
 refine ACp_of (AC2_of_body (vs := [.i r]) Tryd.func11 Y Y (Nat.le_of_ble_eq_true Y) Y ?_) (fun _ => .same _)
 unfold g_right_Check at H
 refine as2 [(0, .p ((fun q : List GGrant => AV.lst (q.flatMap GGrant.cs) q.length) l0))] [] Y Y Y ?_
 refine sg [0] Y ?_
 refine rp Y Y (p_asg Y Y) ?_
 refine rz [(0, .p ((fun q : List GGrant => AV.lst (q.flatMap GGrant.cs) q.length) l0))] [] Y Y Y ?_
 refine AW2_seq ?_
 refine sg [0, 1, 2] Y ?_
 refine rp Y Y (p_move Y Y) ?_
 refine rp Y Y (p_lenl Y Tryd.underlying32 Y Y) ?_
 refine rp Y Y (p_bin Y Y Y Y) ?_
 refine rz [(0, .p ((fun q : List GGrant => AV.lst (q.flatMap GGrant.cs) q.length) l0)), (8, .b (decide ((l0.length : Int) > (96 : Int))))] [] Y Y Y ?_
 refine AW2_if (p := (l0.length : Int) > (96 : Int)) Y (fun h1 => ?_) (fun h1 => ?_)
 ·replace H := ite_then h1 H
  refine sg [0] Y ?_
  refine rp Y Y (p_asg Y Y) ?_
  refine rz [(2, .i (1 : Int))] [] Y Y Y ?_
  refine AW2_ret ?_
  have hz := some_elim H
  subst hz
  exact ⟨⟨res_tmp (.same _), trivial⟩, trivial⟩
 ·replace H := ite_else h1 H
  refine as2 [(0, .p ((fun q : List GGrant => AV.lst (q.flatMap GGrant.cs) q.length) l0))] [] Y Y Y ?_
  refine AW2_skip ?_
  refine AW2_seq ?_
  refine sg [0, 1, 2] Y ?_
  refine rp Y Y (p_move Y Y) ?_
  refine rp Y Y (p_lenl Y Tryd.underlying32 Y Y) ?_
  refine rp Y Y (p_move Y Y) ?_
  refine rz [(0, .p ((fun q : List GGrant => AV.lst (q.flatMap GGrant.cs) q.length) l0)), (9, .p ((fun q : List GGrant => AV.lst (q.flatMap GGrant.cs) q.length) l0)), (10, .i (l0.length : Int)), (11, .i (0 : Int))] [] Y Y Y ?_
  refine AW2_block ?_
  refine as2 [(0, .p ((fun q : List GGrant => AV.lst (q.flatMap GGrant.cs) q.length) l0)), (9, .p ((fun q : List GGrant => AV.lst (q.flatMap GGrant.cs) q.length) l0)), (10, .i (l0.length : Int)), (11, .i (0 : Int))] [] Y Y Y ?_
  refine bindK H fun o'9 h13 H => ?_
  refine AW2_loopO (fun a'6 : Int => (⟨[(0, .p ((fun q : List GGrant => AV.lst (q.flatMap GGrant.cs) q.length) l0)), (9, .p ((fun q : List GGrant => AV.lst (q.flatMap GGrant.cs) q.length) l0)), (10, .i (l0.length : Int)), (11, .i a'6)], [], 42⟩ : TS)) (fun (o : Int ⊕ Unit) e s' => match o with | .inl y'7 => e = Go.Exit.ret ∧ ResAll Tryd.prog s' [ResultVar.tmp 2] [.i y'7] ∧ HFits s' [] | .inr (y'8) => e = Go.Exit.exit 0 ∧ s' = (⟨[(0, .p ((fun q : List GGrant => AV.lst (q.flatMap GGrant.cs) q.length) l0))], [], 42⟩ : TS)) h13 Y (fun t11_0 x hx => ?_) (fun e s' hs => ?_)
  ·clear H
   have H := hx
   clear hx
   unfold g_right_Check_l0 at H
   refine sg [0] Y ?_
   refine rp Y Y (p_bin Y Y Y Y) ?_
   refine rz [(0, .p ((fun q : List GGrant => AV.lst (q.flatMap GGrant.cs) q.length) l0)), (9, .p ((fun q : List GGrant => AV.lst (q.flatMap GGrant.cs) q.length) l0)), (10, .i (l0.length : Int)), (11, .i t11_0), (12, .b (decide (t11_0 < (l0.length : Int))))] [] Y Y Y ?_
   refine AW2_seq ?_
   refine AW2_if (p := t11_0 < (l0.length : Int)) Y (fun h2 => ?_) (fun h2 => ?_)
   ·replace H := ite_then h2 H
    refine as2 [(0, .p ((fun q : List GGrant => AV.lst (q.flatMap GGrant.cs) q.length) l0)), (9, .p ((fun q : List GGrant => AV.lst (q.flatMap GGrant.cs) q.length) l0)), (10, .i (l0.length : Int)), (11, .i t11_0)] [] Y Y Y ?_
    refine AW2_skip ?_
    refine AW2_seq ?_
    refine AW2_block ?_
    refine sg [0, 1, 2, 3, 4, 5] Y ?_
    refine rp Y Y (p_move Y Y) ?_
    refine chkK H fun h3 H => ?_
    refine rp Y Y (u_ixl Y Y Tryd.underlying32 in_47 Y Y (ixe h3) (ixn h3) (fne (fun x => (GGrant.len x)) (by decide) (ixn h3))) ?_
    refine rp Y Y (u_lda Y Y Tryd.underlying47 Y in_47 Y (Nat.succ_pos _) (Sub.fm default (fun x => (GGrant.len x)) (ixn h3)) (GGrant.len (lrd l0 t11_0.toNat))) ?_
    refine r_op Y Y (MakeD.opD (u_alloc 4 Y in_47 one_47 zc_47) Y Y Y Y) ?_
    refine rp Y Y (p_asg Y Y) ?_
    refine r_op Y Y (u_st Y Y Y Y Y in_47 (GGrant.len (lrd l0 t11_0.toNat)) (nl (GGrant.len GGrant.zero)) (Upd.refl ((GGrant.len (lrd l0 t11_0.toNat)).trans (GGrant.len GGrant.zero).symm))) ?_
    refine rz [(0, .p ((fun q : List GGrant => AV.lst (q.flatMap GGrant.cs) q.length) l0)), (3, .i t11_0), (4, .q 4 (0)), (9, .p ((fun q : List GGrant => AV.lst (q.flatMap GGrant.cs) q.length) l0)), (10, .i (l0.length : Int)), (11, .i t11_0)] [(4, .pure (GGrant.cs (lrd l0 t11_0.toNat)))] Y Y Y ?_
    refine AW2_seq ?_
    refine sg [0, 1, 2] Y ?_
    refine rp Y Y (u_lda Y Y Tryd.underlying47 Y in_47 Y (Nat.succ_pos _) (Sub.refl _) (GGrant.len (lrd l0 t11_0.toNat))) ?_
    refine bindK H fun r'1 h4 H => ?_
    refine rp Y Y (p_callp Y Y Y Tryd.func21 Y Y (g_right_bounds_ac h4) ⟨Y, trivial⟩) ?_
    refine rp Y Y (p_asg Y Y) ?_
    refine rz [(0, .p ((fun q : List GGrant => AV.lst (q.flatMap GGrant.cs) q.length) l0)), (3, .i t11_0), (4, .q 4 (0)), (5, .i r'1), (9, .p ((fun q : List GGrant => AV.lst (q.flatMap GGrant.cs) q.length) l0)), (10, .i (l0.length : Int)), (11, .i t11_0)] [(4, .pure (GGrant.cs (lrd l0 t11_0.toNat)))] Y Y Y ?_
    refine sg [0, 1] Y ?_
    refine rp Y Y (p_move Y Y) ?_
    refine rp Y Y (p_ine Y Y Y) ?_
    refine rz [(0, .p ((fun q : List GGrant => AV.lst (q.flatMap GGrant.cs) q.length) l0)), (3, .i t11_0), (4, .q 4 (0)), (5, .i r'1), (9, .p ((fun q : List GGrant => AV.lst (q.flatMap GGrant.cs) q.length) l0)), (10, .i (l0.length : Int)), (11, .i t11_0), (19, .b (decide (r'1 ≠ (0 : Int))))] [(4, .pure (GGrant.cs (lrd l0 t11_0.toNat)))] Y Y Y ?_
    refine AW2_if (p := r'1 ≠ (0 : Int)) Y (fun h5 => ?_) (fun h5 => ?_)
    ·replace H := ite_then h5 H
     refine sg [0, 1] Y ?_
     refine rp Y Y (p_move Y Y) ?_
     refine rp Y Y (p_asg Y Y) ?_
     refine rz [(2, .i r'1)] [] Y Y Y ?_
     refine AW2_ret ?_
     have hz := some_elim H
     subst hz
     exact ⟨Y, ⟨res_tmp (.same _), trivial⟩, trivial⟩
    ·replace H := ite_else h5 H
     refine as2 [(0, .p ((fun q : List GGrant => AV.lst (q.flatMap GGrant.cs) q.length) l0)), (3, .i t11_0), (4, .q 4 (0)), (9, .p ((fun q : List GGrant => AV.lst (q.flatMap GGrant.cs) q.length) l0)), (10, .i (l0.length : Int)), (11, .i t11_0)] [(4, .pure (GGrant.cs (lrd l0 t11_0.toNat)))] Y Y Y ?_
     refine AW2_skip ?_
     refine AW2_seq ?_
     refine bindK H fun g'5 h11 H => ?_
     refine AW2_mid (⟨[(0, .p ((fun q : List GGrant => AV.lst (q.flatMap GGrant.cs) q.length) l0)), (9, .p ((fun q : List GGrant => AV.lst (q.flatMap GGrant.cs) q.length) l0)), (10, .i (l0.length : Int)), (11, .i t11_0), (34, .b g'5)], [], 42⟩ : TS) ?_ ?_
     ·clear H
      have H := h11
      clear h11
      refine (Classical.em (t11_0 > (0 : Int))).elim (fun h6 => ?_) (fun h6 => ?_)
      ·replace H := ite_then h6 H
       refine chkK H fun h7 H => ?_
       refine bindK H fun r'2 h8 H => ?_
       refine bindK H fun r'3 h9 H => ?_
       refine bindK H fun r'4 h10 H => ?_
       have hz := some_elim H
       subst hz
       refine AW2_ghoQ ?_
       refine AW2_draw 10 [10, 11, 12, 13] (fun k => ([.i t11_0, .b (decide (t11_0 > (0 : Int))), .b (decide (t11_0 > (0 : Int))), .p ((fun q : List GGrant => AV.lst (q.flatMap GGrant.cs) q.length) l0), .i t11_0, .i (w64 (t11_0 - (1 : Int))), .p (.rptr (l0.flatMap GGrant.cs) (((w64 (t11_0 - (1 : Int))).toNat) * 5)), .g (GGrant.cs (lrd l0 ((w64 (t11_0 - (1 : Int))).toNat))), .g (Gright_place.cs r'2), .g (GGrant.cs (lrd l0 t11_0.toNat))] : List TV).getD k TV.any) (fun k => g_right_Check_r9.getD k []) [(0, none), (9, none), (10, none), (11, none), (23, some 2), (29, some 8), (30, some 9)] [] (fun k => g_right_Check_r9c.getD k []) mixed (by kernel_rfl) Y Y (a_op (g_x Y (x_p Y (p_move Y Y) Y)) (a_op (g_x Y (x_p Y (p_bin Y Y Y Y) Y)) (a_op (g_x Y (x_p Y (p_move Y Y) Y)) (a_op (g_on Y Y Y (dT h6) Y (x_p Y (p_move Y Y) Y)) (a_op (g_on Y Y Y (dT h6) Y (x_p Y (p_move Y Y) Y)) (a_op (g_on Y Y Y (dT h6) Y (x_p Y (p_bin Y Y Y Y) Y)) (a_op (g_on Y Y Y (dT h6) Y (x_p Y (u_ixl Y Y Tryd.underlying32 in_47 Y Y (ixe h7) (ixn h7) (fne (fun x => (GGrant.len x)) (by decide) (ixn h7))) Y)) (a_op (g_on Y Y Y (dT h6) Y (x_p Y (u_lda Y Y Tryd.underlying47 Y in_47 Y (Nat.succ_pos _) (Sub.fm default (fun x => (GGrant.len x)) (ixn h7)) (GGrant.len (lrd l0 ((w64 (t11_0 - (1 : Int))).toNat)))) Y)) (a_op (g_on Y Y Y (dT h6) Y (x_p Y (p_callp Y Y Y Tryd.func22 Y Y (g_right_placed_ac h8) ⟨Y, trivial⟩) Y)) (a_op (g_on Y Y Y (dT h6) Y (x_p Y (u_lda Y Y Tryd.underlying47 Y in_47 Y (Nat.succ_pos _) (Sub.refl _) (GGrant.len (lrd l0 t11_0.toNat))) Y)) (a_nil))))))))))) ?_
       refine t_on Y Y Y Y (dT h6) Y (PureD.opD (p_callp Y Y Y Tryd.func22 Y Y (g_right_placed_ac h9) ⟨Y, trivial⟩)) ?_
       refine t_on Y Y Y Y (dT h6) Y (PureD.opD (p_callp Y Y Y Tryd.func23 Y Y (g_right_place_before_ac h10) ⟨Y, Y, trivial⟩)) ?_
       refine t_on Y Y Y Y (dT h6) Y (PureD.opD (p_not Y Y)) ?_
       refine t_op Y Y (PureD.opD (p_pkt Y Y (dT h6) (.same _))) ?_
       refine t_gho (Gho_st (L := [(0, .p ((fun q : List GGrant => AV.lst (q.flatMap GGrant.cs) q.length) l0)), (9, .p ((fun q : List GGrant => AV.lst (q.flatMap GGrant.cs) q.length) l0)), (10, .i (l0.length : Int)), (11, .i t11_0), (34, .b (!r'4))]) (H := []) (N := 42) Y ⟨TLes.same _, TLes.same _, TLes.same _, TLes.same _, TLes.same _, trivial⟩ trivial) ?_
       exact rfl
      ·replace H := ite_else h6 H
       have hz := some_elim H
       subst hz
       refine AW2_ghoQ ?_
       refine AW2_draw 10 [10, 11, 12, 13] (fun k => ([.i t11_0, .b (decide (t11_0 > (0 : Int))), .b (decide (t11_0 > (0 : Int))), .p (.tup []), .p (.tup []), .p (.tup []), .p (.tup []), .p (.tup []), .p (.tup []), .p (.tup [])] : List TV).getD k TV.any) (fun k => g_right_Check_r9.getD k []) [(0, none), (9, none), (10, none), (11, none), (23, some 2), (29, some 8), (30, some 9)] [] (fun k => g_right_Check_r9c.getD k []) mixed (by kernel_rfl) Y Y (a_op (g_x Y (x_p Y (p_move Y Y) Y)) (a_op (g_x Y (x_p Y (p_bin Y Y Y Y) Y)) (a_op (g_x Y (x_p Y (p_move Y Y) Y)) (a_op (g_off Y Y Y Y Y (dF h6) Y Y) (a_op (g_off Y Y Y Y Y (dF h6) Y Y) (a_op (g_off Y Y Y Y Y (dF h6) Y Y) (a_op (g_off Y Y Y Y Y (dF h6) Y Y) (a_op (g_off Y Y Y Y Y (dF h6) Y Y) (a_op (g_off Y Y Y Y Y (dF h6) Y Y) (a_op (g_off Y Y Y Y Y (dF h6) Y Y) (a_nil))))))))))) ?_
       refine t_off Y Y Y Y (dF h6) Y Y ?_
       refine t_off Y Y Y Y (dF h6) Y Y ?_
       refine t_off Y Y Y Y (dF h6) Y Y ?_
       refine t_op Y Y (PureD.opD (p_pkf Y Y (dF h6) (.same _))) ?_
       refine t_gho (Gho_st (L := [(0, .p ((fun q : List GGrant => AV.lst (q.flatMap GGrant.cs) q.length) l0)), (9, .p ((fun q : List GGrant => AV.lst (q.flatMap GGrant.cs) q.length) l0)), (10, .i (l0.length : Int)), (11, .i t11_0), (34, .b false)]) (H := []) (N := 42) Y ⟨TLes.same _, TLes.same _, TLes.same _, TLes.same _, TLes.same _, trivial⟩ trivial) ?_
       exact rfl
     ·refine AW2_cond Y (fun h12 => ?_) (fun h12 => ?_)
      ·replace H := ite_then h12 H
       refine sg [0] Y ?_
       refine rp Y Y (p_asg Y Y) ?_
       refine rz [(2, .i (3 : Int))] [] Y Y Y ?_
       refine AW2_ret ?_
       have hz := some_elim H
       subst hz
       exact ⟨Y, ⟨res_tmp (.same _), trivial⟩, trivial⟩
      ·replace H := ite_else (ne_true h12) H
       refine as2 [(0, .p ((fun q : List GGrant => AV.lst (q.flatMap GGrant.cs) q.length) l0)), (9, .p ((fun q : List GGrant => AV.lst (q.flatMap GGrant.cs) q.length) l0)), (10, .i (l0.length : Int)), (11, .i t11_0)] [] Y Y Y ?_
       refine AW2_skip ?_
       refine AW2_reg [0, 1] Y ?_
       refine rp Y Y (p_bin Y Y Y Y) ?_
       refine rp Y Y (p_move Y Y) ?_
       refine rz [(0, .p ((fun q : List GGrant => AV.lst (q.flatMap GGrant.cs) q.length) l0)), (9, .p ((fun q : List GGrant => AV.lst (q.flatMap GGrant.cs) q.length) l0)), (10, .i (l0.length : Int)), (11, .i (w64 (t11_0 + (1 : Int))))] [] Y Y Y ?_
       have hz := some_elim H
       subst hz
       exact ⟨Y, Y⟩
   ·replace H := ite_else h2 H
    refine as2 [(0, .p ((fun q : List GGrant => AV.lst (q.flatMap GGrant.cs) q.length) l0))] [] Y Y Y ?_
    refine AW2_exit ?_
    refine thenQ2_exit ?_
    have hz := some_elim H
    subst hz
    exact ⟨Y, Y⟩
  ·rcases o'9 with y'10 | y'11
   ·obtain ⟨rfl, hs⟩ := hs
    refine ⟨by simp, ?_⟩
    have hz := some_elim H
    subst hz
    exact ⟨hs.1, hs.2⟩
   ·obtain ⟨rfl, rfl⟩ := hs
    refine ⟨by simp, ?_⟩
    refine blockQ2_exit ?_
    refine AW2_seq ?_
    refine sg [0, 1, 2, 3, 4, 5] Y ?_
    refine rp Y Y (p_move Y Y) ?_
    refine bindK H fun r'12 h14 H => ?_
    refine rp Y Y (p_callp Y Y Y Tryd.func24 Y Y (g_right_held_ac h14) ⟨Y, trivial⟩) ?_
    refine rp Y Y (p_lenl Y Tryd.underlying32 Y Y) ?_
    refine rp Y Y (p_move Y Y) ?_
    refine rp Y Y (p_lenl Y Tryd.underlying32 Y Y) ?_
    refine rp Y Y (p_ine Y Y Y) ?_
    refine rz [(41, .b (decide ((r'12.length : Int) ≠ (l0.length : Int))))] [] Y Y Y ?_
    refine AW2_if (p := (r'12.length : Int) ≠ (l0.length : Int)) Y (fun h15 => ?_) (fun h15 => ?_)
    ·replace H := ite_then h15 H
     refine sg [0] Y ?_
     refine rp Y Y (p_asg Y Y) ?_
     refine rz [(2, .i (11 : Int))] [] Y Y Y ?_
     refine AW2_ret ?_
     have hz := some_elim H
     subst hz
     exact ⟨⟨res_tmp (.same _), trivial⟩, trivial⟩
    ·replace H := ite_else h15 H
     refine as2 [] [] Y Y Y ?_
     refine AW2_skip ?_
     refine sg [0] Y ?_
     refine rp Y Y (p_asg Y Y) ?_
     refine rz [(2, .i (0 : Int))] [] Y Y Y ?_
     refine AW2_ret ?_
     have hz := some_elim H
     subst hz
     exact ⟨⟨res_tmp (.same _), trivial⟩, trivial⟩

/-! deed.Check -/
noncomputable def g_deed_Check_l2 (s0 : GState) (t16_0 : Int) (t20_1 : Int) : Int → Option (Int ⊕ (Int ⊕ Unit))
  | t44_2 => (if t44_2 < (t20_1.toNat : Int) then if 0 ≤ t44_2 ∧ t44_2 < (t20_1.toNat : Int) then letO (decide (((((vrd (vrd s0.Tables t16_0.toNat) t20_1.toNat).There) = true) ∧ (((vrd (vrd s0.Tables t16_0.toNat) t44_2.toNat).There) = true)) ∧ ((vrd (vrd s0.Tables t16_0.toNat) t44_2.toNat).Name = (vrd (vrd s0.Tables t16_0.toNat) t20_1.toNat).Name))) fun t60'6 => (if t60'6 = true then some (.inr (.inl (11 : Int))) else some (.inl (w64 (t44_2 + (1 : Int))))) else none else some (.inr (.inr ())))
noncomputable def g_deed_Check_l1 (s0 : GState) (t16_0 : Int) : Int → Option (Int ⊕ (Int ⊕ Unit))
  | t20_1 => (if t20_1 < (2 : Int) then if 0 ≤ t20_1 ∧ t20_1 < (2 : Int) then ((if ((vrd (vrd s0.Tables t16_0.toNat) t20_1.toNat).There) = true then (g_table_Check (vrd (vrd s0.Tables t16_0.toNat) t20_1.toNat)).bind fun r'2 => (if r'2 ≠ (0 : Int) then some true else (if (!((vrd (vrd s0.Tables t16_0.toNat) t20_1.toNat).There)) = true then (g_deed_blank (vrd (vrd s0.Tables t16_0.toNat) t20_1.toNat)).bind fun r'3 => some (!r'3) else some false)) else (if (!((vrd (vrd s0.Tables t16_0.toNat) t20_1.toNat).There)) = true then (g_deed_blank (vrd (vrd s0.Tables t16_0.toNat) t20_1.toNat)).bind fun r'4 => some (!r'4) else some false))).bind fun g'5 => (if g'5 = true then some (.inr (.inl (11 : Int))) else if 0 ≤ t20_1 ∧ t20_1 ≤ (2 : Int) then (loopO (g_deed_Check_l2 s0 t16_0 t20_1) (0 : Int)).bind fun o'10 => match o'10 with | .inl y'11 => some (.inr (.inl y'11)) | .inr (y'12) => some (.inl (w64 (t20_1 + (1 : Int)))) else none) else none else some (.inr (.inr ())))
noncomputable def g_deed_Check_l0 (s0 : GState) : Int → Option (Int ⊕ (Int ⊕ Unit))
  | t16_0 => (if t16_0 < (3 : Int) then if 0 ≤ t16_0 ∧ t16_0 < (3 : Int) then (loopO (g_deed_Check_l1 s0 t16_0) (0 : Int)).bind fun o'16 => match o'16 with | .inl y'17 => some (.inr (.inl y'17)) | .inr (y'18) => some (.inl (w64 (t16_0 + (1 : Int)))) else none else some (.inr (.inr ())))
noncomputable def g_deed_Check_l3 (s0 : GState) : Int → Option (Int ⊕ (Int ⊕ Unit))
  | t71_3 => (if t71_3 < (s0.Grants.length : Int) then if 0 ≤ t71_3 ∧ t71_3 < (s0.Grants.length : Int) then if 0 ≤ w64 ((w64 (((lrd s0.Grants t71_3.toNat).Object).tdiv (2 : Int))).tdiv (2 : Int)) ∧ w64 ((w64 (((lrd s0.Grants t71_3.toNat).Object).tdiv (2 : Int))).tdiv (2 : Int)) < (3 : Int) then if 0 ≤ (w64 (((lrd s0.Grants t71_3.toNat).Object).tdiv (2 : Int))).tmod (2 : Int) ∧ (w64 (((lrd s0.Grants t71_3.toNat).Object).tdiv (2 : Int))).tmod (2 : Int) < (2 : Int) then letO (!((vrd (vrd s0.Tables ((w64 ((w64 (((lrd s0.Grants t71_3.toNat).Object).tdiv (2 : Int))).tdiv (2 : Int))).toNat)) (((w64 (((lrd s0.Grants t71_3.toNat).Object).tdiv (2 : Int))).tmod (2 : Int)).toNat)).There)) fun t87'26 => (if t87'26 = true then some (.inr (.inl (11 : Int))) else some (.inl (w64 (t71_3 + (1 : Int))))) else none else none else none else some (.inr (.inr ())))
noncomputable def g_deed_Check_l4 (s0 : GState) : Int → Option (Int ⊕ (Int ⊕ Unit))
  | t91_4 => (if t91_4 < (3 : Int) then if 0 ≤ t91_4 ∧ t91_4 < (3 : Int) then (if ((vrd s0.Asked t91_4.toNat) < (0 : Int)) ∨ ((vrd s0.Asked t91_4.toNat) > (12 : Int)) then some (.inr (.inl (11 : Int))) else some (.inl (w64 (t91_4 + (1 : Int))))) else none else some (.inr (.inr ())))
noncomputable def g_deed_Check (s0 : GState) : Option (Int) :=
  (loopO (g_deed_Check_l0 s0) (0 : Int)).bind fun o'22 => match o'22 with | .inl y'23 => some y'23 | .inr (y'24) => (g_right_Check s0.Grants).bind fun r'25 => (if r'25 ≠ (0 : Int) then some (11 : Int) else (loopO (g_deed_Check_l3 s0) (0 : Int)).bind fun o'30 => match o'30 with | .inl y'31 => some y'31 | .inr (y'32) => (loopO (g_deed_Check_l4 s0) (0 : Int)).bind fun o'36 => match o'36 with | .inl y'37 => some y'37 | .inr (y'38) => some (0 : Int))
set_option maxHeartbeats 4000000 in
set_option maxRecDepth 100000 in
theorem g_deed_Check_ac {s0 : GState} {r : Int} (H : g_deed_Check s0 = some r) : ACp Tryd.prog 5 [(.agg (GState.cs s0))] (AV.int r) := by
 refine ACp_of (AC2_of_body (vs := [.i r]) Tryd.func5 Y Y (Nat.le_of_ble_eq_true Y) Y ?_) (fun _ => .same _)
 unfold g_deed_Check at H
 refine as2 [(0, .g (GState.cs s0))] [] Y Y Y ?_
 refine sg [0, 1] Y ?_
 refine r_op Y Y (MakeD.opD (n_box 1 Y Y) Y Y Y Y) ?_
 refine rp Y Y (p_asg Y Y) ?_
 refine rz [(1, .q 1 (0))] [(1, .pure (GState.cs s0))] Y Y Y ?_
 refine AW2_seq ?_
 refine sg [0, 1, 2] Y ?_
 refine rp Y Y (u_fa Y Y Tryd.underlying35 Y in_31 nz Y Y (nl (GState.len s0))) ?_
 refine rp Y Y (u_lda Y Y Tryd.underlying31 Y in_31 Y (Nat.succ_pos _) ((Sub.refl _).trans (GState.sub0 s0)) (vfm_len (fun x => (vfm_len (fun x => (GTable.len x)) x)) s0.Tables)) ?_
 refine rp Y Y (p_move Y Y) ?_
 refine rz [(1, .q 1 (0)), (15, .g (s0.Tables.toList.flatMap (fun v : Vector GTable 2 => v.toList.flatMap GTable.cs))), (16, .i (0 : Int))] [(1, .pure (GState.cs s0))] Y Y Y ?_
 refine AW2_block ?_
 refine as2 [(1, .q 1 (0)), (15, .g (s0.Tables.toList.flatMap (fun v : Vector GTable 2 => v.toList.flatMap GTable.cs))), (16, .i (0 : Int))] [(1, .pure (GState.cs s0))] Y Y Y ?_
 refine bindK H fun o'22 h24 H => ?_
 refine AW2_loopO (fun a'19 : Int => (⟨[(1, .q 1 (0)), (15, .g (s0.Tables.toList.flatMap (fun v : Vector GTable 2 => v.toList.flatMap GTable.cs))), (16, .i a'19)], [(1, .pure (GState.cs s0))], 101⟩ : TS)) (fun (o : Int ⊕ Unit) e s' => match o with | .inl y'20 => e = Go.Exit.ret ∧ ResAll Tryd.prog s' [ResultVar.tmp 2] [.i y'20] ∧ HFits s' [] | .inr (y'21) => e = Go.Exit.exit 0 ∧ s' = (⟨[(1, .q 1 (0))], [(1, .pure (GState.cs s0))], 101⟩ : TS)) h24 Y (fun t16_0 x hx => ?_) (fun e s' hs => ?_)
 ·clear H
  have H := hx
  clear hx
  unfold g_deed_Check_l0 at H
  refine sg [0] Y ?_
  refine rp Y Y (p_bin Y Y Y Y) ?_
  refine rz [(1, .q 1 (0)), (15, .g (s0.Tables.toList.flatMap (fun v : Vector GTable 2 => v.toList.flatMap GTable.cs))), (16, .i t16_0), (17, .b (decide (t16_0 < (3 : Int))))] [(1, .pure (GState.cs s0))] Y Y Y ?_
  refine AW2_seq ?_
  refine AW2_if (p := t16_0 < (3 : Int)) Y (fun h1 => ?_) (fun h1 => ?_)
  ·replace H := ite_then h1 H
   refine as2 [(1, .q 1 (0)), (15, .g (s0.Tables.toList.flatMap (fun v : Vector GTable 2 => v.toList.flatMap GTable.cs))), (16, .i t16_0)] [(1, .pure (GState.cs s0))] Y Y Y ?_
   refine AW2_skip ?_
   refine AW2_seq ?_
   refine AW2_block ?_
   refine sg [0, 1, 2] Y ?_
   refine chkK H fun h2 H => ?_
   refine rp Y Y (u_ixaa Y Y Tryd.underlying31 in_30 Tryd.underlying30 Y Y Y (ixe h2) (ixn h2) (Sub.vfm (fun x => (vfm_len (fun x => (GTable.len x)) x)) (ixn h2)) (vfm_len (fun x => (GTable.len x)) (vrd s0.Tables t16_0.toNat))) ?_
   refine r_op Y Y (MakeD.opD (u_alloc 4 Y in_30 one_30 zc_30) Y Y Y Y) ?_
   refine r_op Y Y (u_st Y Y Y Y Y in_30 (vfm_len (fun x => (GTable.len x)) (vrd s0.Tables t16_0.toNat)) (nl (vfm_len (fun x => (GTable.len x)) (Vector.replicate 2 GTable.zero))) (Upd.refl ((vfm_len (fun x => (GTable.len x)) (vrd s0.Tables t16_0.toNat)).trans (vfm_len (fun x => (GTable.len x)) (Vector.replicate 2 GTable.zero)).symm))) ?_
   refine rz [(1, .q 1 (0)), (4, .q 4 (0)), (15, .g (s0.Tables.toList.flatMap (fun v : Vector GTable 2 => v.toList.flatMap GTable.cs))), (16, .i t16_0)] [(1, .pure (GState.cs s0)), (4, .pure (((vrd s0.Tables t16_0.toNat).toList).flatMap GTable.cs))] Y Y Y ?_
   refine sg [0, 1] Y ?_
   refine rp Y Y (u_lda Y Y Tryd.underlying30 Y in_30 Y (Nat.succ_pos _) (Sub.refl _) (vfm_len (fun x => (GTable.len x)) (vrd s0.Tables t16_0.toNat))) ?_
   refine rp Y Y (p_move Y Y) ?_
   refine rz [(1, .q 1 (0)), (4, .q 4 (0)), (15, .g (s0.Tables.toList.flatMap (fun v : Vector GTable 2 => v.toList.flatMap GTable.cs))), (16, .i t16_0), (19, .g (((vrd s0.Tables t16_0.toNat).toList).flatMap GTable.cs)), (20, .i (0 : Int))] [(1, .pure (GState.cs s0)), (4, .pure (((vrd s0.Tables t16_0.toNat).toList).flatMap GTable.cs))] Y Y Y ?_
   refine AW2_block ?_
   refine as2 [(1, .q 1 (0)), (4, .q 4 (0)), (15, .g (s0.Tables.toList.flatMap (fun v : Vector GTable 2 => v.toList.flatMap GTable.cs))), (16, .i t16_0), (19, .g (((vrd s0.Tables t16_0.toNat).toList).flatMap GTable.cs)), (20, .i (0 : Int))] [(1, .pure (GState.cs s0)), (4, .pure (((vrd s0.Tables t16_0.toNat).toList).flatMap GTable.cs))] Y Y Y ?_
   refine bindK H fun o'16 h23 H => ?_
   refine AW2_loopO (fun a'13 : Int => (⟨[(1, .q 1 (0)), (4, .q 4 (0)), (15, .g (s0.Tables.toList.flatMap (fun v : Vector GTable 2 => v.toList.flatMap GTable.cs))), (16, .i t16_0), (19, .g (((vrd s0.Tables t16_0.toNat).toList).flatMap GTable.cs)), (20, .i a'13)], [(1, .pure (GState.cs s0)), (4, .pure (((vrd s0.Tables t16_0.toNat).toList).flatMap GTable.cs))], 101⟩ : TS)) (fun (o : Int ⊕ Unit) e s' => match o with | .inl y'14 => e = Go.Exit.ret ∧ ResAll Tryd.prog s' [ResultVar.tmp 2] [.i y'14] ∧ HFits s' [] | .inr (y'15) => e = Go.Exit.exit 2 ∧ s' = (⟨[(1, .q 1 (0)), (15, .g (s0.Tables.toList.flatMap (fun v : Vector GTable 2 => v.toList.flatMap GTable.cs))), (16, .i t16_0)], [(1, .pure (GState.cs s0))], 101⟩ : TS)) h23 Y (fun t20_1 x hx => ?_) (fun e s' hs => ?_)
   ·clear H
    have H := hx
    clear hx
    unfold g_deed_Check_l1 at H
    refine sg [0] Y ?_
    refine rp Y Y (p_bin Y Y Y Y) ?_
    refine rz [(1, .q 1 (0)), (4, .q 4 (0)), (15, .g (s0.Tables.toList.flatMap (fun v : Vector GTable 2 => v.toList.flatMap GTable.cs))), (16, .i t16_0), (19, .g (((vrd s0.Tables t16_0.toNat).toList).flatMap GTable.cs)), (20, .i t20_1), (21, .b (decide (t20_1 < (2 : Int))))] [(1, .pure (GState.cs s0)), (4, .pure (((vrd s0.Tables t16_0.toNat).toList).flatMap GTable.cs))] Y Y Y ?_
    refine AW2_seq ?_
    refine AW2_if (p := t20_1 < (2 : Int)) Y (fun h3 => ?_) (fun h3 => ?_)
    ·replace H := ite_then h3 H
     refine as2 [(1, .q 1 (0)), (4, .q 4 (0)), (15, .g (s0.Tables.toList.flatMap (fun v : Vector GTable 2 => v.toList.flatMap GTable.cs))), (16, .i t16_0), (19, .g (((vrd s0.Tables t16_0.toNat).toList).flatMap GTable.cs)), (20, .i t20_1)] [(1, .pure (GState.cs s0)), (4, .pure (((vrd s0.Tables t16_0.toNat).toList).flatMap GTable.cs))] Y Y Y ?_
     refine AW2_skip ?_
     refine AW2_seq ?_
     refine AW2_block ?_
     refine sg [0, 1, 2, 3, 4] Y ?_
     refine rp Y Y (p_move Y Y) ?_
     refine chkK H fun h4 H => ?_
     refine rp Y Y (u_ixaa Y Y Tryd.underlying30 in_29 Tryd.underlying29 Y Y Y (ixe h4) (ixn h4) (Sub.vfm (fun x => (GTable.len x)) (ixn h4)) (GTable.len (vrd (vrd s0.Tables t16_0.toNat) t20_1.toNat))) ?_
     refine r_op Y Y (MakeD.opD (u_alloc 6 Y in_29 one_29 zc_29) Y Y Y Y) ?_
     refine rp Y Y (p_asg Y Y) ?_
     refine r_op Y Y (u_st Y Y Y Y Y in_29 (GTable.len (vrd (vrd s0.Tables t16_0.toNat) t20_1.toNat)) (nl (GTable.len GTable.zero)) (Upd.refl ((GTable.len (vrd (vrd s0.Tables t16_0.toNat) t20_1.toNat)).trans (GTable.len GTable.zero).symm))) ?_
     refine rz [(1, .q 1 (0)), (4, .q 4 (0)), (5, .i t20_1), (6, .q 6 (0)), (15, .g (s0.Tables.toList.flatMap (fun v : Vector GTable 2 => v.toList.flatMap GTable.cs))), (16, .i t16_0), (19, .g (((vrd s0.Tables t16_0.toNat).toList).flatMap GTable.cs)), (20, .i t20_1)] [(1, .pure (GState.cs s0)), (4, .pure (((vrd s0.Tables t16_0.toNat).toList).flatMap GTable.cs)), (6, .pure (GTable.cs (vrd (vrd s0.Tables t16_0.toNat) t20_1.toNat)))] Y Y Y ?_
     refine AW2_seq ?_
     refine AW2_seq ?_
     refine bindK H fun g'5 h13 H => ?_
     refine AW2_mid (⟨[(1, .q 1 (0)), (4, .q 4 (0)), (5, .i t20_1), (6, .q 6 (0)), (15, .g (s0.Tables.toList.flatMap (fun v : Vector GTable 2 => v.toList.flatMap GTable.cs))), (16, .i t16_0), (19, .g (((vrd s0.Tables t16_0.toNat).toList).flatMap GTable.cs)), (20, .i t20_1), (40, .b g'5)], [(1, .pure (GState.cs s0)), (4, .pure (((vrd s0.Tables t16_0.toNat).toList).flatMap GTable.cs)), (6, .pure (GTable.cs (vrd (vrd s0.Tables t16_0.toNat) t20_1.toNat)))], 101⟩ : TS) ?_ ?_
     ·clear H
      have H := h13
      clear h13
      refine AW2_reg [0, 1, 2, 3, 4, 5, 6, 7, 8, 9, 10, 11, 12, 13, 14, 15, 16] Y ?_
      refine rp Y Y (u_fa Y Y Tryd.underlying29 Y in_4 nz Y Y (nl (GTable.len (vrd (vrd s0.Tables t16_0.toNat) t20_1.toNat)))) ?_
      refine rp Y Y (u_ld Y Y Tryd.underlying4 Y Y ((Sub.refl _).trans (GTable.sub0 (vrd (vrd s0.Tables t16_0.toNat) t20_1.toNat)))) ?_
      refine rp Y Y (p_move Y Y) ?_
      refine (Classical.em (((vrd (vrd s0.Tables t16_0.toNat) t20_1.toNat).There) = true)).elim (fun h6 => ?_) (fun h6 => ?_)
      ·replace H := ite_then h6 H
       refine rn Y Y Y Y h6 Y (u_lda Y Y Tryd.underlying29 Y in_29 Y (Nat.succ_pos _) (Sub.refl _) (GTable.len (vrd (vrd s0.Tables t16_0.toNat) t20_1.toNat))) ?_
       refine bindK H fun r'2 h7 H => ?_
       refine rn Y Y Y Y h6 Y (p_callp Y Y Y Tryd.func9 Y Y (g_table_Check_ac h7) ⟨Y, trivial⟩) ?_
       refine rn Y Y Y Y h6 Y (p_ine Y Y Y) ?_
       refine rp Y Y (p_pkt Y Y h6 (.same _)) ?_
       refine rp Y Y (p_move Y Y) ?_
       refine (Classical.em (r'2 ≠ (0 : Int))).elim (fun h8 => ?_) (fun h8 => ?_)
       ·replace H := ite_then h8 H
        iterate 4 (refine r_off rfl rfl rfl rfl (dT h8) rfl rfl ?_)
        iterate 3 (refine r_off2 rfl rfl rfl rfl rfl rfl ?_)
        refine r_off Y Y Y Y (dT h8) Y Y ?_
        refine rp Y Y (p_pkt Y Y (dT h8) (.same _)) ?_
        refine rs [(1, .q 1 (0)), (4, .q 4 (0)), (5, .i t20_1), (6, .q 6 (0)), (15, .g (s0.Tables.toList.flatMap (fun v : Vector GTable 2 => v.toList.flatMap GTable.cs))), (16, .i t16_0), (19, .g (((vrd s0.Tables t16_0.toNat).toList).flatMap GTable.cs)), (20, .i t20_1), (40, .b true)] [(1, .pure (GState.cs s0)), (4, .pure (((vrd s0.Tables t16_0.toNat).toList).flatMap GTable.cs)), (6, .pure (GTable.cs (vrd (vrd s0.Tables t16_0.toNat) t20_1.toNat)))] Y Y Y ?_
        have hz := some_elim H
        subst hz
        exact RunW_nil rfl
       ·replace H := ite_else h8 H
        refine r_on Y Y Y Y (dF h8) Y (PureD.opD (u_fa Y Y Tryd.underlying29 Y in_4 nz Y Y (nl (GTable.len (vrd (vrd s0.Tables t16_0.toNat) t20_1.toNat))))) ?_
        refine r_on Y Y Y Y (dF h8) Y (PureD.opD (u_ld Y Y Tryd.underlying4 Y Y ((Sub.refl _).trans (GTable.sub0 (vrd (vrd s0.Tables t16_0.toNat) t20_1.toNat))))) ?_
        refine r_on Y Y Y Y (dF h8) Y (PureD.opD (p_not Y Y)) ?_
        refine r_on Y Y Y Y (dF h8) Y (PureD.opD (p_move Y Y)) ?_
        refine (Classical.em ((!((vrd (vrd s0.Tables t16_0.toNat) t20_1.toNat).There)) = true)).elim (fun h9 => ?_) (fun h9 => ?_)
        ·replace H := ite_then h9 H
         refine rn Y Y Y Y h9 Y (u_lda Y Y Tryd.underlying29 Y in_29 Y (Nat.succ_pos _) (Sub.refl _) (GTable.len (vrd (vrd s0.Tables t16_0.toNat) t20_1.toNat))) ?_
         refine bindK H fun r'3 h10 H => ?_
         refine rn Y Y Y Y h9 Y (p_callp Y Y Y Tryd.func10 Y Y (g_deed_blank_ac h10) ⟨Y, trivial⟩) ?_
         refine rn Y Y Y Y h9 Y (p_not Y Y) ?_
         refine r_on Y Y Y Y (dF h8) Y (PureD.opD (p_pkt Y Y h9 (.same _))) ?_
         refine rp Y Y (p_pkf Y Y (dF h8) (.same _)) ?_
         refine rs [(1, .q 1 (0)), (4, .q 4 (0)), (5, .i t20_1), (6, .q 6 (0)), (15, .g (s0.Tables.toList.flatMap (fun v : Vector GTable 2 => v.toList.flatMap GTable.cs))), (16, .i t16_0), (19, .g (((vrd s0.Tables t16_0.toNat).toList).flatMap GTable.cs)), (20, .i t20_1), (40, .b (!r'3))] [(1, .pure (GState.cs s0)), (4, .pure (((vrd s0.Tables t16_0.toNat).toList).flatMap GTable.cs)), (6, .pure (GTable.cs (vrd (vrd s0.Tables t16_0.toNat) t20_1.toNat)))] Y Y Y ?_
         have hz := some_elim H
         subst hz
         exact RunW_nil rfl
        ·replace H := ite_else h9 H
         iterate 3 (refine r_off rfl rfl rfl rfl (bfalse h9) rfl rfl ?_)
         refine r_on Y Y Y Y (dF h8) Y (PureD.opD (p_pkf Y Y (bfalse h9) (.same _))) ?_
         refine rp Y Y (p_pkf Y Y (dF h8) (.same _)) ?_
         refine rs [(1, .q 1 (0)), (4, .q 4 (0)), (5, .i t20_1), (6, .q 6 (0)), (15, .g (s0.Tables.toList.flatMap (fun v : Vector GTable 2 => v.toList.flatMap GTable.cs))), (16, .i t16_0), (19, .g (((vrd s0.Tables t16_0.toNat).toList).flatMap GTable.cs)), (20, .i t20_1), (40, .b false)] [(1, .pure (GState.cs s0)), (4, .pure (((vrd s0.Tables t16_0.toNat).toList).flatMap GTable.cs)), (6, .pure (GTable.cs (vrd (vrd s0.Tables t16_0.toNat) t20_1.toNat)))] Y Y Y ?_
         have hz := some_elim H
         subst hz
         exact RunW_nil rfl
      ·replace H := ite_else h6 H
       iterate 3 (refine r_off rfl rfl rfl rfl (bfalse h6) rfl rfl ?_)
       refine rp Y Y (p_pkf Y Y (bfalse h6) (.same _)) ?_
       refine rp Y Y (p_move Y Y) ?_
       refine r_on Y Y Y Y (bfalse (by decide)) Y (PureD.opD (u_fa Y Y Tryd.underlying29 Y in_4 nz Y Y (nl (GTable.len (vrd (vrd s0.Tables t16_0.toNat) t20_1.toNat))))) ?_
       refine r_on Y Y Y Y (bfalse (by decide)) Y (PureD.opD (u_ld Y Y Tryd.underlying4 Y Y ((Sub.refl _).trans (GTable.sub0 (vrd (vrd s0.Tables t16_0.toNat) t20_1.toNat))))) ?_
       refine r_on Y Y Y Y (bfalse (by decide)) Y (PureD.opD (p_not Y Y)) ?_
       refine r_on Y Y Y Y (bfalse (by decide)) Y (PureD.opD (p_move Y Y)) ?_
       refine (Classical.em ((!((vrd (vrd s0.Tables t16_0.toNat) t20_1.toNat).There)) = true)).elim (fun h11 => ?_) (fun h11 => ?_)
       ·replace H := ite_then h11 H
        refine rn Y Y Y Y h11 Y (u_lda Y Y Tryd.underlying29 Y in_29 Y (Nat.succ_pos _) (Sub.refl _) (GTable.len (vrd (vrd s0.Tables t16_0.toNat) t20_1.toNat))) ?_
        refine bindK H fun r'4 h12 H => ?_
        refine rn Y Y Y Y h11 Y (p_callp Y Y Y Tryd.func10 Y Y (g_deed_blank_ac h12) ⟨Y, trivial⟩) ?_
        refine rn Y Y Y Y h11 Y (p_not Y Y) ?_
        refine r_on Y Y Y Y (bfalse (by decide)) Y (PureD.opD (p_pkt Y Y h11 (.same _))) ?_
        refine rp Y Y (p_pkf Y Y (bfalse (by decide)) (.same _)) ?_
        refine rs [(1, .q 1 (0)), (4, .q 4 (0)), (5, .i t20_1), (6, .q 6 (0)), (15, .g (s0.Tables.toList.flatMap (fun v : Vector GTable 2 => v.toList.flatMap GTable.cs))), (16, .i t16_0), (19, .g (((vrd s0.Tables t16_0.toNat).toList).flatMap GTable.cs)), (20, .i t20_1), (40, .b (!r'4))] [(1, .pure (GState.cs s0)), (4, .pure (((vrd s0.Tables t16_0.toNat).toList).flatMap GTable.cs)), (6, .pure (GTable.cs (vrd (vrd s0.Tables t16_0.toNat) t20_1.toNat)))] Y Y Y ?_
        have hz := some_elim H
        subst hz
        exact RunW_nil rfl
       ·replace H := ite_else h11 H
        iterate 3 (refine r_off rfl rfl rfl rfl (bfalse h11) rfl rfl ?_)
        refine r_on Y Y Y Y (bfalse (by decide)) Y (PureD.opD (p_pkf Y Y (bfalse h11) (.same _))) ?_
        refine rp Y Y (p_pkf Y Y (bfalse (by decide)) (.same _)) ?_
        refine rs [(1, .q 1 (0)), (4, .q 4 (0)), (5, .i t20_1), (6, .q 6 (0)), (15, .g (s0.Tables.toList.flatMap (fun v : Vector GTable 2 => v.toList.flatMap GTable.cs))), (16, .i t16_0), (19, .g (((vrd s0.Tables t16_0.toNat).toList).flatMap GTable.cs)), (20, .i t20_1), (40, .b false)] [(1, .pure (GState.cs s0)), (4, .pure (((vrd s0.Tables t16_0.toNat).toList).flatMap GTable.cs)), (6, .pure (GTable.cs (vrd (vrd s0.Tables t16_0.toNat) t20_1.toNat)))] Y Y Y ?_
        have hz := some_elim H
        subst hz
        exact RunW_nil rfl
     ·refine AW2_cond Y (fun h14 => ?_) (fun h14 => ?_)
      ·replace H := ite_then h14 H
       refine sg [0] Y ?_
       refine rp Y Y (p_asg Y Y) ?_
       refine rz [(2, .i (11 : Int))] [] Y Y Y ?_
       refine AW2_ret ?_
       have hz := some_elim H
       subst hz
       exact ⟨Y, ⟨res_tmp (.same _), trivial⟩, trivial⟩
      ·replace H := ite_else (ne_true h14) H
       refine as2 [(1, .q 1 (0)), (4, .q 4 (0)), (5, .i t20_1), (6, .q 6 (0)), (15, .g (s0.Tables.toList.flatMap (fun v : Vector GTable 2 => v.toList.flatMap GTable.cs))), (16, .i t16_0), (19, .g (((vrd s0.Tables t16_0.toNat).toList).flatMap GTable.cs)), (20, .i t20_1)] [(1, .pure (GState.cs s0)), (4, .pure (((vrd s0.Tables t16_0.toNat).toList).flatMap GTable.cs)), (6, .pure (GTable.cs (vrd (vrd s0.Tables t16_0.toNat) t20_1.toNat)))] Y Y Y ?_
       refine AW2_skip ?_
       refine sg [0, 1, 2, 3] Y ?_
       refine rp Y Y (p_move Y Y) ?_
       refine chkK H fun h15 H => ?_
       refine rp Y Y (u_cutah Y Y Tryd.underlying30 in_29 Y Y (nl (vfm_len (fun x => (GTable.len x)) (vrd s0.Tables t16_0.toNat))) (Sub.refl _) ((vfm_len (fun x => (GTable.len x)) (vrd s0.Tables t16_0.toNat)).trans (by decide)) (bT_i h15.1 Y) (toNat_le h15)) ?_
       refine rp Y Y (u_lens Y Tryd.underlying44 Y Y Y (nl (vfm_len (fun x => (GTable.len x)) (vrd s0.Tables t16_0.toNat)))) ?_
       refine rp Y Y (p_move Y Y) ?_
       refine rz [(1, .q 1 (0)), (4, .q 4 (0)), (6, .q 6 (0)), (15, .g (s0.Tables.toList.flatMap (fun v : Vector GTable 2 => v.toList.flatMap GTable.cs))), (16, .i t16_0), (19, .g (((vrd s0.Tables t16_0.toNat).toList).flatMap GTable.cs)), (20, .i t20_1), (42, .c (.sl 4 (0 + 0 * 19) t20_1.toNat 19)), (43, .i (t20_1.toNat : Int)), (44, .i (0 : Int))] [(1, .pure (GState.cs s0)), (4, .pure (((vrd s0.Tables t16_0.toNat).toList).flatMap GTable.cs)), (6, .pure (GTable.cs (vrd (vrd s0.Tables t16_0.toNat) t20_1.toNat)))] Y Y Y ?_
       refine AW2_block ?_
       refine as2 [(1, .q 1 (0)), (4, .q 4 (0)), (6, .q 6 (0)), (15, .g (s0.Tables.toList.flatMap (fun v : Vector GTable 2 => v.toList.flatMap GTable.cs))), (16, .i t16_0), (19, .g (((vrd s0.Tables t16_0.toNat).toList).flatMap GTable.cs)), (20, .i t20_1), (42, .c (.sl 4 (0 + 0 * 19) t20_1.toNat 19)), (43, .i (t20_1.toNat : Int)), (44, .i (0 : Int))] [(1, .pure (GState.cs s0)), (4, .pure (((vrd s0.Tables t16_0.toNat).toList).flatMap GTable.cs)), (6, .pure (GTable.cs (vrd (vrd s0.Tables t16_0.toNat) t20_1.toNat)))] Y Y Y ?_
       refine bindK H fun o'10 h21 H => ?_
       refine AW2_loopO (fun a'7 : Int => (⟨[(1, .q 1 (0)), (4, .q 4 (0)), (6, .q 6 (0)), (15, .g (s0.Tables.toList.flatMap (fun v : Vector GTable 2 => v.toList.flatMap GTable.cs))), (16, .i t16_0), (19, .g (((vrd s0.Tables t16_0.toNat).toList).flatMap GTable.cs)), (20, .i t20_1), (42, .c (.sl 4 (0 + 0 * 19) t20_1.toNat 19)), (43, .i (t20_1.toNat : Int)), (44, .i a'7)], [(1, .pure (GState.cs s0)), (4, .pure (((vrd s0.Tables t16_0.toNat).toList).flatMap GTable.cs)), (6, .pure (GTable.cs (vrd (vrd s0.Tables t16_0.toNat) t20_1.toNat)))], 101⟩ : TS)) (fun (o : Int ⊕ Unit) e s' => match o with | .inl y'8 => e = Go.Exit.ret ∧ ResAll Tryd.prog s' [ResultVar.tmp 2] [.i y'8] ∧ HFits s' [] | .inr (y'9) => e = Go.Exit.exit 4 ∧ s' = (⟨[(1, .q 1 (0)), (4, .q 4 (0)), (15, .g (s0.Tables.toList.flatMap (fun v : Vector GTable 2 => v.toList.flatMap GTable.cs))), (16, .i t16_0), (19, .g (((vrd s0.Tables t16_0.toNat).toList).flatMap GTable.cs)), (20, .i t20_1)], [(1, .pure (GState.cs s0)), (4, .pure (((vrd s0.Tables t16_0.toNat).toList).flatMap GTable.cs))], 101⟩ : TS)) h21 Y (fun t44_2 x hx => ?_) (fun e s' hs => ?_)
       ·clear H
        have H := hx
        clear hx
        unfold g_deed_Check_l2 at H
        refine sg [0] Y ?_
        refine rp Y Y (p_bin Y Y Y Y) ?_
        refine rz [(1, .q 1 (0)), (4, .q 4 (0)), (6, .q 6 (0)), (15, .g (s0.Tables.toList.flatMap (fun v : Vector GTable 2 => v.toList.flatMap GTable.cs))), (16, .i t16_0), (19, .g (((vrd s0.Tables t16_0.toNat).toList).flatMap GTable.cs)), (20, .i t20_1), (42, .c (.sl 4 (0 + 0 * 19) t20_1.toNat 19)), (43, .i (t20_1.toNat : Int)), (44, .i t44_2), (45, .b (decide (t44_2 < (t20_1.toNat : Int))))] [(1, .pure (GState.cs s0)), (4, .pure (((vrd s0.Tables t16_0.toNat).toList).flatMap GTable.cs)), (6, .pure (GTable.cs (vrd (vrd s0.Tables t16_0.toNat) t20_1.toNat)))] Y Y Y ?_
        refine AW2_seq ?_
        refine AW2_if (p := t44_2 < (t20_1.toNat : Int)) Y (fun h16 => ?_) (fun h16 => ?_)
        ·replace H := ite_then h16 H
         refine as2 [(1, .q 1 (0)), (4, .q 4 (0)), (6, .q 6 (0)), (15, .g (s0.Tables.toList.flatMap (fun v : Vector GTable 2 => v.toList.flatMap GTable.cs))), (16, .i t16_0), (19, .g (((vrd s0.Tables t16_0.toNat).toList).flatMap GTable.cs)), (20, .i t20_1), (42, .c (.sl 4 (0 + 0 * 19) t20_1.toNat 19)), (43, .i (t20_1.toNat : Int)), (44, .i t44_2)] [(1, .pure (GState.cs s0)), (4, .pure (((vrd s0.Tables t16_0.toNat).toList).flatMap GTable.cs)), (6, .pure (GTable.cs (vrd (vrd s0.Tables t16_0.toNat) t20_1.toNat)))] Y Y Y ?_
         refine AW2_skip ?_
         refine AW2_seq ?_
         refine AW2_block ?_
         refine sg [0, 1, 2, 3] Y ?_
         refine chkK H fun h17 H => ?_
         refine rp Y Y (u_ixs Y Y Tryd.underlying44 in_29 Y Y (nl (vfm_len (fun x => (GTable.len x)) (vrd s0.Tables t16_0.toNat))) Y (ixe h17) (ixn h17)) ?_
         refine rp Y Y (u_lda Y Y Tryd.underlying29 Y in_29 Y (Nat.succ_pos _) ((Sub.refl _).trans (Sub.vfm (fun x => (GTable.len x)) (Nat.lt_of_lt_of_le (ixn h17) (toNat_le h15)))) (GTable.len (vrd (vrd s0.Tables t16_0.toNat) t44_2.toNat))) ?_
         refine r_op Y Y (MakeD.opD (u_alloc 8 Y in_29 one_29 zc_29) Y Y Y Y) ?_
         refine r_op Y Y (u_st Y Y Y Y Y in_29 (GTable.len (vrd (vrd s0.Tables t16_0.toNat) t44_2.toNat)) (nl (GTable.len GTable.zero)) (Upd.refl ((GTable.len (vrd (vrd s0.Tables t16_0.toNat) t44_2.toNat)).trans (GTable.len GTable.zero).symm))) ?_
         refine rz [(1, .q 1 (0)), (4, .q 4 (0)), (6, .q 6 (0)), (8, .q 8 (0)), (15, .g (s0.Tables.toList.flatMap (fun v : Vector GTable 2 => v.toList.flatMap GTable.cs))), (16, .i t16_0), (19, .g (((vrd s0.Tables t16_0.toNat).toList).flatMap GTable.cs)), (20, .i t20_1), (42, .c (.sl 4 (0 + 0 * 19) t20_1.toNat 19)), (43, .i (t20_1.toNat : Int)), (44, .i t44_2)] [(1, .pure (GState.cs s0)), (4, .pure (((vrd s0.Tables t16_0.toNat).toList).flatMap GTable.cs)), (6, .pure (GTable.cs (vrd (vrd s0.Tables t16_0.toNat) t20_1.toNat))), (8, .pure (GTable.cs (vrd (vrd s0.Tables t16_0.toNat) t44_2.toNat)))] Y Y Y ?_
         refine AW2_seq ?_
         refine AW2_mid (⟨[(1, .q 1 (0)), (4, .q 4 (0)), (6, .q 6 (0)), (15, .g (s0.Tables.toList.flatMap (fun v : Vector GTable 2 => v.toList.flatMap GTable.cs))), (16, .i t16_0), (19, .g (((vrd s0.Tables t16_0.toNat).toList).flatMap GTable.cs)), (20, .i t20_1), (42, .c (.sl 4 (0 + 0 * 19) t20_1.toNat 19)), (43, .i (t20_1.toNat : Int)), (44, .i t44_2), (60, .b (decide (((((vrd (vrd s0.Tables t16_0.toNat) t20_1.toNat).There) = true) ∧ (((vrd (vrd s0.Tables t16_0.toNat) t44_2.toNat).There) = true)) ∧ ((vrd (vrd s0.Tables t16_0.toNat) t44_2.toNat).Name = (vrd (vrd s0.Tables t16_0.toNat) t20_1.toNat).Name))))], [(1, .pure (GState.cs s0)), (4, .pure (((vrd s0.Tables t16_0.toNat).toList).flatMap GTable.cs)), (6, .pure (GTable.cs (vrd (vrd s0.Tables t16_0.toNat) t20_1.toNat)))], 101⟩ : TS) ?_ ?_
         ·refine AW2_reg [0, 1, 2, 3, 4, 5, 6, 7, 8, 9, 10, 11, 12] Y ?_
          refine rp Y Y (u_fa Y Y Tryd.underlying29 Y in_4 nz Y Y (nl (GTable.len (vrd (vrd s0.Tables t16_0.toNat) t20_1.toNat)))) ?_
          refine rp Y Y (u_ld Y Y Tryd.underlying4 Y Y ((Sub.refl _).trans (GTable.sub0 (vrd (vrd s0.Tables t16_0.toNat) t20_1.toNat)))) ?_
          refine rp Y Y (p_move Y Y) ?_
          refine (Classical.em (((vrd (vrd s0.Tables t16_0.toNat) t20_1.toNat).There) = true)).elim (fun h18 => ?_) (fun h18 => ?_)
          ·refine rn Y Y Y Y h18 Y (u_fa Y Y Tryd.underlying29 Y in_4 nz Y Y (nl (GTable.len (vrd (vrd s0.Tables t16_0.toNat) t44_2.toNat)))) ?_
           refine rn Y Y Y Y h18 Y (u_ld Y Y Tryd.underlying4 Y Y ((Sub.refl _).trans (GTable.sub0 (vrd (vrd s0.Tables t16_0.toNat) t44_2.toNat)))) ?_
           refine rp Y Y (p_pkt Y Y h18 (tb ((bdec _).trans (and_l (p := ((vrd (vrd s0.Tables t16_0.toNat) t20_1.toNat).There) = true) (q := ((vrd (vrd s0.Tables t16_0.toNat) t44_2.toNat).There) = true) h18)))) ?_
           refine rp Y Y (p_move Y Y) ?_
           refine (Classical.em (((vrd (vrd s0.Tables t16_0.toNat) t44_2.toNat).There) = true)).elim (fun h19 => ?_) (fun h19 => ?_)
           ·have qq1 := dT (p := (((vrd (vrd s0.Tables t16_0.toNat) t20_1.toNat).There) = true) ∧ (((vrd (vrd s0.Tables t16_0.toNat) t44_2.toNat).There) = true)) ⟨h18, h19⟩
            refine rn Y Y Y Y qq1 Y (u_fa Y Y Tryd.underlying29 Y in_9 nz Y Y (nl (GTable.len (vrd (vrd s0.Tables t16_0.toNat) t44_2.toNat)))) ?_
            refine rn Y Y Y Y qq1 Y (u_ld Y Y Tryd.underlying9 Y Y ((Sub.refl _).trans (GTable.sub1 (vrd (vrd s0.Tables t16_0.toNat) t44_2.toNat)))) ?_
            refine rn Y Y Y Y qq1 Y (u_fa Y Y Tryd.underlying29 Y in_9 nz Y Y (nl (GTable.len (vrd (vrd s0.Tables t16_0.toNat) t20_1.toNat)))) ?_
            refine rn Y Y Y Y qq1 Y (u_ld Y Y Tryd.underlying9 Y Y ((Sub.refl _).trans (GTable.sub1 (vrd (vrd s0.Tables t16_0.toNat) t20_1.toNat)))) ?_
            refine rn Y Y Y Y qq1 Y (p_seq Y Y Y) ?_
            refine rp Y Y (p_pkt Y Y qq1 (tb ((and_l (p := (((vrd (vrd s0.Tables t16_0.toNat) t20_1.toNat).There) = true) ∧ (((vrd (vrd s0.Tables t16_0.toNat) t44_2.toNat).There) = true)) (q := (vrd (vrd s0.Tables t16_0.toNat) t44_2.toNat).Name = (vrd (vrd s0.Tables t16_0.toNat) t20_1.toNat).Name) ⟨h18, h19⟩)))) ?_
            refine rs [(1, .q 1 (0)), (4, .q 4 (0)), (6, .q 6 (0)), (15, .g (s0.Tables.toList.flatMap (fun v : Vector GTable 2 => v.toList.flatMap GTable.cs))), (16, .i t16_0), (19, .g (((vrd s0.Tables t16_0.toNat).toList).flatMap GTable.cs)), (20, .i t20_1), (42, .c (.sl 4 (0 + 0 * 19) t20_1.toNat 19)), (43, .i (t20_1.toNat : Int)), (44, .i t44_2), (60, .b (decide (((((vrd (vrd s0.Tables t16_0.toNat) t20_1.toNat).There) = true) ∧ (((vrd (vrd s0.Tables t16_0.toNat) t44_2.toNat).There) = true)) ∧ ((vrd (vrd s0.Tables t16_0.toNat) t44_2.toNat).Name = (vrd (vrd s0.Tables t16_0.toNat) t20_1.toNat).Name))))] [(1, .pure (GState.cs s0)), (4, .pure (((vrd s0.Tables t16_0.toNat).toList).flatMap GTable.cs)), (6, .pure (GTable.cs (vrd (vrd s0.Tables t16_0.toNat) t20_1.toNat)))] Y Y Y ?_
            exact RunW_nil rfl
           ·have qq2 := dF (p := (((vrd (vrd s0.Tables t16_0.toNat) t20_1.toNat).There) = true) ∧ (((vrd (vrd s0.Tables t16_0.toNat) t44_2.toNat).There) = true)) (fun h => h19 h.2)
            iterate 5 (refine r_off rfl rfl rfl rfl qq2 rfl rfl ?_)
            refine rp Y Y (p_pkf Y Y qq2 (tb (dF (p := ((((vrd (vrd s0.Tables t16_0.toNat) t20_1.toNat).There) = true) ∧ (((vrd (vrd s0.Tables t16_0.toNat) t44_2.toNat).There) = true)) ∧ ((vrd (vrd s0.Tables t16_0.toNat) t44_2.toNat).Name = (vrd (vrd s0.Tables t16_0.toNat) t20_1.toNat).Name)) (fun x => (fun h => h19 h.2) x.1)).symm)) ?_
            refine rs [(1, .q 1 (0)), (4, .q 4 (0)), (6, .q 6 (0)), (15, .g (s0.Tables.toList.flatMap (fun v : Vector GTable 2 => v.toList.flatMap GTable.cs))), (16, .i t16_0), (19, .g (((vrd s0.Tables t16_0.toNat).toList).flatMap GTable.cs)), (20, .i t20_1), (42, .c (.sl 4 (0 + 0 * 19) t20_1.toNat 19)), (43, .i (t20_1.toNat : Int)), (44, .i t44_2), (60, .b (decide (((((vrd (vrd s0.Tables t16_0.toNat) t20_1.toNat).There) = true) ∧ (((vrd (vrd s0.Tables t16_0.toNat) t44_2.toNat).There) = true)) ∧ ((vrd (vrd s0.Tables t16_0.toNat) t44_2.toNat).Name = (vrd (vrd s0.Tables t16_0.toNat) t20_1.toNat).Name))))] [(1, .pure (GState.cs s0)), (4, .pure (((vrd s0.Tables t16_0.toNat).toList).flatMap GTable.cs)), (6, .pure (GTable.cs (vrd (vrd s0.Tables t16_0.toNat) t20_1.toNat)))] Y Y Y ?_
            exact RunW_nil rfl
          ·iterate 2 (refine r_off rfl rfl rfl rfl (bfalse h18) rfl rfl ?_)
           refine rp Y Y (p_pkf Y Y (bfalse h18) (tb (dF (p := (((vrd (vrd s0.Tables t16_0.toNat) t20_1.toNat).There) = true) ∧ (((vrd (vrd s0.Tables t16_0.toNat) t44_2.toNat).There) = true)) (fun x => h18 x.1)).symm)) ?_
           refine rp Y Y (p_move Y Y) ?_
           have qq3 := dF (p := (((vrd (vrd s0.Tables t16_0.toNat) t20_1.toNat).There) = true) ∧ (((vrd (vrd s0.Tables t16_0.toNat) t44_2.toNat).There) = true)) (fun h => h18 h.1)
           iterate 5 (refine r_off rfl rfl rfl rfl qq3 rfl rfl ?_)
           refine rp Y Y (p_pkf Y Y qq3 (tb (dF (p := ((((vrd (vrd s0.Tables t16_0.toNat) t20_1.toNat).There) = true) ∧ (((vrd (vrd s0.Tables t16_0.toNat) t44_2.toNat).There) = true)) ∧ ((vrd (vrd s0.Tables t16_0.toNat) t44_2.toNat).Name = (vrd (vrd s0.Tables t16_0.toNat) t20_1.toNat).Name)) (fun x => (fun h => h18 h.1) x.1)).symm)) ?_
           refine rs [(1, .q 1 (0)), (4, .q 4 (0)), (6, .q 6 (0)), (15, .g (s0.Tables.toList.flatMap (fun v : Vector GTable 2 => v.toList.flatMap GTable.cs))), (16, .i t16_0), (19, .g (((vrd s0.Tables t16_0.toNat).toList).flatMap GTable.cs)), (20, .i t20_1), (42, .c (.sl 4 (0 + 0 * 19) t20_1.toNat 19)), (43, .i (t20_1.toNat : Int)), (44, .i t44_2), (60, .b (decide (((((vrd (vrd s0.Tables t16_0.toNat) t20_1.toNat).There) = true) ∧ (((vrd (vrd s0.Tables t16_0.toNat) t44_2.toNat).There) = true)) ∧ ((vrd (vrd s0.Tables t16_0.toNat) t44_2.toNat).Name = (vrd (vrd s0.Tables t16_0.toNat) t20_1.toNat).Name))))] [(1, .pure (GState.cs s0)), (4, .pure (((vrd s0.Tables t16_0.toNat).toList).flatMap GTable.cs)), (6, .pure (GTable.cs (vrd (vrd s0.Tables t16_0.toNat) t20_1.toNat)))] Y Y Y ?_
           exact RunW_nil rfl
         ·refine gen1 (fun t60'6 => (⟨[(1, .q 1 (0)), (4, .q 4 (0)), (6, .q 6 (0)), (15, .g (s0.Tables.toList.flatMap (fun v : Vector GTable 2 => v.toList.flatMap GTable.cs))), (16, .i t16_0), (19, .g (((vrd s0.Tables t16_0.toNat).toList).flatMap GTable.cs)), (20, .i t20_1), (42, .c (.sl 4 (0 + 0 * 19) t20_1.toNat 19)), (43, .i (t20_1.toNat : Int)), (44, .i t44_2), (60, .b t60'6)], [(1, .pure (GState.cs s0)), (4, .pure (((vrd s0.Tables t16_0.toNat).toList).flatMap GTable.cs)), (6, .pure (GTable.cs (vrd (vrd s0.Tables t16_0.toNat) t20_1.toNat)))], 101⟩ : TS)) H ?_
          intro t60'6 H
          refine AW2_cond Y (fun h20 => ?_) (fun h20 => ?_)
          ·replace H := ite_then h20 H
           refine sg [0] Y ?_
           refine rp Y Y (p_asg Y Y) ?_
           refine rz [(2, .i (11 : Int))] [] Y Y Y ?_
           refine AW2_ret ?_
           have hz := some_elim H
           subst hz
           exact ⟨Y, ⟨res_tmp (.same _), trivial⟩, trivial⟩
          ·replace H := ite_else (ne_true h20) H
           refine as2 [(1, .q 1 (0)), (4, .q 4 (0)), (6, .q 6 (0)), (15, .g (s0.Tables.toList.flatMap (fun v : Vector GTable 2 => v.toList.flatMap GTable.cs))), (16, .i t16_0), (19, .g (((vrd s0.Tables t16_0.toNat).toList).flatMap GTable.cs)), (20, .i t20_1), (42, .c (.sl 4 (0 + 0 * 19) t20_1.toNat 19)), (43, .i (t20_1.toNat : Int)), (44, .i t44_2)] [(1, .pure (GState.cs s0)), (4, .pure (((vrd s0.Tables t16_0.toNat).toList).flatMap GTable.cs)), (6, .pure (GTable.cs (vrd (vrd s0.Tables t16_0.toNat) t20_1.toNat)))] Y Y Y ?_
           refine AW2_skip ?_
           refine AW2_reg [0, 1] Y ?_
           refine rp Y Y (p_bin Y Y Y Y) ?_
           refine rp Y Y (p_move Y Y) ?_
           refine rz [(1, .q 1 (0)), (4, .q 4 (0)), (6, .q 6 (0)), (15, .g (s0.Tables.toList.flatMap (fun v : Vector GTable 2 => v.toList.flatMap GTable.cs))), (16, .i t16_0), (19, .g (((vrd s0.Tables t16_0.toNat).toList).flatMap GTable.cs)), (20, .i t20_1), (42, .c (.sl 4 (0 + 0 * 19) t20_1.toNat 19)), (43, .i (t20_1.toNat : Int)), (44, .i (w64 (t44_2 + (1 : Int))))] [(1, .pure (GState.cs s0)), (4, .pure (((vrd s0.Tables t16_0.toNat).toList).flatMap GTable.cs)), (6, .pure (GTable.cs (vrd (vrd s0.Tables t16_0.toNat) t20_1.toNat)))] Y Y Y ?_
           have hz := some_elim H
           subst hz
           exact ⟨Y, Y⟩
        ·replace H := ite_else h16 H
         refine as2 [(1, .q 1 (0)), (4, .q 4 (0)), (15, .g (s0.Tables.toList.flatMap (fun v : Vector GTable 2 => v.toList.flatMap GTable.cs))), (16, .i t16_0), (19, .g (((vrd s0.Tables t16_0.toNat).toList).flatMap GTable.cs)), (20, .i t20_1)] [(1, .pure (GState.cs s0)), (4, .pure (((vrd s0.Tables t16_0.toNat).toList).flatMap GTable.cs))] Y Y Y ?_
         refine AW2_exit ?_
         refine thenQ2_exit ?_
         have hz := some_elim H
         subst hz
         exact ⟨Y, Y⟩
       ·rcases o'10 with y'11 | y'12
        ·obtain ⟨rfl, hs⟩ := hs
         refine ⟨by simp, ?_⟩
         have hz := some_elim H
         subst hz
         exact ⟨Y, hs.1, hs.2⟩
        ·obtain ⟨rfl, rfl⟩ := hs
         refine ⟨by simp, ?_⟩
         refine blockQ2_exit ?_
         refine AW2_reg [0, 1] Y ?_
         refine rp Y Y (p_bin Y Y Y Y) ?_
         refine rp Y Y (p_move Y Y) ?_
         refine rz [(1, .q 1 (0)), (4, .q 4 (0)), (15, .g (s0.Tables.toList.flatMap (fun v : Vector GTable 2 => v.toList.flatMap GTable.cs))), (16, .i t16_0), (19, .g (((vrd s0.Tables t16_0.toNat).toList).flatMap GTable.cs)), (20, .i (w64 (t20_1 + (1 : Int))))] [(1, .pure (GState.cs s0)), (4, .pure (((vrd s0.Tables t16_0.toNat).toList).flatMap GTable.cs))] Y Y Y ?_
         have hz := some_elim H
         subst hz
         exact ⟨Y, Y⟩
    ·replace H := ite_else h3 H
     refine as2 [(1, .q 1 (0)), (15, .g (s0.Tables.toList.flatMap (fun v : Vector GTable 2 => v.toList.flatMap GTable.cs))), (16, .i t16_0)] [(1, .pure (GState.cs s0))] Y Y Y ?_
     refine AW2_exit ?_
     refine thenQ2_exit ?_
     have hz := some_elim H
     subst hz
     exact ⟨Y, Y⟩
   ·rcases o'16 with y'17 | y'18
    ·obtain ⟨rfl, hs⟩ := hs
     refine ⟨by simp, ?_⟩
     have hz := some_elim H
     subst hz
     exact ⟨Y, hs.1, hs.2⟩
    ·obtain ⟨rfl, rfl⟩ := hs
     refine ⟨by simp, ?_⟩
     refine blockQ2_exit ?_
     refine AW2_reg [0, 1] Y ?_
     refine rp Y Y (p_bin Y Y Y Y) ?_
     refine rp Y Y (p_move Y Y) ?_
     refine rz [(1, .q 1 (0)), (15, .g (s0.Tables.toList.flatMap (fun v : Vector GTable 2 => v.toList.flatMap GTable.cs))), (16, .i (w64 (t16_0 + (1 : Int))))] [(1, .pure (GState.cs s0))] Y Y Y ?_
     have hz := some_elim H
     subst hz
     exact ⟨Y, Y⟩
  ·replace H := ite_else h1 H
   refine as2 [(1, .q 1 (0))] [(1, .pure (GState.cs s0))] Y Y Y ?_
   refine AW2_exit ?_
   refine thenQ2_exit ?_
   have hz := some_elim H
   subst hz
   exact ⟨Y, Y⟩
 ·rcases o'22 with y'23 | y'24
  ·obtain ⟨rfl, hs⟩ := hs
   refine ⟨by simp, ?_⟩
   have hz := some_elim H
   subst hz
   exact ⟨hs.1, hs.2⟩
  ·obtain ⟨rfl, rfl⟩ := hs
   refine ⟨by simp, ?_⟩
   refine blockQ2_exit ?_
   refine AW2_seq ?_
   refine sg [0, 1, 2, 3] Y ?_
   refine rp Y Y (u_fa Y Y Tryd.underlying35 Y in_32 nz Y Y (nl (GState.len s0))) ?_
   refine rp Y Y (u_ld Y Y Tryd.underlying32 Y Y ((Sub.refl _).trans (GState.sub1 s0))) ?_
   refine bindK H fun r'25 h25 H => ?_
   refine rp Y Y (p_callp Y Y Y Tryd.func11 Y Y (g_right_Check_ac h25) ⟨Y, trivial⟩) ?_
   refine rp Y Y (p_ine Y Y Y) ?_
   refine rz [(1, .q 1 (0)), (67, .b (decide (r'25 ≠ (0 : Int))))] [(1, .pure (GState.cs s0))] Y Y Y ?_
   refine AW2_if (p := r'25 ≠ (0 : Int)) Y (fun h26 => ?_) (fun h26 => ?_)
   ·replace H := ite_then h26 H
    refine sg [0] Y ?_
    refine rp Y Y (p_asg Y Y) ?_
    refine rz [(2, .i (11 : Int))] [] Y Y Y ?_
    refine AW2_ret ?_
    have hz := some_elim H
    subst hz
    exact ⟨⟨res_tmp (.same _), trivial⟩, trivial⟩
   ·replace H := ite_else h26 H
    refine as2 [(1, .q 1 (0))] [(1, .pure (GState.cs s0))] Y Y Y ?_
    refine AW2_skip ?_
    refine AW2_seq ?_
    refine sg [0, 1, 2, 3] Y ?_
    refine rp Y Y (u_fa Y Y Tryd.underlying35 Y in_32 nz Y Y (nl (GState.len s0))) ?_
    refine rp Y Y (u_ld Y Y Tryd.underlying32 Y Y ((Sub.refl _).trans (GState.sub1 s0))) ?_
    refine rp Y Y (p_lenl Y Tryd.underlying32 Y Y) ?_
    refine rp Y Y (p_move Y Y) ?_
    refine rz [(1, .q 1 (0)), (69, .p ((fun q : List GGrant => AV.lst (q.flatMap GGrant.cs) q.length) s0.Grants)), (70, .i (s0.Grants.length : Int)), (71, .i (0 : Int))] [(1, .pure (GState.cs s0))] Y Y Y ?_
    refine AW2_block ?_
    refine as2 [(1, .q 1 (0)), (69, .p ((fun q : List GGrant => AV.lst (q.flatMap GGrant.cs) q.length) s0.Grants)), (70, .i (s0.Grants.length : Int)), (71, .i (0 : Int))] [(1, .pure (GState.cs s0))] Y Y Y ?_
    refine bindK H fun o'30 h32 H => ?_
    refine AW2_loopO (fun a'27 : Int => (⟨[(1, .q 1 (0)), (69, .p ((fun q : List GGrant => AV.lst (q.flatMap GGrant.cs) q.length) s0.Grants)), (70, .i (s0.Grants.length : Int)), (71, .i a'27)], [(1, .pure (GState.cs s0))], 101⟩ : TS)) (fun (o : Int ⊕ Unit) e s' => match o with | .inl y'28 => e = Go.Exit.ret ∧ ResAll Tryd.prog s' [ResultVar.tmp 2] [.i y'28] ∧ HFits s' [] | .inr (y'29) => e = Go.Exit.exit 6 ∧ s' = (⟨[(1, .q 1 (0))], [(1, .pure (GState.cs s0))], 101⟩ : TS)) h32 Y (fun t71_3 x hx => ?_) (fun e s' hs => ?_)
    ·clear H
     have H := hx
     clear hx
     unfold g_deed_Check_l3 at H
     refine sg [0] Y ?_
     refine rp Y Y (p_bin Y Y Y Y) ?_
     refine rz [(1, .q 1 (0)), (69, .p ((fun q : List GGrant => AV.lst (q.flatMap GGrant.cs) q.length) s0.Grants)), (70, .i (s0.Grants.length : Int)), (71, .i t71_3), (72, .b (decide (t71_3 < (s0.Grants.length : Int))))] [(1, .pure (GState.cs s0))] Y Y Y ?_
     refine AW2_seq ?_
     refine AW2_if (p := t71_3 < (s0.Grants.length : Int)) Y (fun h27 => ?_) (fun h27 => ?_)
     ·replace H := ite_then h27 H
      refine as2 [(1, .q 1 (0)), (69, .p ((fun q : List GGrant => AV.lst (q.flatMap GGrant.cs) q.length) s0.Grants)), (70, .i (s0.Grants.length : Int)), (71, .i t71_3)] [(1, .pure (GState.cs s0))] Y Y Y ?_
      refine AW2_skip ?_
      refine AW2_seq ?_
      refine AW2_block ?_
      refine sg [0, 1, 2, 3] Y ?_
      refine chkK H fun h28 H => ?_
      refine rp Y Y (u_ixl Y Y Tryd.underlying32 in_47 Y Y (ixe h28) (ixn h28) (fne (fun x => (GGrant.len x)) (by decide) (ixn h28))) ?_
      refine rp Y Y (u_lda Y Y Tryd.underlying47 Y in_47 Y (Nat.succ_pos _) (Sub.fm default (fun x => (GGrant.len x)) (ixn h28)) (GGrant.len (lrd s0.Grants t71_3.toNat))) ?_
      refine r_op Y Y (MakeD.opD (u_alloc 10 Y in_47 one_47 zc_47) Y Y Y Y) ?_
      refine r_op Y Y (u_st Y Y Y Y Y in_47 (GGrant.len (lrd s0.Grants t71_3.toNat)) (nl (GGrant.len GGrant.zero)) (Upd.refl ((GGrant.len (lrd s0.Grants t71_3.toNat)).trans (GGrant.len GGrant.zero).symm))) ?_
      refine rz [(1, .q 1 (0)), (10, .q 10 (0)), (69, .p ((fun q : List GGrant => AV.lst (q.flatMap GGrant.cs) q.length) s0.Grants)), (70, .i (s0.Grants.length : Int)), (71, .i t71_3)] [(1, .pure (GState.cs s0)), (10, .pure (GGrant.cs (lrd s0.Grants t71_3.toNat)))] Y Y Y ?_
      refine sg [0, 1, 2, 3] Y ?_
      refine rp Y Y (u_fa Y Y Tryd.underlying47 Y in_3 nz Y Y (nl (GGrant.len (lrd s0.Grants t71_3.toNat)))) ?_
      refine rp Y Y (u_ld Y Y Tryd.underlying3 Y Y ((Sub.refl _).trans (GGrant.sub2 (lrd s0.Grants t71_3.toNat)))) ?_
      refine rp Y Y (p_iquo Y Y Y (by decide)) ?_
      refine rp Y Y (p_asg Y Y) ?_
      refine rz [(1, .q 1 (0)), (11, .i (w64 (((lrd s0.Grants t71_3.toNat).Object).tdiv (2 : Int)))), (69, .p ((fun q : List GGrant => AV.lst (q.flatMap GGrant.cs) q.length) s0.Grants)), (70, .i (s0.Grants.length : Int)), (71, .i t71_3)] [(1, .pure (GState.cs s0))] Y Y Y ?_
      refine sg [0, 1, 2, 3, 4, 5, 6, 7, 8, 9] Y ?_
      refine rp Y Y (p_move Y Y) ?_
      refine rp Y Y (p_iquo Y Y Y (by decide)) ?_
      refine rp Y Y (p_move Y Y) ?_
      refine rp Y Y (p_irem Y Y Y (by decide)) ?_
      refine rp Y Y (u_fa Y Y Tryd.underlying35 Y in_31 nz Y Y (nl (GState.len s0))) ?_
      refine chkK H fun h29 H => ?_
      refine rp Y Y (u_ixp Y Y Tryd.underlying31 in_30 Y Y (nl (GState.len s0)) Y (ixe h29) (ixn h29)) ?_
      refine chkK H fun h30 H => ?_
      refine rp Y Y (u_ixp Y Y Tryd.underlying30 in_29 Y Y (nl (GState.len s0)) Y (ixe h30) (ixn h30)) ?_
      refine rp Y Y (u_fa Y Y Tryd.underlying29 Y in_4 nz Y Y (nl (GState.len s0))) ?_
      refine rp Y Y (u_ld Y Y Tryd.underlying4 Y Y (((((Sub.refl _).trans (GState.sub0 s0)).trans (Sub.vfm (fun x => (vfm_len (fun x => (GTable.len x)) x)) (ixn h29))).trans (Sub.vfm (fun x => (GTable.len x)) (ixn h30))).trans (GTable.sub0 (vrd (vrd s0.Tables ((w64 ((w64 (((lrd s0.Grants t71_3.toNat).Object).tdiv (2 : Int))).tdiv (2 : Int))).toNat)) (((w64 (((lrd s0.Grants t71_3.toNat).Object).tdiv (2 : Int))).tmod (2 : Int)).toNat))))) ?_
      refine rp Y Y (p_not Y Y) ?_
      refine rz [(1, .q 1 (0)), (69, .p ((fun q : List GGrant => AV.lst (q.flatMap GGrant.cs) q.length) s0.Grants)), (70, .i (s0.Grants.length : Int)), (71, .i t71_3), (87, .b (!((vrd (vrd s0.Tables ((w64 ((w64 (((lrd s0.Grants t71_3.toNat).Object).tdiv (2 : Int))).tdiv (2 : Int))).toNat)) (((w64 (((lrd s0.Grants t71_3.toNat).Object).tdiv (2 : Int))).tmod (2 : Int)).toNat)).There)))] [(1, .pure (GState.cs s0))] Y Y Y ?_
      refine gen1 (fun t87'26 => (⟨[(1, .q 1 (0)), (69, .p ((fun q : List GGrant => AV.lst (q.flatMap GGrant.cs) q.length) s0.Grants)), (70, .i (s0.Grants.length : Int)), (71, .i t71_3), (87, .b t87'26)], [(1, .pure (GState.cs s0))], 101⟩ : TS)) H ?_
      intro t87'26 H
      refine AW2_cond Y (fun h31 => ?_) (fun h31 => ?_)
      ·replace H := ite_then h31 H
       refine sg [0] Y ?_
       refine rp Y Y (p_asg Y Y) ?_
       refine rz [(2, .i (11 : Int))] [] Y Y Y ?_
       refine AW2_ret ?_
       have hz := some_elim H
       subst hz
       exact ⟨Y, ⟨res_tmp (.same _), trivial⟩, trivial⟩
      ·replace H := ite_else (ne_true h31) H
       refine as2 [(1, .q 1 (0)), (69, .p ((fun q : List GGrant => AV.lst (q.flatMap GGrant.cs) q.length) s0.Grants)), (70, .i (s0.Grants.length : Int)), (71, .i t71_3)] [(1, .pure (GState.cs s0))] Y Y Y ?_
       refine AW2_skip ?_
       refine AW2_reg [0, 1] Y ?_
       refine rp Y Y (p_bin Y Y Y Y) ?_
       refine rp Y Y (p_move Y Y) ?_
       refine rz [(1, .q 1 (0)), (69, .p ((fun q : List GGrant => AV.lst (q.flatMap GGrant.cs) q.length) s0.Grants)), (70, .i (s0.Grants.length : Int)), (71, .i (w64 (t71_3 + (1 : Int))))] [(1, .pure (GState.cs s0))] Y Y Y ?_
       have hz := some_elim H
       subst hz
       exact ⟨Y, Y⟩
     ·replace H := ite_else h27 H
      refine as2 [(1, .q 1 (0))] [(1, .pure (GState.cs s0))] Y Y Y ?_
      refine AW2_exit ?_
      refine thenQ2_exit ?_
      have hz := some_elim H
      subst hz
      exact ⟨Y, Y⟩
    ·rcases o'30 with y'31 | y'32
     ·obtain ⟨rfl, hs⟩ := hs
      refine ⟨by simp, ?_⟩
      have hz := some_elim H
      subst hz
      exact ⟨hs.1, hs.2⟩
     ·obtain ⟨rfl, rfl⟩ := hs
      refine ⟨by simp, ?_⟩
      refine blockQ2_exit ?_
      refine AW2_seq ?_
      refine sg [0, 1, 2] Y ?_
      refine rp Y Y (u_fa Y Y Tryd.underlying35 Y in_33 nz Y Y (nl (GState.len s0))) ?_
      refine rp Y Y (u_lda Y Y Tryd.underlying33 Y in_33 Y (Nat.succ_pos _) ((Sub.refl _).trans (GState.sub2 s0)) (vmap_len (f := AV.int) s0.Asked)) ?_
      refine rp Y Y (p_move Y Y) ?_
      refine rz [(90, .g (s0.Asked.toList.map AV.int)), (91, .i (0 : Int))] [] Y Y Y ?_
      refine AW2_block ?_
      refine as2 [(90, .g (s0.Asked.toList.map AV.int)), (91, .i (0 : Int))] [] Y Y Y ?_
      refine bindK H fun o'36 h37 H => ?_
      refine AW2_loopO (fun a'33 : Int => (⟨[(90, .g (s0.Asked.toList.map AV.int)), (91, .i a'33)], [], 101⟩ : TS)) (fun (o : Int ⊕ Unit) e s' => match o with | .inl y'34 => e = Go.Exit.ret ∧ ResAll Tryd.prog s' [ResultVar.tmp 2] [.i y'34] ∧ HFits s' [] | .inr (y'35) => e = Go.Exit.exit 8 ∧ s' = (⟨[], [], 101⟩ : TS)) h37 Y (fun t91_4 x hx => ?_) (fun e s' hs => ?_)
      ·clear H
       have H := hx
       clear hx
       unfold g_deed_Check_l4 at H
       refine sg [0] Y ?_
       refine rp Y Y (p_bin Y Y Y Y) ?_
       refine rz [(90, .g (s0.Asked.toList.map AV.int)), (91, .i t91_4), (92, .b (decide (t91_4 < (3 : Int))))] [] Y Y Y ?_
       refine AW2_seq ?_
       refine AW2_if (p := t91_4 < (3 : Int)) Y (fun h33 => ?_) (fun h33 => ?_)
       ·replace H := ite_then h33 H
        refine as2 [(90, .g (s0.Asked.toList.map AV.int)), (91, .i t91_4)] [] Y Y Y ?_
        refine AW2_skip ?_
        refine AW2_seq ?_
        refine AW2_block ?_
        refine sg [0, 1] Y ?_
        refine chkK H fun h34 H => ?_
        refine rp Y Y (u_ixa Y Y Tryd.underlying33 in_3 Tryd.underlying3 Y Y Y (ixe h34) (ixn h34) (Sub.vmap (ixn h34))) ?_
        refine rp Y Y (p_asg Y Y) ?_
        refine rz [(13, .i (vrd s0.Asked t91_4.toNat)), (90, .g (s0.Asked.toList.map AV.int)), (91, .i t91_4)] [] Y Y Y ?_
        refine AW2_seq ?_
        refine AW2_mid (⟨[(90, .g (s0.Asked.toList.map AV.int)), (91, .i t91_4), (99, .b (decide (((vrd s0.Asked t91_4.toNat) < (0 : Int)) ∨ ((vrd s0.Asked t91_4.toNat) > (12 : Int)))))], [], 101⟩ : TS) ?_ ?_
        ·refine AW2_reg [0, 1, 2, 3, 4, 5] Y ?_
         refine rp Y Y (p_move Y Y) ?_
         refine rp Y Y (p_bin Y Y Y Y) ?_
         refine rp Y Y (p_move Y Y) ?_
         refine (Classical.em ((vrd s0.Asked t91_4.toNat) < (0 : Int))).elim (fun h35 => ?_) (fun h35 => ?_)
         ·iterate 2 (refine r_off rfl rfl rfl rfl (dT h35) rfl rfl ?_)
          refine rp Y Y (p_pkt Y Y (dT h35) (tb (dT (p := ((vrd s0.Asked t91_4.toNat) < (0 : Int)) ∨ ((vrd s0.Asked t91_4.toNat) > (12 : Int))) (Or.inl h35)).symm)) ?_
          refine rs [(90, .g (s0.Asked.toList.map AV.int)), (91, .i t91_4), (99, .b (decide (((vrd s0.Asked t91_4.toNat) < (0 : Int)) ∨ ((vrd s0.Asked t91_4.toNat) > (12 : Int)))))] [] Y Y Y ?_
          exact RunW_nil rfl
         ·refine r_on Y Y Y Y (dF h35) Y (PureD.opD (p_move Y Y)) ?_
          refine r_on Y Y Y Y (dF h35) Y (PureD.opD (p_bin Y Y Y Y)) ?_
          refine rp Y Y (p_pkf Y Y (dF h35) (tb ((or_l (p := (vrd s0.Asked t91_4.toNat) < (0 : Int)) (q := (vrd s0.Asked t91_4.toNat) > (12 : Int)) h35)))) ?_
          refine rs [(90, .g (s0.Asked.toList.map AV.int)), (91, .i t91_4), (99, .b (decide (((vrd s0.Asked t91_4.toNat) < (0 : Int)) ∨ ((vrd s0.Asked t91_4.toNat) > (12 : Int)))))] [] Y Y Y ?_
          exact RunW_nil rfl
        ·refine AW2_if (p := ((vrd s0.Asked t91_4.toNat) < (0 : Int)) ∨ ((vrd s0.Asked t91_4.toNat) > (12 : Int))) Y (fun h36 => ?_) (fun h36 => ?_)
         ·replace H := ite_then h36 H
          refine sg [0] Y ?_
          refine rp Y Y (p_asg Y Y) ?_
          refine rz [(2, .i (11 : Int))] [] Y Y Y ?_
          refine AW2_ret ?_
          have hz := some_elim H
          subst hz
          exact ⟨Y, ⟨res_tmp (.same _), trivial⟩, trivial⟩
         ·replace H := ite_else h36 H
          refine as2 [(90, .g (s0.Asked.toList.map AV.int)), (91, .i t91_4)] [] Y Y Y ?_
          refine AW2_skip ?_
          refine AW2_reg [0, 1] Y ?_
          refine rp Y Y (p_bin Y Y Y Y) ?_
          refine rp Y Y (p_move Y Y) ?_
          refine rz [(90, .g (s0.Asked.toList.map AV.int)), (91, .i (w64 (t91_4 + (1 : Int))))] [] Y Y Y ?_
          have hz := some_elim H
          subst hz
          exact ⟨Y, Y⟩
       ·replace H := ite_else h33 H
        refine as2 [] [] Y Y Y ?_
        refine AW2_exit ?_
        refine thenQ2_exit ?_
        have hz := some_elim H
        subst hz
        exact ⟨Y, Y⟩
      ·rcases o'36 with y'37 | y'38
       ·obtain ⟨rfl, hs⟩ := hs
        refine ⟨by simp, ?_⟩
        have hz := some_elim H
        subst hz
        exact ⟨hs.1, hs.2⟩
       ·obtain ⟨rfl, rfl⟩ := hs
        refine ⟨by simp, ?_⟩
        refine blockQ2_exit ?_
        refine sg [0] Y ?_
        refine rp Y Y (p_asg Y Y) ?_
        refine rz [(2, .i (0 : Int))] [] Y Y Y ?_
        refine AW2_ret ?_
        have hz := some_elim H
        subst hz
        exact ⟨⟨res_tmp (.same _), trivial⟩, trivial⟩
end Go.Proofs.YtpgimlllchibnaaDoor.VM
