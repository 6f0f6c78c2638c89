/- Functions of the program, as they answer, and that their code comes to these answers. -/
import Derived.Test.YtkaeboabpahemaaDoorVtTabs
import Derived.Test.YtkaeboabpahemaaDoorVtShort
namespace Go.Proofs.YtkaeboabpahemaaDoor.VM
open Go Go.RowKit

structure GStream where
  H : Vector UInt32 8
  Held : Vector UInt8 64
  N : Int
  Len : Int
deriving DecidableEq, Inhabited
def GStream.zero : GStream := ⟨(Vector.replicate 8 (0 : UInt32)), (Vector.replicate 64 (0 : UInt8)), (0 : Int), (0 : Int)⟩
def GStream.cs (x : GStream) : List AV := (x.H.toList.map AV.u32) ++ ((bcells x.Held.toList) ++ (([(AV.int x.N)]) ++ ([(AV.int x.Len)])))
theorem GStream.len (x : GStream) : (GStream.cs x).length = 74 := by
  simp only [GStream.cs, List.length_append]
  rw [show (x.H.toList.map AV.u32).length = 8 from (vmap_len (f := AV.u32) x.H), show (bcells x.Held.toList).length = 64 from ((bcells_length _).trans (vlen x.Held)), show ([(AV.int x.N)]).length = 1 from (show ([(AV.int x.N)]).length = 1 from rfl), show ([(AV.int x.Len)]).length = 1 from (show ([(AV.int x.Len)]).length = 1 from rfl)]
theorem GStream.sub0 (x : GStream) : Sub (GStream.cs x) 0 (x.H.toList.map AV.u32) := Sub.head _ _
theorem GStream.upd0 (x : GStream) (y : Vector UInt32 8) : Upd (GStream.cs x) 0 (y.toList.map AV.u32) (GStream.cs { x with H := y }) := Upd.head ((vmap_len (f := AV.u32) y).trans (vmap_len (f := AV.u32) x.H).symm)
theorem GStream.sub1 (x : GStream) : Sub (GStream.cs x) 8 (bcells x.Held.toList) := Sub.skip (k := 8) (vmap_len (f := AV.u32) x.H) (Sub.head _ _)
theorem GStream.upd1 (x : GStream) (y : Vector UInt8 64) : Upd (GStream.cs x) 8 (bcells y.toList) (GStream.cs { x with Held := y }) := Upd.skip (k := 8) (vmap_len (f := AV.u32) x.H) (Upd.head (((bcells_length _).trans (vlen y)).trans ((bcells_length _).trans (vlen x.Held)).symm))
theorem GStream.sub2 (x : GStream) : Sub (GStream.cs x) 72 ([(AV.int x.N)]) := Sub.skip (k := 8) (vmap_len (f := AV.u32) x.H) (Sub.skip (k := 64) ((bcells_length _).trans (vlen x.Held)) (Sub.head _ _))
theorem GStream.upd2 (x : GStream) (y : Int) : Upd (GStream.cs x) 72 ([(AV.int y)]) (GStream.cs { x with N := y }) := Upd.skip (k := 8) (vmap_len (f := AV.u32) x.H) (Upd.skip (k := 64) ((bcells_length _).trans (vlen x.Held)) (Upd.head (show ([(AV.int y)]).length = ([(AV.int x.N)]).length from rfl)))
theorem GStream.sub3 (x : GStream) : Sub (GStream.cs x) 73 ([(AV.int x.Len)]) := Sub.skip (k := 8) (vmap_len (f := AV.u32) x.H) (Sub.skip (k := 64) ((bcells_length _).trans (vlen x.Held)) (Sub.skip (k := 1) (show ([(AV.int x.N)]).length = 1 from rfl) (Sub.refl _)))
theorem GStream.upd3 (x : GStream) (y : Int) : Upd (GStream.cs x) 73 ([(AV.int y)]) (GStream.cs { x with Len := y }) := Upd.skip (k := 8) (vmap_len (f := AV.u32) x.H) (Upd.skip (k := 64) ((bcells_length _).trans (vlen x.Held)) (Upd.skip (k := 1) (show ([(AV.int x.N)]).length = 1 from rfl) (Upd.refl (show ([(AV.int y)]).length = ([(AV.int x.Len)]).length from rfl))))
theorem GStream.nl (x : GStream) : (GStream.cs x).all noLst1 = true := nlA (nlM _ _ (fun _ => rfl)) (nlA (nlB _) (nlA rfl (rfl)))
theorem in_5 : Info Tryd.prog 5 1 1 (.int .u8 0) := by unfold Info; kernel_rfl
theorem one_5 : (.int .u8 0 : Value).cells.all (·.oneCell') = true := by kernel_rfl
theorem zc_5 : ((.int .u8 0 : Value).cells.toList.map zcell) = [(AV.b8 (0 : UInt8))] := by rfl
theorem in_22 : Info Tryd.prog 22 1 24 (.slice none 0 0) := by unfold Info; kernel_rfl
theorem one_22 : (.slice none 0 0 : Value).cells.all (·.oneCell') = true := by kernel_rfl
theorem zc_22 : ((.slice none 0 0 : Value).cells.toList.map zcell) = [(AV.bytes [])] := by rfl
theorem in_96 : Info Tryd.prog 96 74 112 (.agg #[.int .u32 0, .int .u32 0, .int .u32 0, .int .u32 0, .int .u32 0, .int .u32 0, .int .u32 0, .int .u32 0, .int .u8 0, .int .u8 0, .int .u8 0, .int .u8 0, .int .u8 0, .int .u8 0, .int .u8 0, .int .u8 0, .int .u8 0, .int .u8 0, .int .u8 0, .int .u8 0, .int .u8 0, .int .u8 0, .int .u8 0, .int .u8 0, .int .u8 0, .int .u8 0, .int .u8 0, .int .u8 0, .int .u8 0, .int .u8 0, .int .u8 0, .int .u8 0, .int .u8 0, .int .u8 0, .int .u8 0, .int .u8 0, .int .u8 0, .int .u8 0, .int .u8 0, .int .u8 0, .int .u8 0, .int .u8 0, .int .u8 0, .int .u8 0, .int .u8 0, .int .u8 0, .int .u8 0, .int .u8 0, .int .u8 0, .int .u8 0, .int .u8 0, .int .u8 0, .int .u8 0, .int .u8 0, .int .u8 0, .int .u8 0, .int .u8 0, .int .u8 0, .int .u8 0, .int .u8 0, .int .u8 0, .int .u8 0, .int .u8 0, .int .u8 0, .int .u8 0, .int .u8 0, .int .u8 0, .int .u8 0, .int .u8 0, .int .u8 0, .int .u8 0, .int .u8 0, .int .i64 0, .int .i64 0]) := by unfold Info; kernel_rfl
theorem one_96 : (.agg #[.int .u32 0, .int .u32 0, .int .u32 0, .int .u32 0, .int .u32 0, .int .u32 0, .int .u32 0, .int .u32 0, .int .u8 0, .int .u8 0, .int .u8 0, .int .u8 0, .int .u8 0, .int .u8 0, .int .u8 0, .int .u8 0, .int .u8 0, .int .u8 0, .int .u8 0, .int .u8 0, .int .u8 0, .int .u8 0, .int .u8 0, .int .u8 0, .int .u8 0, .int .u8 0, .int .u8 0, .int .u8 0, .int .u8 0, .int .u8 0, .int .u8 0, .int .u8 0, .int .u8 0, .int .u8 0, .int .u8 0, .int .u8 0, .int .u8 0, .int .u8 0, .int .u8 0, .int .u8 0, .int .u8 0, .int .u8 0, .int .u8 0, .int .u8 0, .int .u8 0, .int .u8 0, .int .u8 0, .int .u8 0, .int .u8 0, .int .u8 0, .int .u8 0, .int .u8 0, .int .u8 0, .int .u8 0, .int .u8 0, .int .u8 0, .int .u8 0, .int .u8 0, .int .u8 0, .int .u8 0, .int .u8 0, .int .u8 0, .int .u8 0, .int .u8 0, .int .u8 0, .int .u8 0, .int .u8 0, .int .u8 0, .int .u8 0, .int .u8 0, .int .u8 0, .int .u8 0, .int .i64 0, .int .i64 0] : Value).cells.all (·.oneCell') = true := by kernel_rfl
theorem zc_96 : ((.agg #[.int .u32 0, .int .u32 0, .int .u32 0, .int .u32 0, .int .u32 0, .int .u32 0, .int .u32 0, .int .u32 0, .int .u8 0, .int .u8 0, .int .u8 0, .int .u8 0, .int .u8 0, .int .u8 0, .int .u8 0, .int .u8 0, .int .u8 0, .int .u8 0, .int .u8 0, .int .u8 0, .int .u8 0, .int .u8 0, .int .u8 0, .int .u8 0, .int .u8 0, .int .u8 0, .int .u8 0, .int .u8 0, .int .u8 0, .int .u8 0, .int .u8 0, .int .u8 0, .int .u8 0, .int .u8 0, .int .u8 0, .int .u8 0, .int .u8 0, .int .u8 0, .int .u8 0, .int .u8 0, .int .u8 0, .int .u8 0, .int .u8 0, .int .u8 0, .int .u8 0, .int .u8 0, .int .u8 0, .int .u8 0, .int .u8 0, .int .u8 0, .int .u8 0, .int .u8 0, .int .u8 0, .int .u8 0, .int .u8 0, .int .u8 0, .int .u8 0, .int .u8 0, .int .u8 0, .int .u8 0, .int .u8 0, .int .u8 0, .int .u8 0, .int .u8 0, .int .u8 0, .int .u8 0, .int .u8 0, .int .u8 0, .int .u8 0, .int .u8 0, .int .u8 0, .int .u8 0, .int .i64 0, .int .i64 0] : Value).cells.toList.map zcell) = GStream.cs GStream.zero := by rfl
theorem pl_96 : placesOf Tryd.prog 96 = some [(0, 8), (8, 64), (72, 1), (73, 1)] := by kernel_rfl
theorem in_93 : Info Tryd.prog 93 8 32 (.agg #[.int .u32 0, .int .u32 0, .int .u32 0, .int .u32 0, .int .u32 0, .int .u32 0, .int .u32 0, .int .u32 0]) := by unfold Info; kernel_rfl
theorem one_93 : (.agg #[.int .u32 0, .int .u32 0, .int .u32 0, .int .u32 0, .int .u32 0, .int .u32 0, .int .u32 0, .int .u32 0] : Value).cells.all (·.oneCell') = true := by kernel_rfl
theorem zc_93 : ((.agg #[.int .u32 0, .int .u32 0, .int .u32 0, .int .u32 0, .int .u32 0, .int .u32 0, .int .u32 0, .int .u32 0] : Value).cells.toList.map zcell) = ((Vector.replicate 8 (0 : UInt32)).toList).map AV.u32 := by rfl
theorem in_92 : Info Tryd.prog 92 1 4 (.int .u32 0) := by unfold Info; kernel_rfl
theorem one_92 : (.int .u32 0 : Value).cells.all (·.oneCell') = true := by kernel_rfl
theorem zc_92 : ((.int .u32 0 : Value).cells.toList.map zcell) = [(AV.u32 (0 : UInt32))] := by rfl
theorem in_111 : Info Tryd.prog 111 64 256 (.agg #[.int .u32 0, .int .u32 0, .int .u32 0, .int .u32 0, .int .u32 0, .int .u32 0, .int .u32 0, .int .u32 0, .int .u32 0, .int .u32 0, .int .u32 0, .int .u32 0, .int .u32 0, .int .u32 0, .int .u32 0, .int .u32 0, .int .u32 0, .int .u32 0, .int .u32 0, .int .u32 0, .int .u32 0, .int .u32 0, .int .u32 0, .int .u32 0, .int .u32 0, .int .u32 0, .int .u32 0, .int .u32 0, .int .u32 0, .int .u32 0, .int .u32 0, .int .u32 0, .int .u32 0, .int .u32 0, .int .u32 0, .int .u32 0, .int .u32 0, .int .u32 0, .int .u32 0, .int .u32 0, .int .u32 0, .int .u32 0, .int .u32 0, .int .u32 0, .int .u32 0, .int .u32 0, .int .u32 0, .int .u32 0, .int .u32 0, .int .u32 0, .int .u32 0, .int .u32 0, .int .u32 0, .int .u32 0, .int .u32 0, .int .u32 0, .int .u32 0, .int .u32 0, .int .u32 0, .int .u32 0, .int .u32 0, .int .u32 0, .int .u32 0, .int .u32 0]) := by unfold Info; kernel_rfl
theorem one_111 : (.agg #[.int .u32 0, .int .u32 0, .int .u32 0, .int .u32 0, .int .u32 0, .int .u32 0, .int .u32 0, .int .u32 0, .int .u32 0, .int .u32 0, .int .u32 0, .int .u32 0, .int .u32 0, .int .u32 0, .int .u32 0, .int .u32 0, .int .u32 0, .int .u32 0, .int .u32 0, .int .u32 0, .int .u32 0, .int .u32 0, .int .u32 0, .int .u32 0, .int .u32 0, .int .u32 0, .int .u32 0, .int .u32 0, .int .u32 0, .int .u32 0, .int .u32 0, .int .u32 0, .int .u32 0, .int .u32 0, .int .u32 0, .int .u32 0, .int .u32 0, .int .u32 0, .int .u32 0, .int .u32 0, .int .u32 0, .int .u32 0, .int .u32 0, .int .u32 0, .int .u32 0, .int .u32 0, .int .u32 0, .int .u32 0, .int .u32 0, .int .u32 0, .int .u32 0, .int .u32 0, .int .u32 0, .int .u32 0, .int .u32 0, .int .u32 0, .int .u32 0, .int .u32 0, .int .u32 0, .int .u32 0, .int .u32 0, .int .u32 0, .int .u32 0, .int .u32 0] : Value).cells.all (·.oneCell') = true := by kernel_rfl
theorem zc_111 : ((.agg #[.int .u32 0, .int .u32 0, .int .u32 0, .int .u32 0, .int .u32 0, .int .u32 0, .int .u32 0, .int .u32 0, .int .u32 0, .int .u32 0, .int .u32 0, .int .u32 0, .int .u32 0, .int .u32 0, .int .u32 0, .int .u32 0, .int .u32 0, .int .u32 0, .int .u32 0, .int .u32 0, .int .u32 0, .int .u32 0, .int .u32 0, .int .u32 0, .int .u32 0, .int .u32 0, .int .u32 0, .int .u32 0, .int .u32 0, .int .u32 0, .int .u32 0, .int .u32 0, .int .u32 0, .int .u32 0, .int .u32 0, .int .u32 0, .int .u32 0, .int .u32 0, .int .u32 0, .int .u32 0, .int .u32 0, .int .u32 0, .int .u32 0, .int .u32 0, .int .u32 0, .int .u32 0, .int .u32 0, .int .u32 0, .int .u32 0, .int .u32 0, .int .u32 0, .int .u32 0, .int .u32 0, .int .u32 0, .int .u32 0, .int .u32 0, .int .u32 0, .int .u32 0, .int .u32 0, .int .u32 0, .int .u32 0, .int .u32 0, .int .u32 0, .int .u32 0] : Value).cells.toList.map zcell) = ((Vector.replicate 64 (0 : UInt32)).toList).map AV.u32 := by rfl
theorem in_3 : Info Tryd.prog 3 1 8 (.int .i64 0) := by unfold Info; kernel_rfl
theorem one_3 : (.int .i64 0 : Value).cells.all (·.oneCell') = true := by kernel_rfl
theorem zc_3 : ((.int .i64 0 : Value).cells.toList.map zcell) = [(AV.int (0 : Int))] := by rfl
theorem in_94 : Info Tryd.prog 94 64 64 (.agg #[.int .u8 0, .int .u8 0, .int .u8 0, .int .u8 0, .int .u8 0, .int .u8 0, .int .u8 0, .int .u8 0, .int .u8 0, .int .u8 0, .int .u8 0, .int .u8 0, .int .u8 0, .int .u8 0, .int .u8 0, .int .u8 0, .int .u8 0, .int .u8 0, .int .u8 0, .int .u8 0, .int .u8 0, .int .u8 0, .int .u8 0, .int .u8 0, .int .u8 0, .int .u8 0, .int .u8 0, .int .u8 0, .int .u8 0, .int .u8 0, .int .u8 0, .int .u8 0, .int .u8 0, .int .u8 0, .int .u8 0, .int .u8 0, .int .u8 0, .int .u8 0, .int .u8 0, .int .u8 0, .int .u8 0, .int .u8 0, .int .u8 0, .int .u8 0, .int .u8 0, .int .u8 0, .int .u8 0, .int .u8 0, .int .u8 0, .int .u8 0, .int .u8 0, .int .u8 0, .int .u8 0, .int .u8 0, .int .u8 0, .int .u8 0, .int .u8 0, .int .u8 0, .int .u8 0, .int .u8 0, .int .u8 0, .int .u8 0, .int .u8 0, .int .u8 0]) := by unfold Info; kernel_rfl
theorem one_94 : (.agg #[.int .u8 0, .int .u8 0, .int .u8 0, .int .u8 0, .int .u8 0, .int .u8 0, .int .u8 0, .int .u8 0, .int .u8 0, .int .u8 0, .int .u8 0, .int .u8 0, .int .u8 0, .int .u8 0, .int .u8 0, .int .u8 0, .int .u8 0, .int .u8 0, .int .u8 0, .int .u8 0, .int .u8 0, .int .u8 0, .int .u8 0, .int .u8 0, .int .u8 0, .int .u8 0, .int .u8 0, .int .u8 0, .int .u8 0, .int .u8 0, .int .u8 0, .int .u8 0, .int .u8 0, .int .u8 0, .int .u8 0, .int .u8 0, .int .u8 0, .int .u8 0, .int .u8 0, .int .u8 0, .int .u8 0, .int .u8 0, .int .u8 0, .int .u8 0, .int .u8 0, .int .u8 0, .int .u8 0, .int .u8 0, .int .u8 0, .int .u8 0, .int .u8 0, .int .u8 0, .int .u8 0, .int .u8 0, .int .u8 0, .int .u8 0, .int .u8 0, .int .u8 0, .int .u8 0, .int .u8 0, .int .u8 0, .int .u8 0, .int .u8 0, .int .u8 0] : Value).cells.all (·.oneCell') = true := by kernel_rfl
theorem zc_94 : ((.agg #[.int .u8 0, .int .u8 0, .int .u8 0, .int .u8 0, .int .u8 0, .int .u8 0, .int .u8 0, .int .u8 0, .int .u8 0, .int .u8 0, .int .u8 0, .int .u8 0, .int .u8 0, .int .u8 0, .int .u8 0, .int .u8 0, .int .u8 0, .int .u8 0, .int .u8 0, .int .u8 0, .int .u8 0, .int .u8 0, .int .u8 0, .int .u8 0, .int .u8 0, .int .u8 0, .int .u8 0, .int .u8 0, .int .u8 0, .int .u8 0, .int .u8 0, .int .u8 0, .int .u8 0, .int .u8 0, .int .u8 0, .int .u8 0, .int .u8 0, .int .u8 0, .int .u8 0, .int .u8 0, .int .u8 0, .int .u8 0, .int .u8 0, .int .u8 0, .int .u8 0, .int .u8 0, .int .u8 0, .int .u8 0, .int .u8 0, .int .u8 0, .int .u8 0, .int .u8 0, .int .u8 0, .int .u8 0, .int .u8 0, .int .u8 0, .int .u8 0, .int .u8 0, .int .u8 0, .int .u8 0, .int .u8 0, .int .u8 0, .int .u8 0, .int .u8 0] : Value).cells.toList.map zcell) = bcells ((Vector.replicate 64 (0 : UInt8)).toList) := by rfl
theorem in_82 : Info Tryd.prog 82 32 32 (.agg #[.int .u8 0, .int .u8 0, .int .u8 0, .int .u8 0, .int .u8 0, .int .u8 0, .int .u8 0, .int .u8 0, .int .u8 0, .int .u8 0, .int .u8 0, .int .u8 0, .int .u8 0, .int .u8 0, .int .u8 0, .int .u8 0, .int .u8 0, .int .u8 0, .int .u8 0, .int .u8 0, .int .u8 0, .int .u8 0, .int .u8 0, .int .u8 0, .int .u8 0, .int .u8 0, .int .u8 0, .int .u8 0, .int .u8 0, .int .u8 0, .int .u8 0, .int .u8 0]) := by unfold Info; kernel_rfl
theorem one_82 : (.agg #[.int .u8 0, .int .u8 0, .int .u8 0, .int .u8 0, .int .u8 0, .int .u8 0, .int .u8 0, .int .u8 0, .int .u8 0, .int .u8 0, .int .u8 0, .int .u8 0, .int .u8 0, .int .u8 0, .int .u8 0, .int .u8 0, .int .u8 0, .int .u8 0, .int .u8 0, .int .u8 0, .int .u8 0, .int .u8 0, .int .u8 0, .int .u8 0, .int .u8 0, .int .u8 0, .int .u8 0, .int .u8 0, .int .u8 0, .int .u8 0, .int .u8 0, .int .u8 0] : Value).cells.all (·.oneCell') = true := by kernel_rfl
theorem zc_82 : ((.agg #[.int .u8 0, .int .u8 0, .int .u8 0, .int .u8 0, .int .u8 0, .int .u8 0, .int .u8 0, .int .u8 0, .int .u8 0, .int .u8 0, .int .u8 0, .int .u8 0, .int .u8 0, .int .u8 0, .int .u8 0, .int .u8 0, .int .u8 0, .int .u8 0, .int .u8 0, .int .u8 0, .int .u8 0, .int .u8 0, .int .u8 0, .int .u8 0, .int .u8 0, .int .u8 0, .int .u8 0, .int .u8 0, .int .u8 0, .int .u8 0, .int .u8 0, .int .u8 0] : Value).cells.toList.map zcell) = bcells ((Vector.replicate 32 (0 : UInt8)).toList) := by rfl

/-! roll.modes -/
noncomputable def g_roll_modes (mode0 : Int) : Option (Bool) :=
  some (decide ((mode0 = (1 : Int)) ∨ (mode0 = (2 : Int))))
set_option maxHeartbeats 4000000 in
set_option maxRecDepth 100000 in
theorem g_roll_modes_ac {mode0 : Int} {r : Bool} (H : g_roll_modes mode0 = some r) : ACp Tryd.prog 67 [(AV.int mode0)] (AV.bool r) := by
  refine ACp_of (AC2_of_body (vs := [.b r]) Tryd.func67 rfl rfl (Nat.le_of_ble_eq_true rfl) rfl ?_) (fun _ => .same _)
  unfold g_roll_modes at H
  refine as2 [(0, .i mode0)] [] rfl rfl rfl ?_
  refine sg [0] rfl ?_
  refine rp rfl rfl (p_asg rfl rfl) ?_
  refine rz [(0, .i mode0)] [] rfl rfl rfl ?_
  refine AW2_seq ?_
  refine AW2_mid (⟨[(2, .b (decide ((mode0 = (1 : Int)) ∨ (mode0 = (2 : Int)))))], [], 9⟩ : TS) ?_ ?_
  · refine AW2_reg [0, 1, 2, 3, 4, 5, 6] rfl ?_
    refine rp rfl rfl (p_move rfl rfl) ?_
    refine rp rfl rfl (p_ieq rfl rfl rfl) ?_
    refine rp rfl rfl (p_move rfl rfl) ?_
    refine (Classical.em (mode0 = (1 : Int))).elim (fun h1 => ?_) (fun h1 => ?_)
    · refine r_off rfl rfl rfl rfl (decide_eq_true (p := mode0 = (1 : Int)) h1) rfl rfl ?_
      refine r_off rfl rfl rfl rfl (decide_eq_true (p := mode0 = (1 : Int)) h1) rfl rfl ?_
      refine rp rfl rfl (p_pkt rfl rfl (decide_eq_true (p := mode0 = (1 : Int)) h1) (tb (decide_eq_true (p := (mode0 = (1 : Int)) ∨ (mode0 = (2 : Int))) (Or.inl h1)).symm)) ?_
      refine rp rfl rfl (p_asg rfl rfl) ?_
      refine rs [(2, .b (decide ((mode0 = (1 : Int)) ∨ (mode0 = (2 : Int)))))] [] rfl rfl rfl ?_
      exact RunW_nil rfl
    · refine r_on rfl rfl rfl rfl (decide_eq_false (p := mode0 = (1 : Int)) h1) rfl (PureD.opD (p_move rfl rfl)) ?_
      refine r_on rfl rfl rfl rfl (decide_eq_false (p := mode0 = (1 : Int)) h1) rfl (PureD.opD (p_ieq rfl rfl rfl)) ?_
      refine rp rfl rfl (p_pkf rfl rfl (decide_eq_false (p := mode0 = (1 : Int)) h1) (tb ((or_l (p := mode0 = (1 : Int)) (q := mode0 = (2 : Int)) h1)))) ?_
      refine rp rfl rfl (p_asg rfl rfl) ?_
      refine rs [(2, .b (decide ((mode0 = (1 : Int)) ∨ (mode0 = (2 : Int)))))] [] rfl rfl rfl ?_
      exact RunW_nil rfl
  · refine AW2_ret ?_
    have hz := some_elim H
    subst hz
    exact ⟨⟨res_tmp (.same _), trivial⟩, trivial⟩

/-! roll.fault -/
noncomputable def g_roll_fault (mode0 : Int) (l1 : List (List UInt8)) : Option (Int) :=
  (g_roll_modes mode0).bind fun r'1 => (if (!r'1) = true then some (2 : Int) else (if (l1.length : Int) > (64 : Int) then some (1 : Int) else some (0 : Int)))
set_option maxHeartbeats 4000000 in
set_option maxRecDepth 100000 in
theorem g_roll_fault_ac {mode0 : Int} {l1 : List (List UInt8)} {r : Int} (H : g_roll_fault mode0 l1 = some r) : ACp Tryd.prog 60 [(AV.int mode0), (AV.lists l1)] (AV.int r) := by
  refine ACp_of (AC2_of_body (vs := [.i r]) Tryd.func60 rfl rfl (Nat.le_of_ble_eq_true rfl) rfl ?_) (fun _ => .same _)
  unfold g_roll_fault at H
  refine as2 [(0, .i mode0), (1, .p (AV.lists l1))] [] rfl rfl rfl ?_
  refine sg [0] rfl ?_
  refine rp rfl rfl (p_asg rfl rfl) ?_
  refine rz [(0, .i mode0), (1, .p (AV.lists l1))] [] rfl rfl rfl ?_
  refine AW2_seq ?_
  refine sg [0, 1, 2] rfl ?_
  refine rp rfl rfl (p_move rfl rfl) ?_
  refine bindK H fun r'1 h1 H => ?_
  refine rp rfl rfl (p_callp rfl rfl rfl Tryd.func67 rfl rfl (g_roll_modes_ac h1) ⟨rfl, trivial⟩) ?_
  refine rp rfl rfl (p_not rfl rfl) ?_
  refine rz [(1, .p (AV.lists l1)), (7, .b (!r'1))] [] rfl rfl rfl ?_
  refine AW2_cond rfl (fun h2 => ?_) (fun h2 => ?_)
  · replace H := ite_then h2 H
    refine sg [0] rfl ?_
    refine rp rfl rfl (p_asg rfl rfl) ?_
    refine rz [(4, .i (2 : Int))] [] rfl rfl rfl ?_
    refine AW2_ret ?_
    have hz := some_elim H
    subst hz
    exact ⟨⟨res_tmp (.same _), trivial⟩, trivial⟩
  · replace H := ite_else (ne_true h2) H
    refine as2 [(1, .p (AV.lists l1))] [] rfl rfl rfl ?_
    refine AW2_skip ?_
    refine AW2_seq ?_
    refine sg [0, 1, 2] rfl ?_
    refine rp rfl rfl (p_move rfl rfl) ?_
    refine rp rfl rfl (p_lenl rfl Tryd.underlying33 rfl rfl) ?_
    refine rp rfl rfl (p_bin rfl rfl rfl rfl) ?_
    refine rz [(10, .b (decide ((l1.length : Int) > (64 : Int))))] [] rfl rfl rfl ?_
    refine AW2_if (p := (l1.length : Int) > (64 : Int)) rfl (fun h3 => ?_) (fun h3 => ?_)
    · replace H := ite_then h3 H
      refine sg [0] rfl ?_
      refine rp rfl rfl (p_asg rfl rfl) ?_
      refine rz [(4, .i (1 : Int))] [] rfl rfl rfl ?_
      refine AW2_ret ?_
      have hz := some_elim H
      subst hz
      exact ⟨⟨res_tmp (.same _), trivial⟩, trivial⟩
    · replace H := ite_else h3 H
      refine as2 [] [] rfl rfl rfl ?_
      refine AW2_skip ?_
      refine sg [0] rfl ?_
      refine rp rfl rfl (p_asg rfl rfl) ?_
      refine rz [(4, .i (0 : Int))] [] rfl rfl rfl ?_
      refine AW2_ret ?_
      have hz := some_elim H
      subst hz
      exact ⟨⟨res_tmp (.same _), trivial⟩, trivial⟩

/-! oracle.four -/
noncomputable def g_oracle_four (n0 : Int) : Option ((List UInt8)) :=
  letO (([UInt8.ofInt (ishr n0 24), UInt8.ofInt (ishr n0 16), UInt8.ofInt (ishr n0 8), UInt8.ofInt n0] : List UInt8)) fun t2'1 => some t2'1
set_option maxHeartbeats 4000000 in
set_option maxRecDepth 100000 in
theorem g_oracle_four_ac2 {n0 : Int} {r : (List UInt8)} (H : g_oracle_four n0 = some r) : AC2 Tryd.prog 88 (pureT [(AV.int n0)]) [] (.c (.own 2 r.length 1)) [(2, .pure (bcells r))] := by
  refine AC2_of_body (vs := [.c (.own 2 r.length 1)]) Tryd.func88 rfl rfl (Nat.le_of_ble_eq_true rfl) rfl ?_
  unfold g_oracle_four at H
  refine as2 [(0, .i n0)] [] rfl rfl rfl ?_
  refine sg [0] rfl ?_
  refine rp rfl rfl (p_asgn rfl) ?_
  refine rz [(0, .i n0)] [] rfl rfl rfl ?_
  refine sg [0, 1, 2, 3, 4, 5, 6, 7, 8, 9, 10, 11, 12] rfl ?_
  refine rp rfl rfl (p_move rfl rfl) ?_
  refine rp rfl rfl (p_ishr (n := 24) rfl rfl rfl rfl) ?_
  refine rp rfl rfl (p_i_u8 rfl Tryd.underlying3 Tryd.underlying5 rfl) ?_
  refine rp rfl rfl (p_move rfl rfl) ?_
  refine rp rfl rfl (p_ishr (n := 16) rfl rfl rfl rfl) ?_
  refine rp rfl rfl (p_i_u8 rfl Tryd.underlying3 Tryd.underlying5 rfl) ?_
  refine rp rfl rfl (p_move rfl rfl) ?_
  refine rp rfl rfl (p_ishr (n := 8) rfl rfl rfl rfl) ?_
  refine rp rfl rfl (p_i_u8 rfl Tryd.underlying3 Tryd.underlying5 rfl) ?_
  refine rp rfl rfl (p_move rfl rfl) ?_
  refine rp rfl rfl (p_i_u8 rfl Tryd.underlying3 Tryd.underlying5 rfl) ?_
  refine r_op rfl rfl (MakeD.opD (u_bs 14 rfl Tryd.underlying22 in_5 rfl one_5 (by decide) (by decide) rfl rfl rfl) rfl rfl rfl rfl) ?_
  refine rp rfl rfl (p_asg rfl rfl) ?_
  refine RunW_st [(2, .c (.own 14 ([UInt8.ofInt (ishr n0 24), UInt8.ofInt (ishr n0 16), UInt8.ofInt (ishr n0 8), UInt8.ofInt n0] : List UInt8).length 1))] [(14, .pure (bcells ([UInt8.ofInt (ishr n0 24), UInt8.ofInt (ishr n0 16), UInt8.ofInt (ishr n0 8), UInt8.ofInt n0] : List UInt8)))] rfl ⟨TLes.own rfl, trivial⟩ ⟨rfl, trivial⟩ ?_
  refine RunW_gho (Gho_ren 14 2 rfl rfl rfl rfl rfl) ?_
  refine rz [(2, .c (.own 2 ([UInt8.ofInt (ishr n0 24), UInt8.ofInt (ishr n0 16), UInt8.ofInt (ishr n0 8), UInt8.ofInt n0] : List UInt8).length 1))] [(2, .pure (bcells ([UInt8.ofInt (ishr n0 24), UInt8.ofInt (ishr n0 16), UInt8.ofInt (ishr n0 8), UInt8.ofInt n0] : List UInt8)))] rfl rfl rfl ?_
  refine gen1 (fun t2'1 => (⟨[(2, .c (.own 2 t2'1.length 1))], [(2, .pure (bcells t2'1))], 15⟩ : TS)) H ?_
  intro t2'1 H
  refine as2 [(2, .c (.own 2 t2'1.length 1))] [(2, .pure (bcells t2'1))] rfl rfl rfl ?_
  refine AW2_ret ?_
  have hz := some_elim H
  subst hz
  exact ⟨⟨res_tmp (.same _), trivial⟩, ⟨rfl, trivial⟩⟩
theorem g_oracle_four_ac {n0 : Int} {r : (List UInt8)} (H : g_oracle_four n0 = some r) : ACp Tryd.prog 88 [(AV.int n0)] (AV.bytes r) := ACp_pub (g_oracle_four_ac2 H) (fun _ _ hm => lent_own hm rfl (bl r) (by decide))

/-! oracle.frame -/
noncomputable def g_oracle_frame_l0 (parts1 : List (List UInt8)) : Int × (List UInt8) → Option ((Int × (List UInt8)) ⊕ (((List UInt8))))
  | (t16_0, out5_0) => (if t16_0 < (parts1.length : Int) then if 0 ≤ t16_0 ∧ t16_0 < (parts1.length : Int) then (g_oracle_four ((lrd parts1 t16_0.toNat).length : Int)).bind fun r'1 => if room (out5_0.length + r'1.length) 1 then if room ((out5_0 ++ r'1).length + (lrd parts1 t16_0.toNat).length) 1 then some (.inl (w64 (t16_0 + (1 : Int)), (out5_0 ++ r'1) ++ (lrd parts1 t16_0.toNat))) else none else none else none else some (.inr out5_0))
noncomputable def g_oracle_frame (tag0 : Int) (parts1 : List (List UInt8)) : Option ((List UInt8)) :=
  (loopO (g_oracle_frame_l0 parts1) ((0 : Int), ([UInt8.ofInt tag0, UInt8.ofInt (parts1.length : Int)] : List UInt8))).bind fun y'5 => some y'5
set_option maxHeartbeats 4000000 in
set_option maxRecDepth 100000 in
theorem g_oracle_frame_ac2 {tag0 : Int} {parts1 : List (List UInt8)} {r : (List UInt8)} (H : g_oracle_frame tag0 parts1 = some r) : AC2 Tryd.prog 80 (pureT [(AV.int tag0), (AV.lists parts1)]) [] (.c (.own 4 r.length 1)) [(4, .pure (bcells r))] := by
  refine AC2_of_body (vs := [.c (.own 4 r.length 1)]) Tryd.func80 rfl rfl (Nat.le_of_ble_eq_true rfl) rfl ?_
  unfold g_oracle_frame at H
  refine as2 [(0, .i tag0), (1, .p (AV.lists parts1))] [] rfl rfl rfl ?_
  refine sg [0] rfl ?_
  refine rp rfl rfl (p_asgn rfl) ?_
  refine rz [(0, .i tag0), (1, .p (AV.lists parts1))] [] rfl rfl rfl ?_
  refine sg [0, 1, 2, 3, 4, 5, 6] rfl ?_
  refine rp rfl rfl (p_move rfl rfl) ?_
  refine rp rfl rfl (p_i_u8 rfl Tryd.underlying3 Tryd.underlying5 rfl) ?_
  refine rp rfl rfl (p_move rfl rfl) ?_
  refine rp rfl rfl (p_lenl rfl Tryd.underlying33 rfl rfl) ?_
  refine rp rfl rfl (p_i_u8 rfl Tryd.underlying3 Tryd.underlying5 rfl) ?_
  refine r_op rfl rfl (MakeD.opD (u_bs 13 rfl Tryd.underlying22 in_5 rfl one_5 (by decide) (by decide) rfl rfl rfl) rfl rfl rfl rfl) ?_
  refine rp rfl rfl (p_asg rfl rfl) ?_
  refine RunW_st [(1, .p (AV.lists parts1)), (5, .c (.own 13 ([UInt8.ofInt tag0, UInt8.ofInt (parts1.length : Int)] : List UInt8).length 1))] [(13, .pure (bcells ([UInt8.ofInt tag0, UInt8.ofInt (parts1.length : Int)] : List UInt8)))] rfl ⟨TLes.same _, TLes.own rfl, trivial⟩ ⟨rfl, trivial⟩ ?_
  refine RunW_gho (Gho_ren 13 5 rfl rfl rfl rfl rfl) ?_
  refine rz [(1, .p (AV.lists parts1)), (5, .c (.own 5 ([UInt8.ofInt tag0, UInt8.ofInt (parts1.length : Int)] : List UInt8).length 1))] [(5, .pure (bcells ([UInt8.ofInt tag0, UInt8.ofInt (parts1.length : Int)] : List UInt8)))] rfl rfl rfl ?_
  refine AW2_seq ?_
  refine sg [0, 1, 2] rfl ?_
  refine rp rfl rfl (p_move rfl rfl) ?_
  refine rp rfl rfl (p_lenl rfl Tryd.underlying33 rfl rfl) ?_
  refine rp rfl rfl (p_move rfl rfl) ?_
  refine rz [(5, .c (.own 5 ([UInt8.ofInt tag0, UInt8.ofInt (parts1.length : Int)] : List UInt8).length 1)), (14, .p (AV.lists parts1)), (15, .i (parts1.length : Int)), (16, .i (0 : Int))] [(5, .pure (bcells ([UInt8.ofInt tag0, UInt8.ofInt (parts1.length : Int)] : List UInt8)))] rfl rfl rfl ?_
  refine AW2_block ?_
  refine as2 [(5, .c (.own 5 ([UInt8.ofInt tag0, UInt8.ofInt (parts1.length : Int)] : List UInt8).length 1)), (14, .p (AV.lists parts1)), (15, .i (parts1.length : Int)), (16, .i (0 : Int))] [(5, .pure (bcells ([UInt8.ofInt tag0, UInt8.ofInt (parts1.length : Int)] : List UInt8)))] rfl rfl rfl ?_
  refine bindK H fun y'5 h6 H => ?_
  refine AW2_loopO (fun a'2 : Int × (List UInt8) => (⟨[(5, .c (.own 5 a'2.2.length 1)), (14, .p (AV.lists parts1)), (15, .i (parts1.length : Int)), (16, .i a'2.1)], [(5, .pure (bcells a'2.2))], 29⟩ : TS)) (fun (y'3 : ((List UInt8))) e s' => e = Go.Exit.exit 0 ∧ s' = (⟨[(5, .c (.own 5 y'3.length 1))], [(5, .pure (bcells y'3))], 29⟩ : TS)) h6 rfl (fun a x hx => ?_) (fun e s' hs => ?_)
  · clear H
    obtain ⟨t16_0, out5_0⟩ := a
    have H := hx
    clear hx
    unfold g_oracle_frame_l0 at H
    refine sg [0] rfl ?_
    refine rp rfl rfl (p_bin rfl rfl rfl rfl) ?_
    refine rz [(5, .c (.own 5 out5_0.length 1)), (14, .p (AV.lists parts1)), (15, .i (parts1.length : Int)), (16, .i t16_0), (17, .b (decide (t16_0 < (parts1.length : Int))))] [(5, .pure (bcells out5_0))] rfl rfl rfl ?_
    refine AW2_seq ?_
    refine AW2_if (p := t16_0 < (parts1.length : Int)) rfl (fun h1 => ?_) (fun h1 => ?_)
    · replace H := ite_then h1 H
      refine as2 [(5, .c (.own 5 out5_0.length 1)), (14, .p (AV.lists parts1)), (15, .i (parts1.length : Int)), (16, .i t16_0)] [(5, .pure (bcells out5_0))] rfl rfl rfl ?_
      refine AW2_skip ?_
      refine AW2_seq ?_
      refine AW2_block ?_
      refine sg [0, 1, 2] rfl ?_
      refine chkK H fun h2 H => ?_
      refine rp rfl rfl (u_ixl rfl rfl Tryd.underlying33 in_22 rfl rfl (ixe h2) (ixn h2) (lne (ixn h2))) ?_
      refine rp rfl rfl (u_ld rfl rfl Tryd.underlying22 rfl rfl (Sub.map default (ixn h2))) ?_
      refine rp rfl rfl (p_asg rfl rfl) ?_
      refine rz [(5, .c (.own 5 out5_0.length 1)), (7, .y (lrd parts1 t16_0.toNat)), (14, .p (AV.lists parts1)), (15, .i (parts1.length : Int)), (16, .i t16_0)] [(5, .pure (bcells out5_0))] rfl rfl rfl ?_
      refine AW2_reg [0, 1, 2, 3, 4, 5, 6, 7] rfl ?_
      refine rp rfl rfl (p_move rfl rfl) ?_
      refine rp rfl rfl (p_move rfl rfl) ?_
      refine rp rfl rfl (p_lenl rfl Tryd.underlying22 rfl rfl) ?_
      refine bindK H fun r'1 h3 H => ?_
      refine rp rfl rfl (p_callp rfl rfl rfl Tryd.func88 rfl rfl (g_oracle_four_ac h3) ⟨rfl, trivial⟩) ?_
      refine chkK H fun h4 H => ?_
      refine r_op rfl rfl (u_app [5, 20] rfl rfl rfl rfl Tryd.underlying22 Tryd.underlying22 in_5 rfl rfl rfl (bl out5_0) (by decide) rfl (bl r'1) h4 (by decide) rfl rfl (bapp out5_0 r'1) (lapp out5_0 r'1)) ?_
      refine rp rfl rfl (p_move rfl rfl) ?_
      refine chkK H fun h5 H => ?_
      refine r_op rfl rfl (u_app [24] rfl rfl rfl rfl Tryd.underlying22 Tryd.underlying22 in_5 rfl rfl rfl (bl (out5_0 ++ r'1)) (by decide) rfl (bl (lrd parts1 t16_0.toNat)) h5 (by decide) rfl rfl (bapp (out5_0 ++ r'1) (lrd parts1 t16_0.toNat)) (lapp (out5_0 ++ r'1) (lrd parts1 t16_0.toNat))) ?_
      refine rp rfl rfl (p_asg rfl rfl) ?_
      refine rz [(5, .c (.own 5 ((out5_0 ++ r'1) ++ (lrd parts1 t16_0.toNat)).length 1)), (14, .p (AV.lists parts1)), (15, .i (parts1.length : Int)), (16, .i t16_0)] [(5, .pure (bcells ((out5_0 ++ r'1) ++ (lrd parts1 t16_0.toNat))))] rfl rfl rfl ?_
      refine AW2_reg [0, 1] rfl ?_
      refine rp rfl rfl (p_bin rfl rfl rfl rfl) ?_
      refine rp rfl rfl (p_move rfl rfl) ?_
      refine rz [(5, .c (.own 5 ((out5_0 ++ r'1) ++ (lrd parts1 t16_0.toNat)).length 1)), (14, .p (AV.lists parts1)), (15, .i (parts1.length : Int)), (16, .i (w64 (t16_0 + (1 : Int))))] [(5, .pure (bcells ((out5_0 ++ r'1) ++ (lrd parts1 t16_0.toNat))))] rfl rfl rfl ?_
      have hz := some_elim H
      subst hz
      exact ⟨rfl, rfl⟩
    · replace H := ite_else h1 H
      refine as2 [(5, .c (.own 5 out5_0.length 1))] [(5, .pure (bcells out5_0))] rfl rfl rfl ?_
      refine AW2_exit ?_
      refine thenQ2_exit ?_
      have hz := some_elim H
      subst hz
      exact ⟨rfl, rfl⟩
  · obtain ⟨rfl, rfl⟩ := hs
    refine ⟨by simp, ?_⟩
    refine blockQ2_exit ?_
    refine sg [0, 1] rfl ?_
    refine rp rfl rfl (p_move rfl rfl) ?_
    refine rp rfl rfl (p_asg rfl rfl) ?_
    refine rs [(4, .c (.own 5 y'5.length 1))] [(5, .pure (bcells y'5))] rfl rfl rfl ?_
    refine RunW_gho (Gho_ren 5 4 rfl rfl rfl rfl rfl) ?_
    refine rz [(4, .c (.own 4 y'5.length 1))] [(4, .pure (bcells y'5))] rfl rfl rfl ?_
    refine as2 [(4, .c (.own 4 y'5.length 1))] [(4, .pure (bcells y'5))] rfl rfl rfl ?_
    refine AW2_ret ?_
    have hz := some_elim H
    subst hz
    exact ⟨⟨res_tmp (.same _), trivial⟩, ⟨rfl, trivial⟩⟩
theorem g_oracle_frame_ac {tag0 : Int} {parts1 : List (List UInt8)} {r : (List UInt8)} (H : g_oracle_frame tag0 parts1 = some r) : ACp Tryd.prog 80 [(AV.int tag0), (AV.lists parts1)] (AV.bytes r) := ACp_pub (g_oracle_frame_ac2 H) (fun _ _ hm => lent_own hm rfl (bl r) (by decide))

/-! oracle.Frame -/
noncomputable def g_oracle_Frame_l0 (parts1 : List (List UInt8)) : Int × Int → Option ((Int × Int) ⊕ (((List UInt8) × Int) ⊕ Int))
  | (all6_0, t20_0) => (if t20_0 < (parts1.length : Int) then if 0 ≤ t20_0 ∧ t20_0 < (parts1.length : Int) then (if ((lrd parts1 t20_0.toNat).length : Int) > (16777216 : Int) then some (.inr (.inl ([], (1 : Int)))) else letO (w64 (all6_0 + (w64 ((4 : Int) + ((lrd parts1 t20_0.toNat).length : Int))))) fun all6'1 => some (.inl (all6'1, w64 (t20_0 + (1 : Int))))) else none else some (.inr (.inr all6_0)))
noncomputable def g_oracle_Frame (tag0 : Int) (parts1 : List (List UInt8)) : Option ((List UInt8) × Int) :=
  (if (tag0 < (1 : Int)) ∨ (tag0 > (9 : Int)) then some ([], (6 : Int)) else (if (parts1.length : Int) > (8 : Int) then some ([], (1 : Int)) else (loopO (g_oracle_Frame_l0 parts1) ((2 : Int), (0 : Int))).bind fun o'5 => match o'5 with | .inl y'6 => some y'6 | .inr (y'7) => (if y'7 > (16777216 : Int) then some ([], (1 : Int)) else (g_oracle_frame tag0 parts1).bind fun r'8 => some (r'8, (0 : Int)))))
set_option maxHeartbeats 4000000 in
set_option maxRecDepth 100000 in
theorem g_oracle_Frame_ac {tag0 : Int} {parts1 : List (List UInt8)} {r : (List UInt8) × Int} (H : g_oracle_Frame tag0 parts1 = some r) : ACp Tryd.prog 72 [(AV.int tag0), (AV.lists parts1)] (.tup [(AV.bytes r.1), (AV.int r.2)]) := by
  refine ACp_of (AC2_of_body (vs := [.y r.1, .i r.2]) Tryd.func72 rfl rfl (Nat.le_of_ble_eq_true rfl) rfl ?_) (fun _ => .same _)
  unfold g_oracle_Frame at H
  refine as2 [(0, .i tag0), (1, .p (AV.lists parts1))] [] rfl rfl rfl ?_
  refine sg [0, 1] rfl ?_
  refine rp rfl rfl (p_asgn rfl) ?_
  refine rp rfl rfl (p_asg rfl rfl) ?_
  refine rz [(0, .i tag0), (1, .p (AV.lists parts1))] [] rfl rfl rfl ?_
  refine AW2_seq ?_
  refine AW2_seq ?_
  refine AW2_mid (⟨[(0, .i tag0), (1, .p (AV.lists parts1)), (14, .b (decide ((tag0 < (1 : Int)) ∨ (tag0 > (9 : Int)))))], [], 38⟩ : TS) ?_ ?_
  · refine AW2_reg [0, 1, 2, 3, 4, 5] rfl ?_
    refine rp rfl rfl (p_move rfl rfl) ?_
    refine rp rfl rfl (p_bin rfl rfl rfl rfl) ?_
    refine rp rfl rfl (p_move rfl rfl) ?_
    refine (Classical.em (tag0 < (1 : Int))).elim (fun h1 => ?_) (fun h1 => ?_)
    · refine r_off rfl rfl rfl rfl (decide_eq_true (p := tag0 < (1 : Int)) h1) rfl rfl ?_
      refine r_off rfl rfl rfl rfl (decide_eq_true (p := tag0 < (1 : Int)) h1) rfl rfl ?_
      refine rp rfl rfl (p_pkt rfl rfl (decide_eq_true (p := tag0 < (1 : Int)) h1) (tb (decide_eq_true (p := (tag0 < (1 : Int)) ∨ (tag0 > (9 : Int))) (Or.inl h1)).symm)) ?_
      refine rs [(0, .i tag0), (1, .p (AV.lists parts1)), (14, .b (decide ((tag0 < (1 : Int)) ∨ (tag0 > (9 : Int)))))] [] rfl rfl rfl ?_
      exact RunW_nil rfl
    · refine r_on rfl rfl rfl rfl (decide_eq_false (p := tag0 < (1 : Int)) h1) rfl (PureD.opD (p_move rfl rfl)) ?_
      refine r_on rfl rfl rfl rfl (decide_eq_false (p := tag0 < (1 : Int)) h1) rfl (PureD.opD (p_bin rfl rfl rfl rfl)) ?_
      refine rp rfl rfl (p_pkf rfl rfl (decide_eq_false (p := tag0 < (1 : Int)) h1) (tb ((or_l (p := tag0 < (1 : Int)) (q := tag0 > (9 : Int)) h1)))) ?_
      refine rs [(0, .i tag0), (1, .p (AV.lists parts1)), (14, .b (decide ((tag0 < (1 : Int)) ∨ (tag0 > (9 : Int)))))] [] rfl rfl rfl ?_
      exact RunW_nil rfl
  · refine AW2_if (p := (tag0 < (1 : Int)) ∨ (tag0 > (9 : Int))) rfl (fun h2 => ?_) (fun h2 => ?_)
    · replace H := ite_then h2 H
      refine sg [0, 1] rfl ?_
      refine rp rfl rfl (p_asgn rfl) ?_
      refine rp rfl rfl (p_asg rfl rfl) ?_
      refine rz [(4, .p .nil), (5, .i (6 : Int))] [] rfl rfl rfl ?_
      refine AW2_ret ?_
      have hz := some_elim H
      subst hz
      exact ⟨⟨res_tmp TLes.nil0, res_tmp (.same _), trivial⟩, trivial⟩
    · replace H := ite_else h2 H
      refine as2 [(0, .i tag0), (1, .p (AV.lists parts1))] [] rfl rfl rfl ?_
      refine AW2_skip ?_
      refine AW2_seq ?_
      refine sg [0, 1, 2] rfl ?_
      refine rp rfl rfl (p_move rfl rfl) ?_
      refine rp rfl rfl (p_lenl rfl Tryd.underlying33 rfl rfl) ?_
      refine rp rfl rfl (p_bin rfl rfl rfl rfl) ?_
      refine rz [(0, .i tag0), (1, .p (AV.lists parts1)), (17, .b (decide ((parts1.length : Int) > (8 : Int))))] [] rfl rfl rfl ?_
      refine AW2_if (p := (parts1.length : Int) > (8 : Int)) rfl (fun h3 => ?_) (fun h3 => ?_)
      · replace H := ite_then h3 H
        refine sg [0, 1] rfl ?_
        refine rp rfl rfl (p_asgn rfl) ?_
        refine rp rfl rfl (p_asg rfl rfl) ?_
        refine rz [(4, .p .nil), (5, .i (1 : Int))] [] rfl rfl rfl ?_
        refine AW2_ret ?_
        have hz := some_elim H
        subst hz
        exact ⟨⟨res_tmp TLes.nil0, res_tmp (.same _), trivial⟩, trivial⟩
      · replace H := ite_else h3 H
        refine as2 [(0, .i tag0), (1, .p (AV.lists parts1))] [] rfl rfl rfl ?_
        refine AW2_skip ?_
        refine sg [0] rfl ?_
        refine rp rfl rfl (p_asg rfl rfl) ?_
        refine rz [(0, .i tag0), (1, .p (AV.lists parts1)), (6, .i (2 : Int))] [] rfl rfl rfl ?_
        refine AW2_seq ?_
        refine sg [0, 1, 2] rfl ?_
        refine rp rfl rfl (p_move rfl rfl) ?_
        refine rp rfl rfl (p_lenl rfl Tryd.underlying33 rfl rfl) ?_
        refine rp rfl rfl (p_move rfl rfl) ?_
        refine rz [(0, .i tag0), (1, .p (AV.lists parts1)), (6, .i (2 : Int)), (18, .p (AV.lists parts1)), (19, .i (parts1.length : Int)), (20, .i (0 : Int))] [] rfl rfl rfl ?_
        refine AW2_block ?_
        refine as2 [(0, .i tag0), (1, .p (AV.lists parts1)), (6, .i (2 : Int)), (18, .p (AV.lists parts1)), (19, .i (parts1.length : Int)), (20, .i (0 : Int))] [] rfl rfl rfl ?_
        refine bindK H fun o'5 h7 H => ?_
        refine AW2_loopO (fun a'2 : Int × Int => (⟨[(0, .i tag0), (1, .p (AV.lists parts1)), (6, .i a'2.1), (18, .p (AV.lists parts1)), (19, .i (parts1.length : Int)), (20, .i a'2.2)], [], 38⟩ : TS)) (fun (o : ((List UInt8) × Int) ⊕ Int) e s' => match o with | .inl y'3 => e = Go.Exit.ret ∧ ResAll Tryd.prog s' [ResultVar.tmp 4, ResultVar.tmp 5] [.y y'3.1, .i y'3.2] ∧ HFits s' [] | .inr (y'4) => e = Go.Exit.exit 0 ∧ s' = (⟨[(0, .i tag0), (1, .p (AV.lists parts1)), (6, .i y'4)], [], 38⟩ : TS)) h7 rfl (fun a x hx => ?_) (fun e s' hs => ?_)
        · clear H
          obtain ⟨all6_0, t20_0⟩ := a
          have H := hx
          clear hx
          unfold g_oracle_Frame_l0 at H
          refine sg [0] rfl ?_
          refine rp rfl rfl (p_bin rfl rfl rfl rfl) ?_
          refine rz [(0, .i tag0), (1, .p (AV.lists parts1)), (6, .i all6_0), (18, .p (AV.lists parts1)), (19, .i (parts1.length : Int)), (20, .i t20_0), (21, .b (decide (t20_0 < (parts1.length : Int))))] [] rfl rfl rfl ?_
          refine AW2_seq ?_
          refine AW2_if (p := t20_0 < (parts1.length : Int)) rfl (fun h4 => ?_) (fun h4 => ?_)
          · replace H := ite_then h4 H
            refine as2 [(0, .i tag0), (1, .p (AV.lists parts1)), (6, .i all6_0), (18, .p (AV.lists parts1)), (19, .i (parts1.length : Int)), (20, .i t20_0)] [] rfl rfl rfl ?_
            refine AW2_skip ?_
            refine AW2_seq ?_
            refine AW2_block ?_
            refine sg [0, 1, 2] rfl ?_
            refine chkK H fun h5 H => ?_
            refine rp rfl rfl (u_ixl rfl rfl Tryd.underlying33 in_22 rfl rfl (ixe h5) (ixn h5) (lne (ixn h5))) ?_
            refine rp rfl rfl (u_ld rfl rfl Tryd.underlying22 rfl rfl (Sub.map default (ixn h5))) ?_
            refine rp rfl rfl (p_asg rfl rfl) ?_
            refine rz [(0, .i tag0), (1, .p (AV.lists parts1)), (6, .i all6_0), (8, .y (lrd parts1 t20_0.toNat)), (18, .p (AV.lists parts1)), (19, .i (parts1.length : Int)), (20, .i t20_0)] [] rfl rfl rfl ?_
            refine AW2_seq ?_
            refine sg [0, 1, 2] rfl ?_
            refine rp rfl rfl (p_move rfl rfl) ?_
            refine rp rfl rfl (p_lenl rfl Tryd.underlying22 rfl rfl) ?_
            refine rp rfl rfl (p_bin rfl rfl rfl rfl) ?_
            refine rz [(0, .i tag0), (1, .p (AV.lists parts1)), (6, .i all6_0), (8, .y (lrd parts1 t20_0.toNat)), (18, .p (AV.lists parts1)), (19, .i (parts1.length : Int)), (20, .i t20_0), (26, .b (decide (((lrd parts1 t20_0.toNat).length : Int) > (16777216 : Int))))] [] rfl rfl rfl ?_
            refine AW2_if (p := ((lrd parts1 t20_0.toNat).length : Int) > (16777216 : Int)) rfl (fun h6 => ?_) (fun h6 => ?_)
            · replace H := ite_then h6 H
              refine sg [0, 1] rfl ?_
              refine rp rfl rfl (p_asgn rfl) ?_
              refine rp rfl rfl (p_asg rfl rfl) ?_
              refine rz [(4, .p .nil), (5, .i (1 : Int))] [] rfl rfl rfl ?_
              refine AW2_ret ?_
              have hz := some_elim H
              subst hz
              exact ⟨rfl, ⟨res_tmp TLes.nil0, res_tmp (.same _), trivial⟩, trivial⟩
            · replace H := ite_else h6 H
              refine as2 [(0, .i tag0), (1, .p (AV.lists parts1)), (6, .i all6_0), (8, .y (lrd parts1 t20_0.toNat)), (18, .p (AV.lists parts1)), (19, .i (parts1.length : Int)), (20, .i t20_0)] [] rfl rfl rfl ?_
              refine AW2_skip ?_
              refine AW2_reg [0, 1, 2, 3, 4, 5] rfl ?_
              refine rp rfl rfl (p_move rfl rfl) ?_
              refine rp rfl rfl (p_move rfl rfl) ?_
              refine rp rfl rfl (p_lenl rfl Tryd.underlying22 rfl rfl) ?_
              refine rp rfl rfl (p_bin rfl rfl rfl rfl) ?_
              refine rp rfl rfl (p_bin rfl rfl rfl rfl) ?_
              refine rp rfl rfl (p_asg rfl rfl) ?_
              refine rz [(0, .i tag0), (1, .p (AV.lists parts1)), (6, .i (w64 (all6_0 + (w64 ((4 : Int) + ((lrd parts1 t20_0.toNat).length : Int)))))), (18, .p (AV.lists parts1)), (19, .i (parts1.length : Int)), (20, .i t20_0)] [] rfl rfl rfl ?_
              refine gen1 (fun all6'1 => (⟨[(0, .i tag0), (1, .p (AV.lists parts1)), (6, .i all6'1), (18, .p (AV.lists parts1)), (19, .i (parts1.length : Int)), (20, .i t20_0)], [], 38⟩ : TS)) H ?_
              intro all6'1 H
              refine AW2_reg [0, 1] rfl ?_
              refine rp rfl rfl (p_bin rfl rfl rfl rfl) ?_
              refine rp rfl rfl (p_move rfl rfl) ?_
              refine rz [(0, .i tag0), (1, .p (AV.lists parts1)), (6, .i all6'1), (18, .p (AV.lists parts1)), (19, .i (parts1.length : Int)), (20, .i (w64 (t20_0 + (1 : Int))))] [] rfl rfl rfl ?_
              have hz := some_elim H
              subst hz
              exact ⟨rfl, rfl⟩
          · replace H := ite_else h4 H
            refine as2 [(0, .i tag0), (1, .p (AV.lists parts1)), (6, .i all6_0)] [] rfl rfl rfl ?_
            refine AW2_exit ?_
            refine thenQ2_exit ?_
            have hz := some_elim H
            subst hz
            exact ⟨rfl, rfl⟩
        · rcases o'5 with y'6 | y'7
          · obtain ⟨rfl, hs⟩ := hs
            refine ⟨by simp, ?_⟩
            have hz := some_elim H
            subst hz
            exact ⟨hs.1, hs.2⟩
          · obtain ⟨rfl, rfl⟩ := hs
            refine ⟨by simp, ?_⟩
            refine blockQ2_exit ?_
            refine AW2_seq ?_
            refine sg [0, 1] rfl ?_
            refine rp rfl rfl (p_move rfl rfl) ?_
            refine rp rfl rfl (p_bin rfl rfl rfl rfl) ?_
            refine rz [(0, .i tag0), (1, .p (AV.lists parts1)), (34, .b (decide (y'7 > (16777216 : Int))))] [] rfl rfl rfl ?_
            refine AW2_if (p := y'7 > (16777216 : Int)) rfl (fun h8 => ?_) (fun h8 => ?_)
            · replace H := ite_then h8 H
              refine sg [0, 1] rfl ?_
              refine rp rfl rfl (p_asgn rfl) ?_
              refine rp rfl rfl (p_asg rfl rfl) ?_
              refine rz [(4, .p .nil), (5, .i (1 : Int))] [] rfl rfl rfl ?_
              refine AW2_ret ?_
              have hz := some_elim H
              subst hz
              exact ⟨⟨res_tmp TLes.nil0, res_tmp (.same _), trivial⟩, trivial⟩
            · replace H := ite_else h8 H
              refine as2 [(0, .i tag0), (1, .p (AV.lists parts1))] [] rfl rfl rfl ?_
              refine AW2_skip ?_
              refine sg [0, 1, 2, 3, 4] rfl ?_
              refine rp rfl rfl (p_move rfl rfl) ?_
              refine rp rfl rfl (p_move rfl rfl) ?_
              refine bindK H fun r'8 h9 H => ?_
              refine rp rfl rfl (p_callp rfl rfl rfl Tryd.func80 rfl rfl (g_oracle_frame_ac h9) ⟨rfl, rfl, trivial⟩) ?_
              refine rp rfl rfl (p_asg rfl rfl) ?_
              refine rp rfl rfl (p_asg rfl rfl) ?_
              refine rz [(4, .y r'8), (5, .i (0 : Int))] [] rfl rfl rfl ?_
              refine AW2_ret ?_
              have hz := some_elim H
              subst hz
              exact ⟨⟨res_tmp (.same _), res_tmp (.same _), trivial⟩, trivial⟩

/-! sum.Begin -/
noncomputable def g_sum_Begin : Option (GStream) :=
  letO ({ GStream.zero with H := #v[(1779033703 : UInt32), (3144134277 : UInt32), (1013904242 : UInt32), (2773480762 : UInt32), (1359893119 : UInt32), (2600822924 : UInt32), (528734635 : UInt32), (1541459225 : UInt32)] }) fun t0'1 => some t0'1
set_option maxHeartbeats 4000000 in
set_option maxRecDepth 100000 in
theorem g_sum_Begin_ac {r : GStream} (H : g_sum_Begin = some r) : ACp Tryd.prog 83 [] (.agg (GStream.cs r)) := by
  refine ACp_of (AC2_of_body (vs := [.g (GStream.cs r)]) Tryd.func83 rfl rfl (Nat.le_of_ble_eq_true rfl) rfl ?_) (fun _ => .same _)
  unfold g_sum_Begin at H
  refine as2 [] [] rfl rfl rfl ?_
  refine sg [0] rfl ?_
  refine r_op rfl rfl (MakeD.opD (u_alloc 0 rfl in_96 one_96 zc_96) rfl rfl rfl rfl) ?_
  refine rz [(0, .q 0 (0))] [(0, .pure (GStream.cs GStream.zero))] rfl rfl rfl ?_
  refine sg [0, 1, 2] rfl ?_
  refine rp rfl rfl (u_blda rfl in_93 one_93 rfl Tryd.underlying93 in_92 rfl rfl) ?_
  refine rp rfl rfl (u_bld rfl in_96 one_96 zc_96 pl_96 rfl (af_cons rfl (vmap_len (f := AV.u32) (#v[(1779033703 : UInt32), (3144134277 : UInt32), (1013904242 : UInt32), (2773480762 : UInt32), (1359893119 : UInt32), (2600822924 : UInt32), (528734635 : UInt32), (1541459225 : UInt32)])) (GStream.upd0 GStream.zero (#v[(1779033703 : UInt32), (3144134277 : UInt32), (1013904242 : UInt32), (2773480762 : UInt32), (1359893119 : UInt32), (2600822924 : UInt32), (528734635 : UInt32), (1541459225 : UInt32)])) rfl)) ?_
  refine r_op rfl rfl (u_st rfl rfl rfl rfl rfl in_96 (GStream.len ({ GStream.zero with H := #v[(1779033703 : UInt32), (3144134277 : UInt32), (1013904242 : UInt32), (2773480762 : UInt32), (1359893119 : UInt32), (2600822924 : UInt32), (528734635 : UInt32), (1541459225 : UInt32)] })) (ne_of_lt (n := 0) (Nat.lt_of_lt_of_eq (by decide) (Eq.symm (GStream.len GStream.zero)))) (Upd.refl ((GStream.len ({ GStream.zero with H := #v[(1779033703 : UInt32), (3144134277 : UInt32), (1013904242 : UInt32), (2773480762 : UInt32), (1359893119 : UInt32), (2600822924 : UInt32), (528734635 : UInt32), (1541459225 : UInt32)] })).trans (GStream.len GStream.zero).symm))) ?_
  refine rz [(0, .q 0 (0))] [(0, .pure (GStream.cs ({ GStream.zero with H := #v[(1779033703 : UInt32), (3144134277 : UInt32), (1013904242 : UInt32), (2773480762 : UInt32), (1359893119 : UInt32), (2600822924 : UInt32), (528734635 : UInt32), (1541459225 : UInt32)] })))] rfl rfl rfl ?_
  refine gen1 (fun t0'1 => (⟨[(0, .q 0 (0))], [(0, .pure (GStream.cs t0'1))], 3⟩ : TS)) H ?_
  intro t0'1 H
  refine AW2_ret ?_
  have hz := some_elim H
  subst hz
  exact ⟨⟨res_cella Tryd.underlying96 rfl in_96.sz rfl (Sub.le (Sub.refl _) (GStream.len t0'1)) (by decide) (Sub.take (Sub.refl _) (GStream.len t0'1)), trivial⟩, trivial⟩

/-! bits.RotateLeft32 -/
noncomputable def g_bits_RotateLeft32 (x0 : UInt32) (k1 : Int) : Option (UInt32) :=
  letO ((shl_u32 x0 (((UInt64.ofInt k1) &&& (31 : UInt64)).toNat)) ||| (shr_u32 x0 (((32 : UInt64) - ((UInt64.ofInt k1) &&& (31 : UInt64))).toNat))) fun t4'1 => some t4'1
set_option maxHeartbeats 4000000 in
set_option maxRecDepth 100000 in
theorem g_bits_RotateLeft32_ac {x0 : UInt32} {k1 : Int} {r : UInt32} (H : g_bits_RotateLeft32 x0 k1 = some r) : ACp Tryd.prog 95 [(AV.u32 x0), (AV.int k1)] (AV.u32 r) := by
  refine ACp_of (AC2_of_body (vs := [.p (AV.u32 r)]) Tryd.func95 rfl rfl (Nat.le_of_ble_eq_true rfl) rfl ?_) (fun _ => .same _)
  unfold g_bits_RotateLeft32 at H
  refine as2 [(0, .p (AV.u32 x0)), (1, .i k1)] [] rfl rfl rfl ?_
  refine sg [0] rfl ?_
  refine rp rfl rfl (p_asg rfl rfl) ?_
  refine rz [(0, .p (AV.u32 x0)), (1, .i k1)] [] rfl rfl rfl ?_
  refine sg [0, 1, 2, 3] rfl ?_
  refine rp rfl rfl (p_move rfl rfl) ?_
  refine rp rfl rfl (p_i_u64 rfl Tryd.underlying3 Tryd.underlying110 rfl) ?_
  refine rp rfl rfl (p_u64and (a := UInt64.ofInt k1) (b := (31 : UInt64)) rfl rfl rfl) ?_
  refine rp rfl rfl (p_asg rfl rfl) ?_
  refine rz [(0, .p (AV.u32 x0)), (5, .p (AV.u64 ((UInt64.ofInt k1) &&& (31 : UInt64))))] [] rfl rfl rfl ?_
  refine sg [0, 1, 2, 3, 4, 5, 6, 7, 8] rfl ?_
  refine rp rfl rfl (p_move rfl rfl) ?_
  refine rp rfl rfl (p_move rfl rfl) ?_
  refine rp rfl rfl (p_u32shl (n := ((UInt64.ofInt k1) &&& (31 : UInt64)).toNat) rfl rfl rfl rfl) ?_
  refine rp rfl rfl (p_move rfl rfl) ?_
  refine rp rfl rfl (p_move rfl rfl) ?_
  refine rp rfl rfl (p_u64sub (a := (32 : UInt64)) (b := (UInt64.ofInt k1) &&& (31 : UInt64)) rfl rfl rfl) ?_
  refine rp rfl rfl (p_u32shr (n := ((32 : UInt64) - ((UInt64.ofInt k1) &&& (31 : UInt64))).toNat) rfl rfl rfl rfl) ?_
  refine rp rfl rfl (p_u32or (a := shl_u32 x0 (((UInt64.ofInt k1) &&& (31 : UInt64)).toNat)) (b := shr_u32 x0 (((32 : UInt64) - ((UInt64.ofInt k1) &&& (31 : UInt64))).toNat)) rfl rfl rfl) ?_
  refine rp rfl rfl (p_asg rfl rfl) ?_
  refine rz [(4, .p (AV.u32 ((shl_u32 x0 (((UInt64.ofInt k1) &&& (31 : UInt64)).toNat)) ||| (shr_u32 x0 (((32 : UInt64) - ((UInt64.ofInt k1) &&& (31 : UInt64))).toNat)))))] [] rfl rfl rfl ?_
  refine gen1 (fun t4'1 => (⟨[(4, .p (AV.u32 t4'1))], [], 17⟩ : TS)) H ?_
  intro t4'1 H
  refine AW2_ret ?_
  have hz := some_elim H
  subst hz
  exact ⟨⟨res_tmp (.same _), trivial⟩, trivial⟩

/-! sum.turn -/
noncomputable def g_sum_turn_l0 (b1 : Vector UInt8 64) : Int × (Vector UInt32 64) → Option ((Int × (Vector UInt32 64)) ⊕ (((Vector UInt32 64))))
  | (t20_0, w5_0) => (if t20_0 < (16 : Int) then if 0 ≤ w64 ((4 : Int) * t20_0) ∧ w64 ((4 : Int) * t20_0) < (64 : Int) then if 0 ≤ w64 ((w64 ((4 : Int) * t20_0)) + (1 : Int)) ∧ w64 ((w64 ((4 : Int) * t20_0)) + (1 : Int)) < (64 : Int) then if 0 ≤ w64 ((w64 ((4 : Int) * t20_0)) + (2 : Int)) ∧ w64 ((w64 ((4 : Int) * t20_0)) + (2 : Int)) < (64 : Int) then if 0 ≤ w64 ((w64 ((4 : Int) * t20_0)) + (3 : Int)) ∧ w64 ((w64 ((4 : Int) * t20_0)) + (3 : Int)) < (64 : Int) then if 0 ≤ t20_0 ∧ t20_0 < (64 : Int) then letO ((vwr w5_0 t20_0.toNat ((((shl_u32 ((vrd b1 ((w64 ((4 : Int) * t20_0)).toNat)).toUInt32) 24) ||| (shl_u32 ((vrd b1 ((w64 ((w64 ((4 : Int) * t20_0)) + (1 : Int))).toNat)).toUInt32) 16)) ||| (shl_u32 ((vrd b1 ((w64 ((w64 ((4 : Int) * t20_0)) + (2 : Int))).toNat)).toUInt32) 8)) ||| ((vrd b1 ((w64 ((w64 ((4 : Int) * t20_0)) + (3 : Int))).toNat)).toUInt32)))) fun w5'1 => some (.inl (w64 (t20_0 + (1 : Int)), w5'1)) else none else none else none else none else none else some (.inr w5_0))
noncomputable def g_sum_turn_l1 : Int × (Vector UInt32 64) → Option ((Int × (Vector UInt32 64)) ⊕ (((Vector UInt32 64))))
  | (i7_1, w5_1) => (if i7_1 < (64 : Int) then if 0 ≤ w64 (i7_1 - (15 : Int)) ∧ w64 (i7_1 - (15 : Int)) < (64 : Int) then if 0 ≤ w64 (i7_1 - (2 : Int)) ∧ w64 (i7_1 - (2 : Int)) < (64 : Int) then (g_bits_RotateLeft32 (vrd w5_1 ((w64 (i7_1 - (15 : Int))).toNat)) (-7 : Int)).bind fun r'6 => (g_bits_RotateLeft32 (vrd w5_1 ((w64 (i7_1 - (15 : Int))).toNat)) (-18 : Int)).bind fun r'7 => letO ((r'6 ^^^ r'7) ^^^ (shr_u32 (vrd w5_1 ((w64 (i7_1 - (15 : Int))).toNat)) 3)) fun s10'8 => (g_bits_RotateLeft32 (vrd w5_1 ((w64 (i7_1 - (2 : Int))).toNat)) (-17 : Int)).bind fun r'9 => (g_bits_RotateLeft32 (vrd w5_1 ((w64 (i7_1 - (2 : Int))).toNat)) (-19 : Int)).bind fun r'10 => letO ((r'9 ^^^ r'10) ^^^ (shr_u32 (vrd w5_1 ((w64 (i7_1 - (2 : Int))).toNat)) 10)) fun t11'11 => if 0 ≤ w64 (i7_1 - (16 : Int)) ∧ w64 (i7_1 - (16 : Int)) < (64 : Int) then if 0 ≤ w64 (i7_1 - (7 : Int)) ∧ w64 (i7_1 - (7 : Int)) < (64 : Int) then if 0 ≤ i7_1 ∧ i7_1 < (64 : Int) then letO ((vwr w5_1 i7_1.toNat ((((vrd w5_1 ((w64 (i7_1 - (16 : Int))).toNat)) + s10'8) + (vrd w5_1 ((w64 (i7_1 - (7 : Int))).toNat))) + t11'11))) fun w5'12 => some (.inl (w64 (i7_1 + (1 : Int)), w5'12)) else none else none else none else none else none else some (.inr w5_1))
noncomputable def g_sum_turn_l2 (y'16 : (Vector UInt32 64)) : Int × (Vector UInt32 8) → Option ((Int × (Vector UInt32 8)) ⊕ (((Vector UInt32 8))))
  | (t99_2, v12_2) => (if t99_2 < (64 : Int) then (g_bits_RotateLeft32 (vrd v12_2 4) (-6 : Int)).bind fun r'17 => (g_bits_RotateLeft32 (vrd v12_2 4) (-11 : Int)).bind fun r'18 => (g_bits_RotateLeft32 (vrd v12_2 4) (-25 : Int)).bind fun r'19 => if 0 ≤ t99_2 ∧ t99_2 < (64 : Int) then if 0 ≤ t99_2 ∧ t99_2 < (64 : Int) then letO (((((vrd v12_2 7) + ((r'17 ^^^ r'18) ^^^ r'19)) + (((vrd v12_2 4) &&& (vrd v12_2 5)) ^^^ ((~~~ (vrd v12_2 4)) &&& (vrd v12_2 6)))) + (lrd tab0 t99_2.toNat)) + (vrd y'16 t99_2.toNat)) fun t17'20 => (g_bits_RotateLeft32 (vrd v12_2 0) (-2 : Int)).bind fun r'21 => (g_bits_RotateLeft32 (vrd v12_2 0) (-13 : Int)).bind fun r'22 => (g_bits_RotateLeft32 (vrd v12_2 0) (-22 : Int)).bind fun r'23 => letO (((r'21 ^^^ r'22) ^^^ r'23) + ((((vrd v12_2 0) &&& (vrd v12_2 1)) ^^^ ((vrd v12_2 0) &&& (vrd v12_2 2))) ^^^ ((vrd v12_2 1) &&& (vrd v12_2 2)))) fun u18'24 => letO (#v[t17'20 + u18'24, (vrd v12_2 0), (vrd v12_2 1), (vrd v12_2 2), (vrd v12_2 3) + t17'20, (vrd v12_2 4), (vrd v12_2 5), (vrd v12_2 6)]) fun v12'25 => some (.inl (w64 (t99_2 + (1 : Int)), v12'25)) else none else none else some (.inr v12_2))
noncomputable def g_sum_turn_l3 (h0 : Vector UInt32 8) : Int × (Vector UInt32 8) → Option ((Int × (Vector UInt32 8)) ⊕ (((Vector UInt32 8))))
  | (t181_3, v12_3) => (if t181_3 < (8 : Int) then if 0 ≤ t181_3 ∧ t181_3 < (8 : Int) then if 0 ≤ t181_3 ∧ t181_3 < (8 : Int) then if 0 ≤ t181_3 ∧ t181_3 < (8 : Int) then letO ((vwr v12_3 t181_3.toNat ((vrd v12_3 t181_3.toNat) + (vrd h0 t181_3.toNat)))) fun v12'30 => some (.inl (w64 (t181_3 + (1 : Int)), v12'30)) else none else none else none else some (.inr v12_3))
noncomputable def g_sum_turn (h0 : Vector UInt32 8) (b1 : Vector UInt8 64) : Option ((Vector UInt32 8)) :=
  (loopO (g_sum_turn_l0 b1) ((0 : Int), (Vector.replicate 64 (0 : UInt32)))).bind fun y'5 => (loopO (g_sum_turn_l1) ((16 : Int), y'5)).bind fun y'16 => (loopO (g_sum_turn_l2 y'16) ((0 : Int), h0)).bind fun y'29 => (loopO (g_sum_turn_l3 h0) ((0 : Int), y'29)).bind fun y'34 => some y'34
set_option maxHeartbeats 4000000 in
set_option maxRecDepth 100000 in
theorem g_sum_turn_ac {h0 : Vector UInt32 8} {b1 : Vector UInt8 64} {r : (Vector UInt32 8)} (H : g_sum_turn h0 b1 = some r) : ACp Tryd.prog 89 [(.agg (h0.toList.map AV.u32)), (.agg (bcells b1.toList))] (.agg (r.toList.map AV.u32)) := by
  refine ACp_of (AC2_of_body (vs := [.g (r.toList.map AV.u32)]) Tryd.func89 rfl rfl (Nat.le_of_ble_eq_true rfl) rfl ?_) (fun _ => .same _)
  unfold g_sum_turn at H
  refine as2 [(0, .g (h0.toList.map AV.u32)), (1, .g (bcells b1.toList))] [] rfl rfl rfl ?_
  refine sg [0, 1, 2] rfl ?_
  refine r_op rfl rfl (MakeD.opD (n_box 2 rfl rfl) rfl rfl rfl rfl) ?_
  refine r_op rfl rfl (MakeD.opD (n_box 3 rfl rfl) rfl rfl rfl rfl) ?_
  refine r_op rfl rfl (MakeD.opD (u_alloc 4 rfl in_93 one_93 zc_93) rfl rfl rfl rfl) ?_
  refine rz [(2, .q 2 (0)), (3, .q 3 (0)), (4, .q 4 (0))] [(2, .pure (h0.toList.map AV.u32)), (3, .pure (bcells b1.toList)), (4, .pure (((Vector.replicate 8 (0 : UInt32)).toList).map AV.u32))] rfl rfl rfl ?_
  refine sg [0] rfl ?_
  refine r_op rfl rfl (MakeD.opD (u_alloc 5 rfl in_111 one_111 zc_111) rfl rfl rfl rfl) ?_
  refine rz [(2, .q 2 (0)), (3, .q 3 (0)), (4, .q 4 (0)), (5, .q 5 (0))] [(2, .pure (h0.toList.map AV.u32)), (3, .pure (bcells b1.toList)), (4, .pure (((Vector.replicate 8 (0 : UInt32)).toList).map AV.u32)), (5, .pure (((Vector.replicate 64 (0 : UInt32)).toList).map AV.u32))] rfl rfl rfl ?_
  refine AW2_seq ?_
  refine sg [0] rfl ?_
  refine rp rfl rfl (p_move rfl rfl) ?_
  refine rz [(2, .q 2 (0)), (3, .q 3 (0)), (4, .q 4 (0)), (5, .q 5 (0)), (20, .i (0 : Int))] [(2, .pure (h0.toList.map AV.u32)), (3, .pure (bcells b1.toList)), (4, .pure (((Vector.replicate 8 (0 : UInt32)).toList).map AV.u32)), (5, .pure (((Vector.replicate 64 (0 : UInt32)).toList).map AV.u32))] rfl rfl rfl ?_
  refine AW2_block ?_
  refine as2 [(2, .q 2 (0)), (3, .q 3 (0)), (4, .q 4 (0)), (5, .q 5 (0)), (20, .i (0 : Int))] [(2, .pure (h0.toList.map AV.u32)), (3, .pure (bcells b1.toList)), (4, .pure (((Vector.replicate 8 (0 : UInt32)).toList).map AV.u32)), (5, .pure (((Vector.replicate 64 (0 : UInt32)).toList).map AV.u32))] rfl rfl rfl ?_
  refine bindK H fun y'5 h7 H => ?_
  refine AW2_loopO (fun a'2 : Int × (Vector UInt32 64) => (⟨[(2, .q 2 (0)), (3, .q 3 (0)), (4, .q 4 (0)), (5, .q 5 (0)), (20, .i a'2.1)], [(2, .pure (h0.toList.map AV.u32)), (3, .pure (bcells b1.toList)), (4, .pure (((Vector.replicate 8 (0 : UInt32)).toList).map AV.u32)), (5, .pure (a'2.2.toList.map AV.u32))], 194⟩ : TS)) (fun (y'3 : ((Vector UInt32 64))) e s' => e = Go.Exit.exit 0 ∧ s' = (⟨[(2, .q 2 (0)), (4, .q 4 (0)), (5, .q 5 (0))], [(2, .pure (h0.toList.map AV.u32)), (4, .pure (((Vector.replicate 8 (0 : UInt32)).toList).map AV.u32)), (5, .pure (y'3.toList.map AV.u32))], 194⟩ : TS)) h7 rfl (fun a x hx => ?_) (fun e s' hs => ?_)
  · clear H
    obtain ⟨t20_0, w5_0⟩ := a
    have H := hx
    clear hx
    unfold g_sum_turn_l0 at H
    refine sg [0] rfl ?_
    refine rp rfl rfl (p_bin rfl rfl rfl rfl) ?_
    refine rz [(2, .q 2 (0)), (3, .q 3 (0)), (4, .q 4 (0)), (5, .q 5 (0)), (20, .i t20_0), (21, .b (decide (t20_0 < (16 : Int))))] [(2, .pure (h0.toList.map AV.u32)), (3, .pure (bcells b1.toList)), (4, .pure (((Vector.replicate 8 (0 : UInt32)).toList).map AV.u32)), (5, .pure (w5_0.toList.map AV.u32))] rfl rfl rfl ?_
    refine AW2_seq ?_
    refine AW2_if (p := t20_0 < (16 : Int)) rfl (fun h1 => ?_) (fun h1 => ?_)
    · replace H := ite_then h1 H
      refine as2 [(2, .q 2 (0)), (3, .q 3 (0)), (4, .q 4 (0)), (5, .q 5 (0)), (20, .i t20_0)] [(2, .pure (h0.toList.map AV.u32)), (3, .pure (bcells b1.toList)), (4, .pure (((Vector.replicate 8 (0 : UInt32)).toList).map AV.u32)), (5, .pure (w5_0.toList.map AV.u32))] rfl rfl rfl ?_
      refine AW2_skip ?_
      refine AW2_seq ?_
      refine AW2_block ?_
      refine sg [0, 1] rfl ?_
      refine rp rfl rfl (p_move rfl rfl) ?_
      refine rp rfl rfl (p_asg rfl rfl) ?_
      refine rz [(2, .q 2 (0)), (3, .q 3 (0)), (4, .q 4 (0)), (5, .q 5 (0)), (6, .i t20_0), (20, .i t20_0)] [(2, .pure (h0.toList.map AV.u32)), (3, .pure (bcells b1.toList)), (4, .pure (((Vector.replicate 8 (0 : UInt32)).toList).map AV.u32)), (5, .pure (w5_0.toList.map AV.u32))] rfl rfl rfl ?_
      refine chkK H fun h2 H => ?_
      refine chkK H fun h3 H => ?_
      refine chkK H fun h4 H => ?_
      refine chkK H fun h5 H => ?_
      refine chkK H fun h6 H => ?_
      refine AW2_ghoQ ?_
      refine AW2_draw 30 [30, 31] (fun k => ([.i t20_0, .i t20_0, .i (w64 ((4 : Int) * t20_0)), .q 3 (0 + ((w64 ((4 : Int) * t20_0)).toNat) * 1), .p (AV.b8 (vrd b1 ((w64 ((4 : Int) * t20_0)).toNat))), .p (AV.u32 ((vrd b1 ((w64 ((4 : Int) * t20_0)).toNat)).toUInt32)), .p (AV.u32 (shl_u32 ((vrd b1 ((w64 ((4 : Int) * t20_0)).toNat)).toUInt32) 24)), .i t20_0, .i (w64 ((4 : Int) * t20_0)), .i (w64 ((w64 ((4 : Int) * t20_0)) + (1 : Int))), .q 3 (0 + ((w64 ((w64 ((4 : Int) * t20_0)) + (1 : Int))).toNat) * 1), .p (AV.b8 (vrd b1 ((w64 ((w64 ((4 : Int) * t20_0)) + (1 : Int))).toNat))), .p (AV.u32 ((vrd b1 ((w64 ((w64 ((4 : Int) * t20_0)) + (1 : Int))).toNat)).toUInt32)), .p (AV.u32 (shl_u32 ((vrd b1 ((w64 ((w64 ((4 : Int) * t20_0)) + (1 : Int))).toNat)).toUInt32) 16)), .p (AV.u32 ((shl_u32 ((vrd b1 ((w64 ((4 : Int) * t20_0)).toNat)).toUInt32) 24) ||| (shl_u32 ((vrd b1 ((w64 ((w64 ((4 : Int) * t20_0)) + (1 : Int))).toNat)).toUInt32) 16))), .i t20_0, .i (w64 ((4 : Int) * t20_0)), .i (w64 ((w64 ((4 : Int) * t20_0)) + (2 : Int))), .q 3 (0 + ((w64 ((w64 ((4 : Int) * t20_0)) + (2 : Int))).toNat) * 1), .p (AV.b8 (vrd b1 ((w64 ((w64 ((4 : Int) * t20_0)) + (2 : Int))).toNat))), .p (AV.u32 ((vrd b1 ((w64 ((w64 ((4 : Int) * t20_0)) + (2 : Int))).toNat)).toUInt32)), .p (AV.u32 (shl_u32 ((vrd b1 ((w64 ((w64 ((4 : Int) * t20_0)) + (2 : Int))).toNat)).toUInt32) 8)), .p (AV.u32 (((shl_u32 ((vrd b1 ((w64 ((4 : Int) * t20_0)).toNat)).toUInt32) 24) ||| (shl_u32 ((vrd b1 ((w64 ((w64 ((4 : Int) * t20_0)) + (1 : Int))).toNat)).toUInt32) 16)) ||| (shl_u32 ((vrd b1 ((w64 ((w64 ((4 : Int) * t20_0)) + (2 : Int))).toNat)).toUInt32) 8))), .i t20_0, .i (w64 ((4 : Int) * t20_0)), .i (w64 ((w64 ((4 : Int) * t20_0)) + (3 : Int))), .q 3 (0 + ((w64 ((w64 ((4 : Int) * t20_0)) + (3 : Int))).toNat) * 1), .p (AV.b8 (vrd b1 ((w64 ((w64 ((4 : Int) * t20_0)) + (3 : Int))).toNat))), .p (AV.u32 ((vrd b1 ((w64 ((w64 ((4 : Int) * t20_0)) + (3 : Int))).toNat)).toUInt32)), .p (AV.u32 ((((shl_u32 ((vrd b1 ((w64 ((4 : Int) * t20_0)).toNat)).toUInt32) 24) ||| (shl_u32 ((vrd b1 ((w64 ((w64 ((4 : Int) * t20_0)) + (1 : Int))).toNat)).toUInt32) 16)) ||| (shl_u32 ((vrd b1 ((w64 ((w64 ((4 : Int) * t20_0)) + (2 : Int))).toNat)).toUInt32) 8)) ||| ((vrd b1 ((w64 ((w64 ((4 : Int) * t20_0)) + (3 : Int))).toNat)).toUInt32)))] : List TV).getD k TV.any) (fun k => ([[(6, none)], [(6, none)], [(24, some 1)], [(3, none), (25, some 2)], [(26, some 3)], [(27, some 4)], [(28, some 5)], [(6, none)], [(30, some 7)], [(31, some 8)], [(3, none), (32, some 9)], [(33, some 10)], [(34, some 11)], [(35, some 12)], [(29, some 6), (36, some 13)], [(6, none)], [(38, some 15)], [(39, some 16)], [(3, none), (40, some 17)], [(41, some 18)], [(42, some 19)], [(43, some 20)], [(37, some 14), (44, some 21)], [(6, none)], [(46, some 23)], [(47, some 24)], [(3, none), (48, some 25)], [(49, some 26)], [(50, some 27)], [(45, some 22), (51, some 28)]] : List (List (Nat × Option Nat))).getD k []) [(2, none), (3, none), (4, none), (5, none), (20, none), (23, some 0), (52, some 29)] [] (fun k => ([[], [], [1], [1, 2], [1, 2, 3], [1, 2, 3, 4], [1, 2, 3, 4, 5], [], [7], [7, 8], [7, 8, 9], [7, 8, 9, 10], [7, 8, 9, 10, 11], [7, 8, 9, 10, 11, 12], [1, 2, 3, 4, 5, 6, 7, 8, 9, 10, 11, 12, 13], [], [15], [15, 16], [15, 16, 17], [15, 16, 17, 18], [15, 16, 17, 18, 19], [15, 16, 17, 18, 19, 20], [1, 2, 3, 4, 5, 6, 7, 8, 9, 10, 11, 12, 13, 14, 15, 16, 17, 18, 19, 20, 21], [], [23], [23, 24], [23, 24, 25], [23, 24, 25, 26], [23, 24, 25, 26, 27], [1, 2, 3, 4, 5, 6, 7, 8, 9, 10, 11, 12, 13, 14, 15, 16, 17, 18, 19, 20, 21, 22, 23, 24, 25, 26, 27, 28], [0, 1, 2, 3, 4, 5, 6, 7, 8, 9, 10, 11, 12, 13, 14, 15, 16, 17, 18, 19, 20, 21, 22, 23, 24, 25, 26, 27, 28, 29], [0, 1, 2, 3, 4, 5, 6, 7, 8, 9, 10, 11, 12, 13, 14, 15, 16, 17, 18, 19, 20, 21, 22, 23, 24, 25, 26, 27, 28, 29, 30]] : List (List Nat)).getD k []) mixed (by kernel_rfl) rfl rfl (a_op (g_x rfl (x_p rfl (p_move rfl rfl) rfl)) (a_op (g_x rfl (x_p rfl (p_move rfl rfl) rfl)) (a_op (g_x rfl (x_p rfl (p_bin rfl rfl rfl rfl) rfl)) (a_op (g_x rfl (x_p rfl (u_ixp rfl rfl Tryd.underlying94 in_5 rfl rfl (ne_of_lt (n := 0) (Nat.lt_of_lt_of_eq (by decide) (Eq.symm ((bcells_length _).trans (vlen b1))))) rfl (ixe h2) (ixn h2)) rfl)) (a_op (g_x rfl (x_p rfl (u_ld rfl rfl Tryd.underlying5 rfl rfl ((Sub.refl _).trans (Sub.vmap (ixn h2)))) rfl)) (a_op (g_x rfl (x_p rfl (p_u8_u32 (a := (vrd b1 ((w64 ((4 : Int) * t20_0)).toNat))) rfl Tryd.underlying5 Tryd.underlying92 rfl) rfl)) (a_op (g_x rfl (x_p rfl (p_u32shl (n := 24) rfl rfl rfl rfl) rfl)) (a_op (g_x rfl (x_p rfl (p_move rfl rfl) rfl)) (a_op (g_x rfl (x_p rfl (p_bin rfl rfl rfl rfl) rfl)) (a_op (g_x rfl (x_p rfl (p_bin rfl rfl rfl rfl) rfl)) (a_op (g_x rfl (x_p rfl (u_ixp rfl rfl Tryd.underlying94 in_5 rfl rfl (ne_of_lt (n := 0) (Nat.lt_of_lt_of_eq (by decide) (Eq.symm ((bcells_length _).trans (vlen b1))))) rfl (ixe h3) (ixn h3)) rfl)) (a_op (g_x rfl (x_p rfl (u_ld rfl rfl Tryd.underlying5 rfl rfl ((Sub.refl _).trans (Sub.vmap (ixn h3)))) rfl)) (a_op (g_x rfl (x_p rfl (p_u8_u32 (a := (vrd b1 ((w64 ((w64 ((4 : Int) * t20_0)) + (1 : Int))).toNat))) rfl Tryd.underlying5 Tryd.underlying92 rfl) rfl)) (a_op (g_x rfl (x_p rfl (p_u32shl (n := 16) rfl rfl rfl rfl) rfl)) (a_op (g_x rfl (x_p rfl (p_u32or (a := shl_u32 ((vrd b1 ((w64 ((4 : Int) * t20_0)).toNat)).toUInt32) 24) (b := shl_u32 ((vrd b1 ((w64 ((w64 ((4 : Int) * t20_0)) + (1 : Int))).toNat)).toUInt32) 16) rfl rfl rfl) rfl)) (a_op (g_x rfl (x_p rfl (p_move rfl rfl) rfl)) (a_op (g_x rfl (x_p rfl (p_bin rfl rfl rfl rfl) rfl)) (a_op (g_x rfl (x_p rfl (p_bin rfl rfl rfl rfl) rfl)) (a_op (g_x rfl (x_p rfl (u_ixp rfl rfl Tryd.underlying94 in_5 rfl rfl (ne_of_lt (n := 0) (Nat.lt_of_lt_of_eq (by decide) (Eq.symm ((bcells_length _).trans (vlen b1))))) rfl (ixe h4) (ixn h4)) rfl)) (a_op (g_x rfl (x_p rfl (u_ld rfl rfl Tryd.underlying5 rfl rfl ((Sub.refl _).trans (Sub.vmap (ixn h4)))) rfl)) (a_op (g_x rfl (x_p rfl (p_u8_u32 (a := (vrd b1 ((w64 ((w64 ((4 : Int) * t20_0)) + (2 : Int))).toNat))) rfl Tryd.underlying5 Tryd.underlying92 rfl) rfl)) (a_op (g_x rfl (x_p rfl (p_u32shl (n := 8) rfl rfl rfl rfl) rfl)) (a_op (g_x rfl (x_p rfl (p_u32or (a := (shl_u32 ((vrd b1 ((w64 ((4 : Int) * t20_0)).toNat)).toUInt32) 24) ||| (shl_u32 ((vrd b1 ((w64 ((w64 ((4 : Int) * t20_0)) + (1 : Int))).toNat)).toUInt32) 16)) (b := shl_u32 ((vrd b1 ((w64 ((w64 ((4 : Int) * t20_0)) + (2 : Int))).toNat)).toUInt32) 8) rfl rfl rfl) rfl)) (a_op (g_x rfl (x_p rfl (p_move rfl rfl) rfl)) (a_op (g_x rfl (x_p rfl (p_bin rfl rfl rfl rfl) rfl)) (a_op (g_x rfl (x_p rfl (p_bin rfl rfl rfl rfl) rfl)) (a_op (g_x rfl (x_p rfl (u_ixp rfl rfl Tryd.underlying94 in_5 rfl rfl (ne_of_lt (n := 0) (Nat.lt_of_lt_of_eq (by decide) (Eq.symm ((bcells_length _).trans (vlen b1))))) rfl (ixe h5) (ixn h5)) rfl)) (a_op (g_x rfl (x_p rfl (u_ld rfl rfl Tryd.underlying5 rfl rfl ((Sub.refl _).trans (Sub.vmap (ixn h5)))) rfl)) (a_op (g_x rfl (x_p rfl (p_u8_u32 (a := (vrd b1 ((w64 ((w64 ((4 : Int) * t20_0)) + (3 : Int))).toNat))) rfl Tryd.underlying5 Tryd.underlying92 rfl) rfl)) (a_op (g_x rfl (x_p rfl (p_u32or (a := ((shl_u32 ((vrd b1 ((w64 ((4 : Int) * t20_0)).toNat)).toUInt32) 24) ||| (shl_u32 ((vrd b1 ((w64 ((w64 ((4 : Int) * t20_0)) + (1 : Int))).toNat)).toUInt32) 16)) ||| (shl_u32 ((vrd b1 ((w64 ((w64 ((4 : Int) * t20_0)) + (2 : Int))).toNat)).toUInt32) 8)) (b := (vrd b1 ((w64 ((w64 ((4 : Int) * t20_0)) + (3 : Int))).toNat)).toUInt32) rfl rfl rfl) rfl)) (a_nil))))))))))))))))))))))))))))))) ?_
      refine t_op rfl rfl (PureD.opD (u_ixp rfl rfl Tryd.underlying111 in_92 rfl rfl (ne_of_lt (n := 0) (Nat.lt_of_lt_of_eq (by decide) (Eq.symm (vmap_len (f := AV.u32) w5_0)))) rfl (ixe h6) (ixn h6))) ?_
      refine t_op rfl rfl (u_st rfl rfl rfl rfl rfl in_92 rfl (ne_of_lt (n := 0) (Nat.lt_of_lt_of_eq (by decide) (Eq.symm (vmap_len (f := AV.u32) w5_0)))) (Upd.trans (Sub.refl _) (Upd.vmap (ixn h6)) (Upd.refl ((vmap_len (f := AV.u32) (vwr w5_0 t20_0.toNat ((((shl_u32 ((vrd b1 ((w64 ((4 : Int) * t20_0)).toNat)).toUInt32) 24) ||| (shl_u32 ((vrd b1 ((w64 ((w64 ((4 : Int) * t20_0)) + (1 : Int))).toNat)).toUInt32) 16)) ||| (shl_u32 ((vrd b1 ((w64 ((w64 ((4 : Int) * t20_0)) + (2 : Int))).toNat)).toUInt32) 8)) ||| ((vrd b1 ((w64 ((w64 ((4 : Int) * t20_0)) + (3 : Int))).toNat)).toUInt32)))).trans (vmap_len (f := AV.u32) w5_0).symm)))) ?_
      refine t_gho (Gho_st (L := [(2, .q 2 (0)), (3, .q 3 (0)), (4, .q 4 (0)), (5, .q 5 (0)), (20, .i t20_0)]) (H := [(2, .pure (h0.toList.map AV.u32)), (3, .pure (bcells b1.toList)), (4, .pure (((Vector.replicate 8 (0 : UInt32)).toList).map AV.u32)), (5, .pure (((vwr w5_0 t20_0.toNat ((((shl_u32 ((vrd b1 ((w64 ((4 : Int) * t20_0)).toNat)).toUInt32) 24) ||| (shl_u32 ((vrd b1 ((w64 ((w64 ((4 : Int) * t20_0)) + (1 : Int))).toNat)).toUInt32) 16)) ||| (shl_u32 ((vrd b1 ((w64 ((w64 ((4 : Int) * t20_0)) + (2 : Int))).toNat)).toUInt32) 8)) ||| ((vrd b1 ((w64 ((w64 ((4 : Int) * t20_0)) + (3 : Int))).toNat)).toUInt32))).toList).map AV.u32))]) (N := 194) rfl ⟨TLes.same _, TLes.same _, TLes.same _, TLes.same _, TLes.same _, trivial⟩ ⟨rfl, rfl, rfl, rfl, trivial⟩) ?_
      refine gen1 (fun w5'1 => (⟨[(2, .q 2 (0)), (3, .q 3 (0)), (4, .q 4 (0)), (5, .q 5 (0)), (20, .i t20_0)], [(2, .pure (h0.toList.map AV.u32)), (3, .pure (bcells b1.toList)), (4, .pure (((Vector.replicate 8 (0 : UInt32)).toList).map AV.u32)), (5, .pure (w5'1.toList.map AV.u32))], 194⟩ : TS)) H ?_
      intro w5'1 H
      refine AW2_reg [0, 1] rfl ?_
      refine rp rfl rfl (p_bin rfl rfl rfl rfl) ?_
      refine rp rfl rfl (p_move rfl rfl) ?_
      refine rz [(2, .q 2 (0)), (3, .q 3 (0)), (4, .q 4 (0)), (5, .q 5 (0)), (20, .i (w64 (t20_0 + (1 : Int))))] [(2, .pure (h0.toList.map AV.u32)), (3, .pure (bcells b1.toList)), (4, .pure (((Vector.replicate 8 (0 : UInt32)).toList).map AV.u32)), (5, .pure (w5'1.toList.map AV.u32))] rfl rfl rfl ?_
      have hz := some_elim H
      subst hz
      exact ⟨rfl, rfl⟩
    · replace H := ite_else h1 H
      refine as2 [(2, .q 2 (0)), (4, .q 4 (0)), (5, .q 5 (0))] [(2, .pure (h0.toList.map AV.u32)), (4, .pure (((Vector.replicate 8 (0 : UInt32)).toList).map AV.u32)), (5, .pure (w5_0.toList.map AV.u32))] rfl rfl rfl ?_
      refine AW2_exit ?_
      refine thenQ2_exit ?_
      have hz := some_elim H
      subst hz
      exact ⟨rfl, rfl⟩
  · obtain ⟨rfl, rfl⟩ := hs
    refine ⟨by simp, ?_⟩
    refine blockQ2_exit ?_
    refine AW2_seq ?_
    refine sg [0] rfl ?_
    refine rp rfl rfl (p_asg rfl rfl) ?_
    refine rz [(2, .q 2 (0)), (4, .q 4 (0)), (5, .q 5 (0)), (7, .i (16 : Int))] [(2, .pure (h0.toList.map AV.u32)), (4, .pure (((Vector.replicate 8 (0 : UInt32)).toList).map AV.u32)), (5, .pure (y'5.toList.map AV.u32))] rfl rfl rfl ?_
    refine AW2_block ?_
    refine as2 [(2, .q 2 (0)), (4, .q 4 (0)), (5, .q 5 (0)), (7, .i (16 : Int))] [(2, .pure (h0.toList.map AV.u32)), (4, .pure (((Vector.replicate 8 (0 : UInt32)).toList).map AV.u32)), (5, .pure (y'5.toList.map AV.u32))] rfl rfl rfl ?_
    refine bindK H fun y'16 h18 H => ?_
    refine AW2_loopO (fun a'13 : Int × (Vector UInt32 64) => (⟨[(2, .q 2 (0)), (4, .q 4 (0)), (5, .q 5 (0)), (7, .i a'13.1)], [(2, .pure (h0.toList.map AV.u32)), (4, .pure (((Vector.replicate 8 (0 : UInt32)).toList).map AV.u32)), (5, .pure (a'13.2.toList.map AV.u32))], 194⟩ : TS)) (fun (y'14 : ((Vector UInt32 64))) e s' => e = Go.Exit.exit 2 ∧ s' = (⟨[(2, .q 2 (0)), (4, .q 4 (0)), (5, .q 5 (0))], [(2, .pure (h0.toList.map AV.u32)), (4, .pure (((Vector.replicate 8 (0 : UInt32)).toList).map AV.u32)), (5, .pure (y'14.toList.map AV.u32))], 194⟩ : TS)) h18 rfl (fun a x hx => ?_) (fun e s' hs => ?_)
    · clear H
      obtain ⟨i7_1, w5_1⟩ := a
      have H := hx
      clear hx
      unfold g_sum_turn_l1 at H
      refine AW2_seq ?_
      refine sg [0, 1] rfl ?_
      refine rp rfl rfl (p_move rfl rfl) ?_
      refine rp rfl rfl (p_bin rfl rfl rfl rfl) ?_
      refine rz [(2, .q 2 (0)), (4, .q 4 (0)), (5, .q 5 (0)), (7, .i i7_1), (56, .b (decide (i7_1 < (64 : Int))))] [(2, .pure (h0.toList.map AV.u32)), (4, .pure (((Vector.replicate 8 (0 : UInt32)).toList).map AV.u32)), (5, .pure (w5_1.toList.map AV.u32))] rfl rfl rfl ?_
      refine AW2_if (p := i7_1 < (64 : Int)) rfl (fun h8 => ?_) (fun h8 => ?_)
      · replace H := ite_then h8 H
        refine as2 [(2, .q 2 (0)), (4, .q 4 (0)), (5, .q 5 (0)), (7, .i i7_1)] [(2, .pure (h0.toList.map AV.u32)), (4, .pure (((Vector.replicate 8 (0 : UInt32)).toList).map AV.u32)), (5, .pure (w5_1.toList.map AV.u32))] rfl rfl rfl ?_
        refine AW2_skip ?_
        refine AW2_seq ?_
        refine AW2_block ?_
        refine AW2_seq ?_
        refine chkK H fun h9 H => ?_
        refine chkK H fun h10 H => ?_
        refine AW2_ghoQ ?_
        refine AW2_draw 9 [9] (fun k => ([.i i7_1, .i (w64 (i7_1 - (15 : Int))), .q 5 (0 + ((w64 (i7_1 - (15 : Int))).toNat) * 1), .p (AV.u32 (vrd w5_1 ((w64 (i7_1 - (15 : Int))).toNat))), .i i7_1, .i (w64 (i7_1 - (2 : Int))), .q 5 (0 + ((w64 (i7_1 - (2 : Int))).toNat) * 1), .p (AV.u32 (vrd w5_1 ((w64 (i7_1 - (2 : Int))).toNat))), .p (AV.u32 (vrd w5_1 ((w64 (i7_1 - (15 : Int))).toNat)))] : List TV).getD k TV.any) (fun k => ([[(7, none)], [(59, some 0)], [(5, none), (60, some 1)], [(61, some 2)], [(7, none)], [(63, some 4)], [(5, none), (64, some 5)], [(65, some 6)], [(62, some 3)]] : List (List (Nat × Option Nat))).getD k []) [(2, none), (4, none), (5, none), (7, none), (8, some 8), (66, some 7)] [] (fun k => ([[], [0], [0, 1], [0, 1, 2], [], [4], [4, 5], [4, 5, 6], [0, 1, 2, 3], [0, 1, 2, 3, 4, 5, 6, 7, 8]] : List (List Nat)).getD k []) mixed (by kernel_rfl) rfl rfl (a_op (g_x rfl (x_p rfl (p_move rfl rfl) rfl)) (a_op (g_x rfl (x_p rfl (p_bin rfl rfl rfl rfl) rfl)) (a_op (g_x rfl (x_p rfl (u_ixp rfl rfl Tryd.underlying111 in_92 rfl rfl (ne_of_lt (n := 0) (Nat.lt_of_lt_of_eq (by decide) (Eq.symm (vmap_len (f := AV.u32) w5_1)))) rfl (ixe h9) (ixn h9)) rfl)) (a_op (g_x rfl (x_p rfl (u_ld rfl rfl Tryd.underlying92 rfl rfl ((Sub.refl _).trans (Sub.vmap (ixn h9)))) rfl)) (a_op (g_x rfl (x_p rfl (p_move rfl rfl) rfl)) (a_op (g_x rfl (x_p rfl (p_bin rfl rfl rfl rfl) rfl)) (a_op (g_x rfl (x_p rfl (u_ixp rfl rfl Tryd.underlying111 in_92 rfl rfl (ne_of_lt (n := 0) (Nat.lt_of_lt_of_eq (by decide) (Eq.symm (vmap_len (f := AV.u32) w5_1)))) rfl (ixe h10) (ixn h10)) rfl)) (a_op (g_x rfl (x_p rfl (u_ld rfl rfl Tryd.underlying92 rfl rfl ((Sub.refl _).trans (Sub.vmap (ixn h10)))) rfl)) (a_op (g_x rfl (x_p rfl (p_asg rfl rfl) rfl)) (a_nil)))))))))) ?_
        refine t_op rfl rfl (PureD.opD (p_asg rfl rfl)) ?_
        refine t_gho (Gho_st (L := [(2, .q 2 (0)), (4, .q 4 (0)), (5, .q 5 (0)), (7, .i i7_1), (8, .p (AV.u32 (vrd w5_1 ((w64 (i7_1 - (15 : Int))).toNat)))), (9, .p (AV.u32 (vrd w5_1 ((w64 (i7_1 - (2 : Int))).toNat))))]) (H := [(2, .pure (h0.toList.map AV.u32)), (4, .pure (((Vector.replicate 8 (0 : UInt32)).toList).map AV.u32)), (5, .pure (w5_1.toList.map AV.u32))]) (N := 194) rfl ⟨TLes.same _, TLes.same _, TLes.same _, TLes.same _, TLes.same _, TLes.same _, trivial⟩ ⟨rfl, rfl, rfl, trivial⟩) ?_
        refine sg [0, 1, 2, 3, 4, 5, 6, 7, 8] rfl ?_
        refine rp rfl rfl (p_move rfl rfl) ?_
        refine bindK H fun r'6 h11 H => ?_
        refine rp rfl rfl (p_callp rfl rfl rfl Tryd.func95 rfl rfl (g_bits_RotateLeft32_ac h11) ⟨rfl, rfl, trivial⟩) ?_
        refine rp rfl rfl (p_move rfl rfl) ?_
        refine bindK H fun r'7 h12 H => ?_
        refine rp rfl rfl (p_callp rfl rfl rfl Tryd.func95 rfl rfl (g_bits_RotateLeft32_ac h12) ⟨rfl, rfl, trivial⟩) ?_
        refine rp rfl rfl (p_u32xor (a := r'6) (b := r'7) rfl rfl rfl) ?_
        refine rp rfl rfl (p_move rfl rfl) ?_
        refine rp rfl rfl (p_u32shr (n := 3) rfl rfl rfl rfl) ?_
        refine rp rfl rfl (p_u32xor (a := r'6 ^^^ r'7) (b := shr_u32 (vrd w5_1 ((w64 (i7_1 - (15 : Int))).toNat)) 3) rfl rfl rfl) ?_
        refine rp rfl rfl (p_asg rfl rfl) ?_
        refine rz [(2, .q 2 (0)), (4, .q 4 (0)), (5, .q 5 (0)), (7, .i i7_1), (9, .p (AV.u32 (vrd w5_1 ((w64 (i7_1 - (2 : Int))).toNat)))), (10, .p (AV.u32 ((r'6 ^^^ r'7) ^^^ (shr_u32 (vrd w5_1 ((w64 (i7_1 - (15 : Int))).toNat)) 3))))] [(2, .pure (h0.toList.map AV.u32)), (4, .pure (((Vector.replicate 8 (0 : UInt32)).toList).map AV.u32)), (5, .pure (w5_1.toList.map AV.u32))] rfl rfl rfl ?_
        refine gen1 (fun s10'8 => (⟨[(2, .q 2 (0)), (4, .q 4 (0)), (5, .q 5 (0)), (7, .i i7_1), (9, .p (AV.u32 (vrd w5_1 ((w64 (i7_1 - (2 : Int))).toNat)))), (10, .p (AV.u32 s10'8))], [(2, .pure (h0.toList.map AV.u32)), (4, .pure (((Vector.replicate 8 (0 : UInt32)).toList).map AV.u32)), (5, .pure (w5_1.toList.map AV.u32))], 194⟩ : TS)) H ?_
        intro s10'8 H
        refine sg [0, 1, 2, 3, 4, 5, 6, 7, 8] rfl ?_
        refine rp rfl rfl (p_move rfl rfl) ?_
        refine bindK H fun r'9 h13 H => ?_
        refine rp rfl rfl (p_callp rfl rfl rfl Tryd.func95 rfl rfl (g_bits_RotateLeft32_ac h13) ⟨rfl, rfl, trivial⟩) ?_
        refine rp rfl rfl (p_move rfl rfl) ?_
        refine bindK H fun r'10 h14 H => ?_
        refine rp rfl rfl (p_callp rfl rfl rfl Tryd.func95 rfl rfl (g_bits_RotateLeft32_ac h14) ⟨rfl, rfl, trivial⟩) ?_
        refine rp rfl rfl (p_u32xor (a := r'9) (b := r'10) rfl rfl rfl) ?_
        refine rp rfl rfl (p_move rfl rfl) ?_
        refine rp rfl rfl (p_u32shr (n := 10) rfl rfl rfl rfl) ?_
        refine rp rfl rfl (p_u32xor (a := r'9 ^^^ r'10) (b := shr_u32 (vrd w5_1 ((w64 (i7_1 - (2 : Int))).toNat)) 10) rfl rfl rfl) ?_
        refine rp rfl rfl (p_asg rfl rfl) ?_
        refine rz [(2, .q 2 (0)), (4, .q 4 (0)), (5, .q 5 (0)), (7, .i i7_1), (10, .p (AV.u32 s10'8)), (11, .p (AV.u32 ((r'9 ^^^ r'10) ^^^ (shr_u32 (vrd w5_1 ((w64 (i7_1 - (2 : Int))).toNat)) 10))))] [(2, .pure (h0.toList.map AV.u32)), (4, .pure (((Vector.replicate 8 (0 : UInt32)).toList).map AV.u32)), (5, .pure (w5_1.toList.map AV.u32))] rfl rfl rfl ?_
        refine gen1 (fun t11'11 => (⟨[(2, .q 2 (0)), (4, .q 4 (0)), (5, .q 5 (0)), (7, .i i7_1), (10, .p (AV.u32 s10'8)), (11, .p (AV.u32 t11'11))], [(2, .pure (h0.toList.map AV.u32)), (4, .pure (((Vector.replicate 8 (0 : UInt32)).toList).map AV.u32)), (5, .pure (w5_1.toList.map AV.u32))], 194⟩ : TS)) H ?_
        intro t11'11 H
        refine chkK H fun h15 H => ?_
        refine chkK H fun h16 H => ?_
        refine chkK H fun h17 H => ?_
        refine AW2_ghoQ ?_
        refine AW2_draw 14 [14, 15] (fun k => ([.i i7_1, .i i7_1, .i (w64 (i7_1 - (16 : Int))), .q 5 (0 + ((w64 (i7_1 - (16 : Int))).toNat) * 1), .p (AV.u32 (vrd w5_1 ((w64 (i7_1 - (16 : Int))).toNat))), .p (AV.u32 s10'8), .p (AV.u32 ((vrd w5_1 ((w64 (i7_1 - (16 : Int))).toNat)) + s10'8)), .i i7_1, .i (w64 (i7_1 - (7 : Int))), .q 5 (0 + ((w64 (i7_1 - (7 : Int))).toNat) * 1), .p (AV.u32 (vrd w5_1 ((w64 (i7_1 - (7 : Int))).toNat))), .p (AV.u32 (((vrd w5_1 ((w64 (i7_1 - (16 : Int))).toNat)) + s10'8) + (vrd w5_1 ((w64 (i7_1 - (7 : Int))).toNat)))), .p (AV.u32 t11'11), .p (AV.u32 ((((vrd w5_1 ((w64 (i7_1 - (16 : Int))).toNat)) + s10'8) + (vrd w5_1 ((w64 (i7_1 - (7 : Int))).toNat))) + t11'11))] : List TV).getD k TV.any) (fun k => ([[(7, none)], [(7, none)], [(84, some 1)], [(5, none), (85, some 2)], [(86, some 3)], [(10, none)], [(87, some 4), (88, some 5)], [(7, none)], [(90, some 7)], [(5, none), (91, some 8)], [(92, some 9)], [(89, some 6), (93, some 10)], [(11, none)], [(94, some 11), (95, some 12)]] : List (List (Nat × Option Nat))).getD k []) [(2, none), (4, none), (5, none), (7, none), (83, some 0), (96, some 13)] [] (fun k => ([[], [], [1], [1, 2], [1, 2, 3], [], [1, 2, 3, 4, 5], [], [7], [7, 8], [7, 8, 9], [1, 2, 3, 4, 5, 6, 7, 8, 9, 10], [], [1, 2, 3, 4, 5, 6, 7, 8, 9, 10, 11, 12], [0, 1, 2, 3, 4, 5, 6, 7, 8, 9, 10, 11, 12, 13], [0, 1, 2, 3, 4, 5, 6, 7, 8, 9, 10, 11, 12, 13, 14]] : List (List Nat)).getD k []) mixed (by kernel_rfl) rfl rfl (a_op (g_x rfl (x_p rfl (p_move rfl rfl) rfl)) (a_op (g_x rfl (x_p rfl (p_move rfl rfl) rfl)) (a_op (g_x rfl (x_p rfl (p_bin rfl rfl rfl rfl) rfl)) (a_op (g_x rfl (x_p rfl (u_ixp rfl rfl Tryd.underlying111 in_92 rfl rfl (ne_of_lt (n := 0) (Nat.lt_of_lt_of_eq (by decide) (Eq.symm (vmap_len (f := AV.u32) w5_1)))) rfl (ixe h15) (ixn h15)) rfl)) (a_op (g_x rfl (x_p rfl (u_ld rfl rfl Tryd.underlying92 rfl rfl ((Sub.refl _).trans (Sub.vmap (ixn h15)))) rfl)) (a_op (g_x rfl (x_p rfl (p_move rfl rfl) rfl)) (a_op (g_x rfl (x_p rfl (p_u32add (a := (vrd w5_1 ((w64 (i7_1 - (16 : Int))).toNat))) (b := s10'8) rfl rfl rfl) rfl)) (a_op (g_x rfl (x_p rfl (p_move rfl rfl) rfl)) (a_op (g_x rfl (x_p rfl (p_bin rfl rfl rfl rfl) rfl)) (a_op (g_x rfl (x_p rfl (u_ixp rfl rfl Tryd.underlying111 in_92 rfl rfl (ne_of_lt (n := 0) (Nat.lt_of_lt_of_eq (by decide) (Eq.symm (vmap_len (f := AV.u32) w5_1)))) rfl (ixe h16) (ixn h16)) rfl)) (a_op (g_x rfl (x_p rfl (u_ld rfl rfl Tryd.underlying92 rfl rfl ((Sub.refl _).trans (Sub.vmap (ixn h16)))) rfl)) (a_op (g_x rfl (x_p rfl (p_u32add (a := (vrd w5_1 ((w64 (i7_1 - (16 : Int))).toNat)) + s10'8) (b := (vrd w5_1 ((w64 (i7_1 - (7 : Int))).toNat))) rfl rfl rfl) rfl)) (a_op (g_x rfl (x_p rfl (p_move rfl rfl) rfl)) (a_op (g_x rfl (x_p rfl (p_u32add (a := ((vrd w5_1 ((w64 (i7_1 - (16 : Int))).toNat)) + s10'8) + (vrd w5_1 ((w64 (i7_1 - (7 : Int))).toNat))) (b := t11'11) rfl rfl rfl) rfl)) (a_nil))))))))))))))) ?_
        refine t_op rfl rfl (PureD.opD (u_ixp rfl rfl Tryd.underlying111 in_92 rfl rfl (ne_of_lt (n := 0) (Nat.lt_of_lt_of_eq (by decide) (Eq.symm (vmap_len (f := AV.u32) w5_1)))) rfl (ixe h17) (ixn h17))) ?_
        refine t_op rfl rfl (u_st rfl rfl rfl rfl rfl in_92 rfl (ne_of_lt (n := 0) (Nat.lt_of_lt_of_eq (by decide) (Eq.symm (vmap_len (f := AV.u32) w5_1)))) (Upd.trans (Sub.refl _) (Upd.vmap (ixn h17)) (Upd.refl ((vmap_len (f := AV.u32) (vwr w5_1 i7_1.toNat ((((vrd w5_1 ((w64 (i7_1 - (16 : Int))).toNat)) + s10'8) + (vrd w5_1 ((w64 (i7_1 - (7 : Int))).toNat))) + t11'11))).trans (vmap_len (f := AV.u32) w5_1).symm)))) ?_
        refine t_gho (Gho_st (L := [(2, .q 2 (0)), (4, .q 4 (0)), (5, .q 5 (0)), (7, .i i7_1)]) (H := [(2, .pure (h0.toList.map AV.u32)), (4, .pure (((Vector.replicate 8 (0 : UInt32)).toList).map AV.u32)), (5, .pure (((vwr w5_1 i7_1.toNat ((((vrd w5_1 ((w64 (i7_1 - (16 : Int))).toNat)) + s10'8) + (vrd w5_1 ((w64 (i7_1 - (7 : Int))).toNat))) + t11'11)).toList).map AV.u32))]) (N := 194) rfl ⟨TLes.same _, TLes.same _, TLes.same _, TLes.same _, trivial⟩ ⟨rfl, rfl, rfl, trivial⟩) ?_
        refine gen1 (fun w5'12 => (⟨[(2, .q 2 (0)), (4, .q 4 (0)), (5, .q 5 (0)), (7, .i i7_1)], [(2, .pure (h0.toList.map AV.u32)), (4, .pure (((Vector.replicate 8 (0 : UInt32)).toList).map AV.u32)), (5, .pure (w5'12.toList.map AV.u32))], 194⟩ : TS)) H ?_
        intro w5'12 H
        refine AW2_reg [0, 1, 2] rfl ?_
        refine rp rfl rfl (p_move rfl rfl) ?_
        refine rp rfl rfl (p_bin rfl rfl rfl rfl) ?_
        refine rp rfl rfl (p_asg rfl rfl) ?_
        refine rz [(2, .q 2 (0)), (4, .q 4 (0)), (5, .q 5 (0)), (7, .i (w64 (i7_1 + (1 : Int))))] [(2, .pure (h0.toList.map AV.u32)), (4, .pure (((Vector.replicate 8 (0 : UInt32)).toList).map AV.u32)), (5, .pure (w5'12.toList.map AV.u32))] rfl rfl rfl ?_
        have hz := some_elim H
        subst hz
        exact ⟨rfl, rfl⟩
      · replace H := ite_else h8 H
        refine as2 [(2, .q 2 (0)), (4, .q 4 (0)), (5, .q 5 (0))] [(2, .pure (h0.toList.map AV.u32)), (4, .pure (((Vector.replicate 8 (0 : UInt32)).toList).map AV.u32)), (5, .pure (w5_1.toList.map AV.u32))] rfl rfl rfl ?_
        refine AW2_exit ?_
        refine thenQ2_exit ?_
        have hz := some_elim H
        subst hz
        exact ⟨rfl, rfl⟩
    · obtain ⟨rfl, rfl⟩ := hs
      refine ⟨by simp, ?_⟩
      refine blockQ2_exit ?_
      refine sg [0, 1, 2] rfl ?_
      refine rp rfl rfl (u_lda rfl rfl Tryd.underlying93 rfl in_93 rfl (Nat.succ_pos _) (Sub.refl _) (vmap_len (f := AV.u32) h0)) ?_
      refine r_op rfl rfl (MakeD.opD (u_alloc 12 rfl in_93 one_93 zc_93) rfl rfl rfl rfl) ?_
      refine r_op rfl rfl (u_st rfl rfl rfl rfl rfl in_93 (vmap_len (f := AV.u32) h0) (ne_of_lt (n := 0) (Nat.lt_of_lt_of_eq (by decide) (Eq.symm (vmap_len (f := AV.u32) (Vector.replicate 8 (0 : UInt32)))))) (Upd.refl ((vmap_len (f := AV.u32) h0).trans (vmap_len (f := AV.u32) (Vector.replicate 8 (0 : UInt32))).symm))) ?_
      refine rz [(2, .q 2 (0)), (4, .q 4 (0)), (5, .q 5 (0)), (12, .q 12 (0))] [(2, .pure (h0.toList.map AV.u32)), (4, .pure (((Vector.replicate 8 (0 : UInt32)).toList).map AV.u32)), (5, .pure (y'16.toList.map AV.u32)), (12, .pure (h0.toList.map AV.u32))] rfl rfl rfl ?_
      refine AW2_seq ?_
      refine sg [0] rfl ?_
      refine rp rfl rfl (p_move rfl rfl) ?_
      refine rz [(2, .q 2 (0)), (4, .q 4 (0)), (5, .q 5 (0)), (12, .q 12 (0)), (99, .i (0 : Int))] [(2, .pure (h0.toList.map AV.u32)), (4, .pure (((Vector.replicate 8 (0 : UInt32)).toList).map AV.u32)), (5, .pure (y'16.toList.map AV.u32)), (12, .pure (h0.toList.map AV.u32))] rfl rfl rfl ?_
      refine AW2_block ?_
      refine as2 [(2, .q 2 (0)), (4, .q 4 (0)), (5, .q 5 (0)), (12, .q 12 (0)), (99, .i (0 : Int))] [(2, .pure (h0.toList.map AV.u32)), (4, .pure (((Vector.replicate 8 (0 : UInt32)).toList).map AV.u32)), (5, .pure (y'16.toList.map AV.u32)), (12, .pure (h0.toList.map AV.u32))] rfl rfl rfl ?_
      refine bindK H fun y'29 h28 H => ?_
      refine AW2_loopO (fun a'26 : Int × (Vector UInt32 8) => (⟨[(2, .q 2 (0)), (4, .q 4 (0)), (5, .q 5 (0)), (12, .q 12 (0)), (99, .i a'26.1)], [(2, .pure (h0.toList.map AV.u32)), (4, .pure (((Vector.replicate 8 (0 : UInt32)).toList).map AV.u32)), (5, .pure (y'16.toList.map AV.u32)), (12, .pure (a'26.2.toList.map AV.u32))], 194⟩ : TS)) (fun (y'27 : ((Vector UInt32 8))) e s' => e = Go.Exit.exit 4 ∧ s' = (⟨[(2, .q 2 (0)), (4, .q 4 (0)), (12, .q 12 (0))], [(2, .pure (h0.toList.map AV.u32)), (4, .pure (((Vector.replicate 8 (0 : UInt32)).toList).map AV.u32)), (12, .pure (y'27.toList.map AV.u32))], 194⟩ : TS)) h28 rfl (fun a x hx => ?_) (fun e s' hs => ?_)
      · clear H
        obtain ⟨t99_2, v12_2⟩ := a
        have H := hx
        clear hx
        unfold g_sum_turn_l2 at H
        refine sg [0] rfl ?_
        refine rp rfl rfl (p_bin rfl rfl rfl rfl) ?_
        refine rz [(2, .q 2 (0)), (4, .q 4 (0)), (5, .q 5 (0)), (12, .q 12 (0)), (99, .i t99_2), (100, .b (decide (t99_2 < (64 : Int))))] [(2, .pure (h0.toList.map AV.u32)), (4, .pure (((Vector.replicate 8 (0 : UInt32)).toList).map AV.u32)), (5, .pure (y'16.toList.map AV.u32)), (12, .pure (v12_2.toList.map AV.u32))] rfl rfl rfl ?_
        refine AW2_seq ?_
        refine AW2_if (p := t99_2 < (64 : Int)) rfl (fun h19 => ?_) (fun h19 => ?_)
        · replace H := ite_then h19 H
          refine as2 [(2, .q 2 (0)), (4, .q 4 (0)), (5, .q 5 (0)), (12, .q 12 (0)), (99, .i t99_2)] [(2, .pure (h0.toList.map AV.u32)), (4, .pure (((Vector.replicate 8 (0 : UInt32)).toList).map AV.u32)), (5, .pure (y'16.toList.map AV.u32)), (12, .pure (v12_2.toList.map AV.u32))] rfl rfl rfl ?_
          refine AW2_skip ?_
          refine AW2_seq ?_
          refine AW2_block ?_
          refine sg [0, 1] rfl ?_
          refine rp rfl rfl (p_move rfl rfl) ?_
          refine rp rfl rfl (p_asg rfl rfl) ?_
          refine rz [(2, .q 2 (0)), (4, .q 4 (0)), (5, .q 5 (0)), (12, .q 12 (0)), (13, .i t99_2), (99, .i t99_2)] [(2, .pure (h0.toList.map AV.u32)), (4, .pure (((Vector.replicate 8 (0 : UInt32)).toList).map AV.u32)), (5, .pure (y'16.toList.map AV.u32)), (12, .pure (v12_2.toList.map AV.u32))] rfl rfl rfl ?_
          refine AW2_seq ?_
          refine AW2_ghoQ ?_
          refine AW2_draw 5 [5] (fun k => ([.q 12 (0 + 4 * 1), .p (AV.u32 (vrd v12_2 4)), .q 12 (0 + 0 * 1), .p (AV.u32 (vrd v12_2 0)), .p (AV.u32 (vrd v12_2 4))] : List TV).getD k TV.any) (fun k => ([[(12, none)], [(102, some 0)], [(12, none)], [(104, some 2)], [(103, some 1)]] : List (List (Nat × Option Nat))).getD k []) [(2, none), (4, none), (5, none), (12, none), (13, none), (14, some 4), (99, none), (105, some 3)] [] (fun k => ([[], [0], [], [2], [0, 1], [0, 1, 2, 3, 4]] : List (List Nat)).getD k []) mixed (by kernel_rfl) rfl rfl (a_op (g_x rfl (x_p rfl (u_ixp rfl rfl Tryd.underlying93 in_92 rfl rfl (ne_of_lt (n := 0) (Nat.lt_of_lt_of_eq (by decide) (Eq.symm (vmap_len (f := AV.u32) v12_2)))) rfl rfl (by decide)) rfl)) (a_op (g_x rfl (x_p rfl (u_ld rfl rfl Tryd.underlying92 rfl rfl ((Sub.refl _).trans (Sub.vmap (by decide)))) rfl)) (a_op (g_x rfl (x_p rfl (u_ixp rfl rfl Tryd.underlying93 in_92 rfl rfl (ne_of_lt (n := 0) (Nat.lt_of_lt_of_eq (by decide) (Eq.symm (vmap_len (f := AV.u32) v12_2)))) rfl rfl (by decide)) rfl)) (a_op (g_x rfl (x_p rfl (u_ld rfl rfl Tryd.underlying92 rfl rfl ((Sub.refl _).trans (Sub.vmap (by decide)))) rfl)) (a_op (g_x rfl (x_p rfl (p_asg rfl rfl) rfl)) (a_nil)))))) ?_
          refine t_op rfl rfl (PureD.opD (p_asg rfl rfl)) ?_
          refine t_gho (Gho_st (L := [(2, .q 2 (0)), (4, .q 4 (0)), (5, .q 5 (0)), (12, .q 12 (0)), (13, .i t99_2), (14, .p (AV.u32 (vrd v12_2 4))), (15, .p (AV.u32 (vrd v12_2 0))), (99, .i t99_2)]) (H := [(2, .pure (h0.toList.map AV.u32)), (4, .pure (((Vector.replicate 8 (0 : UInt32)).toList).map AV.u32)), (5, .pure (y'16.toList.map AV.u32)), (12, .pure (v12_2.toList.map AV.u32))]) (N := 194) rfl ⟨TLes.same _, TLes.same _, TLes.same _, TLes.same _, TLes.same _, TLes.same _, TLes.same _, TLes.same _, trivial⟩ ⟨rfl, rfl, rfl, rfl, trivial⟩) ?_
          refine sg [0, 1, 2, 3, 4, 5, 6, 7, 8] rfl ?_
          refine rp rfl rfl (p_move rfl rfl) ?_
          refine bindK H fun r'17 h20 H => ?_
          refine rp rfl rfl (p_callp rfl rfl rfl Tryd.func95 rfl rfl (g_bits_RotateLeft32_ac h20) ⟨rfl, rfl, trivial⟩) ?_
          refine rp rfl rfl (p_move rfl rfl) ?_
          refine bindK H fun r'18 h21 H => ?_
          refine rp rfl rfl (p_callp rfl rfl rfl Tryd.func95 rfl rfl (g_bits_RotateLeft32_ac h21) ⟨rfl, rfl, trivial⟩) ?_
          refine rp rfl rfl (p_u32xor (a := r'17) (b := r'18) rfl rfl rfl) ?_
          refine rp rfl rfl (p_move rfl rfl) ?_
          refine bindK H fun r'19 h22 H => ?_
          refine rp rfl rfl (p_callp rfl rfl rfl Tryd.func95 rfl rfl (g_bits_RotateLeft32_ac h22) ⟨rfl, rfl, trivial⟩) ?_
          refine rp rfl rfl (p_u32xor (a := r'17 ^^^ r'18) (b := r'19) rfl rfl rfl) ?_
          refine rp rfl rfl (p_asg rfl rfl) ?_
          refine rz [(2, .q 2 (0)), (4, .q 4 (0)), (5, .q 5 (0)), (12, .q 12 (0)), (13, .i t99_2), (14, .p (AV.u32 (vrd v12_2 4))), (15, .p (AV.u32 (vrd v12_2 0))), (16, .p (AV.u32 ((r'17 ^^^ r'18) ^^^ r'19))), (99, .i t99_2)] [(2, .pure (h0.toList.map AV.u32)), (4, .pure (((Vector.replicate 8 (0 : UInt32)).toList).map AV.u32)), (5, .pure (y'16.toList.map AV.u32)), (12, .pure (v12_2.toList.map AV.u32))] rfl rfl rfl ?_
          refine AW2_seq ?_
          refine chkK H fun h23 H => ?_
          refine chkK H fun h24 H => ?_
          refine AW2_ghoQ ?_
          refine AW2_draw 22 [22, 23] (fun k => ([.q 12 (0 + 7 * 1), .p (AV.u32 (vrd v12_2 7)), .p (AV.u32 ((r'17 ^^^ r'18) ^^^ r'19)), .p (AV.u32 ((vrd v12_2 7) + ((r'17 ^^^ r'18) ^^^ r'19))), .p (AV.u32 (vrd v12_2 4)), .q 12 (0 + 5 * 1), .p (AV.u32 (vrd v12_2 5)), .p (AV.u32 ((vrd v12_2 4) &&& (vrd v12_2 5))), .p (AV.u32 (vrd v12_2 4)), .p (AV.u32 (~~~ (vrd v12_2 4))), .q 12 (0 + 6 * 1), .p (AV.u32 (vrd v12_2 6)), .p (AV.u32 ((~~~ (vrd v12_2 4)) &&& (vrd v12_2 6))), .p (AV.u32 (((vrd v12_2 4) &&& (vrd v12_2 5)) ^^^ ((~~~ (vrd v12_2 4)) &&& (vrd v12_2 6)))), .p (AV.u32 (((vrd v12_2 7) + ((r'17 ^^^ r'18) ^^^ r'19)) + (((vrd v12_2 4) &&& (vrd v12_2 5)) ^^^ ((~~~ (vrd v12_2 4)) &&& (vrd v12_2 6))))), .i t99_2, .p (.rptr (tab0.map AV.u32) (0 + t99_2.toNat * 1)), .p (AV.u32 (lrd tab0 t99_2.toNat)), .p (AV.u32 ((((vrd v12_2 7) + ((r'17 ^^^ r'18) ^^^ r'19)) + (((vrd v12_2 4) &&& (vrd v12_2 5)) ^^^ ((~~~ (vrd v12_2 4)) &&& (vrd v12_2 6)))) + (lrd tab0 t99_2.toNat))), .i t99_2, .q 5 (0 + t99_2.toNat * 1), .p (AV.u32 (vrd y'16 t99_2.toNat))] : List TV).getD k TV.any) (fun k => ([[(12, none)], [(114, some 0)], [(16, none)], [(115, some 1), (116, some 2)], [(14, none)], [(12, none)], [(119, some 5)], [(118, some 4), (120, some 6)], [(14, none)], [(122, some 8)], [(12, none)], [(124, some 10)], [(123, some 9), (125, some 11)], [(121, some 7), (126, some 12)], [(117, some 3), (127, some 13)], [(13, none)], [(129, some 15)], [(130, some 16)], [(128, some 14), (131, some 17)], [(13, none)], [(5, none), (133, some 19)], [(134, some 20)]] : List (List (Nat × Option Nat))).getD k []) [(2, none), (4, none), (5, none), (12, none), (14, none), (15, none), (99, none), (132, some 18), (135, some 21)] [] (fun k => ([[], [0], [], [0, 1, 2], [], [], [5], [4, 5, 6], [], [8], [], [10], [8, 9, 10, 11], [4, 5, 6, 7, 8, 9, 10, 11, 12], [0, 1, 2, 3, 4, 5, 6, 7, 8, 9, 10, 11, 12, 13], [], [15], [15, 16], [0, 1, 2, 3, 4, 5, 6, 7, 8, 9, 10, 11, 12, 13, 14, 15, 16, 17], [], [19], [19, 20], [0, 1, 2, 3, 4, 5, 6, 7, 8, 9, 10, 11, 12, 13, 14, 15, 16, 17, 18, 19, 20, 21], [0, 1, 2, 3, 4, 5, 6, 7, 8, 9, 10, 11, 12, 13, 14, 15, 16, 17, 18, 19, 20, 21, 22]] : List (List Nat)).getD k []) mixed (by kernel_rfl) rfl rfl (a_op (g_x rfl (x_p rfl (u_ixp rfl rfl Tryd.underlying93 in_92 rfl rfl (ne_of_lt (n := 0) (Nat.lt_of_lt_of_eq (by decide) (Eq.symm (vmap_len (f := AV.u32) v12_2)))) rfl rfl (by decide)) rfl)) (a_op (g_x rfl (x_p rfl (u_ld rfl rfl Tryd.underlying92 rfl rfl ((Sub.refl _).trans (Sub.vmap (by decide)))) rfl)) (a_op (g_x rfl (x_p rfl (p_move rfl rfl) rfl)) (a_op (g_x rfl (x_p rfl (p_u32add (a := (vrd v12_2 7)) (b := (r'17 ^^^ r'18) ^^^ r'19) rfl rfl rfl) rfl)) (a_op (g_x rfl (x_p rfl (p_move rfl rfl) rfl)) (a_op (g_x rfl (x_p rfl (u_ixp rfl rfl Tryd.underlying93 in_92 rfl rfl (ne_of_lt (n := 0) (Nat.lt_of_lt_of_eq (by decide) (Eq.symm (vmap_len (f := AV.u32) v12_2)))) rfl rfl (by decide)) rfl)) (a_op (g_x rfl (x_p rfl (u_ld rfl rfl Tryd.underlying92 rfl rfl ((Sub.refl _).trans (Sub.vmap (by decide)))) rfl)) (a_op (g_x rfl (x_p rfl (p_u32and (a := (vrd v12_2 4)) (b := (vrd v12_2 5)) rfl rfl rfl) rfl)) (a_op (g_x rfl (x_p rfl (p_move rfl rfl) rfl)) (a_op (g_x rfl (x_p rfl (p_u32cpl rfl rfl) rfl)) (a_op (g_x rfl (x_p rfl (u_ixp rfl rfl Tryd.underlying93 in_92 rfl rfl (ne_of_lt (n := 0) (Nat.lt_of_lt_of_eq (by decide) (Eq.symm (vmap_len (f := AV.u32) v12_2)))) rfl rfl (by decide)) rfl)) (a_op (g_x rfl (x_p rfl (u_ld rfl rfl Tryd.underlying92 rfl rfl ((Sub.refl _).trans (Sub.vmap (by decide)))) rfl)) (a_op (g_x rfl (x_p rfl (p_u32and (a := ~~~ (vrd v12_2 4)) (b := (vrd v12_2 6)) rfl rfl rfl) rfl)) (a_op (g_x rfl (x_p rfl (p_u32xor (a := (vrd v12_2 4) &&& (vrd v12_2 5)) (b := (~~~ (vrd v12_2 4)) &&& (vrd v12_2 6)) rfl rfl rfl) rfl)) (a_op (g_x rfl (x_p rfl (p_u32add (a := (vrd v12_2 7) + ((r'17 ^^^ r'18) ^^^ r'19)) (b := ((vrd v12_2 4) &&& (vrd v12_2 5)) ^^^ ((~~~ (vrd v12_2 4)) &&& (vrd v12_2 6))) rfl rfl rfl) rfl)) (a_op (g_x rfl (x_p rfl (p_move rfl rfl) rfl)) (a_op (g_x rfl (x_p rfl (u_ixq rfl rfl Tryd.underlying111 in_92 tab0_rd rfl (ixe h23) (ixn h23)) rfl)) (a_op (g_x rfl (x_p rfl (u_ld rfl rfl Tryd.underlying92 rfl rfl ((Sub.refl _).trans (Sub.map default (ixn h23)))) rfl)) (a_op (g_x rfl (x_p rfl (p_u32add (a := ((vrd v12_2 7) + ((r'17 ^^^ r'18) ^^^ r'19)) + (((vrd v12_2 4) &&& (vrd v12_2 5)) ^^^ ((~~~ (vrd v12_2 4)) &&& (vrd v12_2 6)))) (b := (lrd tab0 t99_2.toNat)) rfl rfl rfl) rfl)) (a_op (g_x rfl (x_p rfl (p_move rfl rfl) rfl)) (a_op (g_x rfl (x_p rfl (u_ixp rfl rfl Tryd.underlying111 in_92 rfl rfl (ne_of_lt (n := 0) (Nat.lt_of_lt_of_eq (by decide) (Eq.symm (vmap_len (f := AV.u32) y'16)))) rfl (ixe h24) (ixn h24)) rfl)) (a_op (g_x rfl (x_p rfl (u_ld rfl rfl Tryd.underlying92 rfl rfl ((Sub.refl _).trans (Sub.vmap (ixn h24)))) rfl)) (a_nil))))))))))))))))))))))) ?_
          refine t_op rfl rfl (PureD.opD (p_u32add (a := (((vrd v12_2 7) + ((r'17 ^^^ r'18) ^^^ r'19)) + (((vrd v12_2 4) &&& (vrd v12_2 5)) ^^^ ((~~~ (vrd v12_2 4)) &&& (vrd v12_2 6)))) + (lrd tab0 t99_2.toNat)) (b := (vrd y'16 t99_2.toNat)) rfl rfl rfl)) ?_
          refine t_op rfl rfl (PureD.opD (p_asg rfl rfl)) ?_
          refine t_gho (Gho_st (L := [(2, .q 2 (0)), (4, .q 4 (0)), (5, .q 5 (0)), (12, .q 12 (0)), (14, .p (AV.u32 (vrd v12_2 4))), (15, .p (AV.u32 (vrd v12_2 0))), (17, .p (AV.u32 (((((vrd v12_2 7) + ((r'17 ^^^ r'18) ^^^ r'19)) + (((vrd v12_2 4) &&& (vrd v12_2 5)) ^^^ ((~~~ (vrd v12_2 4)) &&& (vrd v12_2 6)))) + (lrd tab0 t99_2.toNat)) + (vrd y'16 t99_2.toNat)))), (99, .i t99_2)]) (H := [(2, .pure (h0.toList.map AV.u32)), (4, .pure (((Vector.replicate 8 (0 : UInt32)).toList).map AV.u32)), (5, .pure (y'16.toList.map AV.u32)), (12, .pure (v12_2.toList.map AV.u32))]) (N := 194) rfl ⟨TLes.same _, TLes.same _, TLes.same _, TLes.same _, TLes.same _, TLes.same _, TLes.same _, TLes.same _, trivial⟩ ⟨rfl, rfl, rfl, rfl, trivial⟩) ?_
          refine gen1 (fun t17'20 => (⟨[(2, .q 2 (0)), (4, .q 4 (0)), (5, .q 5 (0)), (12, .q 12 (0)), (14, .p (AV.u32 (vrd v12_2 4))), (15, .p (AV.u32 (vrd v12_2 0))), (17, .p (AV.u32 t17'20)), (99, .i t99_2)], [(2, .pure (h0.toList.map AV.u32)), (4, .pure (((Vector.replicate 8 (0 : UInt32)).toList).map AV.u32)), (5, .pure (y'16.toList.map AV.u32)), (12, .pure (v12_2.toList.map AV.u32))], 194⟩ : TS)) H ?_
          intro t17'20 H
          refine sg [0, 1, 2, 3, 4, 5, 6, 7, 8] rfl ?_
          refine rp rfl rfl (p_move rfl rfl) ?_
          refine bindK H fun r'21 h25 H => ?_
          refine rp rfl rfl (p_callp rfl rfl rfl Tryd.func95 rfl rfl (g_bits_RotateLeft32_ac h25) ⟨rfl, rfl, trivial⟩) ?_
          refine rp rfl rfl (p_move rfl rfl) ?_
          refine bindK H fun r'22 h26 H => ?_
          refine rp rfl rfl (p_callp rfl rfl rfl Tryd.func95 rfl rfl (g_bits_RotateLeft32_ac h26) ⟨rfl, rfl, trivial⟩) ?_
          refine rp rfl rfl (p_u32xor (a := r'21) (b := r'22) rfl rfl rfl) ?_
          refine rp rfl rfl (p_move rfl rfl) ?_
          refine bindK H fun r'23 h27 H => ?_
          refine rp rfl rfl (p_callp rfl rfl rfl Tryd.func95 rfl rfl (g_bits_RotateLeft32_ac h27) ⟨rfl, rfl, trivial⟩) ?_
          refine rp rfl rfl (p_u32xor (a := r'21 ^^^ r'22) (b := r'23) rfl rfl rfl) ?_
          refine rp rfl rfl (p_asg rfl rfl) ?_
          refine rz [(2, .q 2 (0)), (4, .q 4 (0)), (5, .q 5 (0)), (12, .q 12 (0)), (14, .p (AV.u32 (vrd v12_2 4))), (15, .p (AV.u32 (vrd v12_2 0))), (17, .p (AV.u32 t17'20)), (18, .p (AV.u32 ((r'21 ^^^ r'22) ^^^ r'23))), (99, .i t99_2)] [(2, .pure (h0.toList.map AV.u32)), (4, .pure (((Vector.replicate 8 (0 : UInt32)).toList).map AV.u32)), (5, .pure (y'16.toList.map AV.u32)), (12, .pure (v12_2.toList.map AV.u32))] rfl rfl rfl ?_
          refine sg [0, 1, 2, 3, 4, 5, 6, 7, 8, 9, 10, 11, 12, 13, 14, 15, 16, 17] rfl ?_
          refine rp rfl rfl (p_move rfl rfl) ?_
          refine rp rfl rfl (p_move rfl rfl) ?_
          refine rp rfl rfl (u_ixp rfl rfl Tryd.underlying93 in_92 rfl rfl (ne_of_lt (n := 0) (Nat.lt_of_lt_of_eq (by decide) (Eq.symm (vmap_len (f := AV.u32) v12_2)))) rfl rfl (by decide)) ?_
          refine rp rfl rfl (u_ld rfl rfl Tryd.underlying92 rfl rfl ((Sub.refl _).trans (Sub.vmap (by decide)))) ?_
          refine rp rfl rfl (p_u32and (a := (vrd v12_2 0)) (b := (vrd v12_2 1)) rfl rfl rfl) ?_
          refine rp rfl rfl (p_move rfl rfl) ?_
          refine rp rfl rfl (u_ixp rfl rfl Tryd.underlying93 in_92 rfl rfl (ne_of_lt (n := 0) (Nat.lt_of_lt_of_eq (by decide) (Eq.symm (vmap_len (f := AV.u32) v12_2)))) rfl rfl (by decide)) ?_
          refine rp rfl rfl (u_ld rfl rfl Tryd.underlying92 rfl rfl ((Sub.refl _).trans (Sub.vmap (by decide)))) ?_
          refine rp rfl rfl (p_u32and (a := (vrd v12_2 0)) (b := (vrd v12_2 2)) rfl rfl rfl) ?_
          refine rp rfl rfl (p_u32xor (a := (vrd v12_2 0) &&& (vrd v12_2 1)) (b := (vrd v12_2 0) &&& (vrd v12_2 2)) rfl rfl rfl) ?_
          refine rp rfl rfl (u_ixp rfl rfl Tryd.underlying93 in_92 rfl rfl (ne_of_lt (n := 0) (Nat.lt_of_lt_of_eq (by decide) (Eq.symm (vmap_len (f := AV.u32) v12_2)))) rfl rfl (by decide)) ?_
          refine rp rfl rfl (u_ld rfl rfl Tryd.underlying92 rfl rfl ((Sub.refl _).trans (Sub.vmap (by decide)))) ?_
          refine rp rfl rfl (u_ixp rfl rfl Tryd.underlying93 in_92 rfl rfl (ne_of_lt (n := 0) (Nat.lt_of_lt_of_eq (by decide) (Eq.symm (vmap_len (f := AV.u32) v12_2)))) rfl rfl (by decide)) ?_
          refine rp rfl rfl (u_ld rfl rfl Tryd.underlying92 rfl rfl ((Sub.refl _).trans (Sub.vmap (by decide)))) ?_
          refine rp rfl rfl (p_u32and (a := (vrd v12_2 1)) (b := (vrd v12_2 2)) rfl rfl rfl) ?_
          refine rp rfl rfl (p_u32xor (a := ((vrd v12_2 0) &&& (vrd v12_2 1)) ^^^ ((vrd v12_2 0) &&& (vrd v12_2 2))) (b := (vrd v12_2 1) &&& (vrd v12_2 2)) rfl rfl rfl) ?_
          refine rp rfl rfl (p_u32add (a := (r'21 ^^^ r'22) ^^^ r'23) (b := (((vrd v12_2 0) &&& (vrd v12_2 1)) ^^^ ((vrd v12_2 0) &&& (vrd v12_2 2))) ^^^ ((vrd v12_2 1) &&& (vrd v12_2 2))) rfl rfl rfl) ?_
          refine rp rfl rfl (p_asg rfl rfl) ?_
          refine rz [(2, .q 2 (0)), (4, .q 4 (0)), (5, .q 5 (0)), (12, .q 12 (0)), (14, .p (AV.u32 (vrd v12_2 4))), (15, .p (AV.u32 (vrd v12_2 0))), (17, .p (AV.u32 t17'20)), (18, .p (AV.u32 (((r'21 ^^^ r'22) ^^^ r'23) + ((((vrd v12_2 0) &&& (vrd v12_2 1)) ^^^ ((vrd v12_2 0) &&& (vrd v12_2 2))) ^^^ ((vrd v12_2 1) &&& (vrd v12_2 2)))))), (99, .i t99_2)] [(2, .pure (h0.toList.map AV.u32)), (4, .pure (((Vector.replicate 8 (0 : UInt32)).toList).map AV.u32)), (5, .pure (y'16.toList.map AV.u32)), (12, .pure (v12_2.toList.map AV.u32))] rfl rfl rfl ?_
          refine gen1 (fun u18'24 => (⟨[(2, .q 2 (0)), (4, .q 4 (0)), (5, .q 5 (0)), (12, .q 12 (0)), (14, .p (AV.u32 (vrd v12_2 4))), (15, .p (AV.u32 (vrd v12_2 0))), (17, .p (AV.u32 t17'20)), (18, .p (AV.u32 u18'24)), (99, .i t99_2)], [(2, .pure (h0.toList.map AV.u32)), (4, .pure (((Vector.replicate 8 (0 : UInt32)).toList).map AV.u32)), (5, .pure (y'16.toList.map AV.u32)), (12, .pure (v12_2.toList.map AV.u32))], 194⟩ : TS)) H ?_
          intro u18'24 H
          refine AW2_reg [0, 1, 2, 3, 4, 5, 6, 7, 8, 9, 10, 11, 12, 13, 14, 15, 16, 17, 18] rfl ?_
          refine rp rfl rfl (p_move rfl rfl) ?_
          refine rp rfl rfl (p_move rfl rfl) ?_
          refine rp rfl rfl (p_u32add (a := t17'20) (b := u18'24) rfl rfl rfl) ?_
          refine rp rfl rfl (p_move rfl rfl) ?_
          refine rp rfl rfl (u_ixp rfl rfl Tryd.underlying93 in_92 rfl rfl (ne_of_lt (n := 0) (Nat.lt_of_lt_of_eq (by decide) (Eq.symm (vmap_len (f := AV.u32) v12_2)))) rfl rfl (by decide)) ?_
          refine rp rfl rfl (u_ld rfl rfl Tryd.underlying92 rfl rfl ((Sub.refl _).trans (Sub.vmap (by decide)))) ?_
          refine rp rfl rfl (u_ixp rfl rfl Tryd.underlying93 in_92 rfl rfl (ne_of_lt (n := 0) (Nat.lt_of_lt_of_eq (by decide) (Eq.symm (vmap_len (f := AV.u32) v12_2)))) rfl rfl (by decide)) ?_
          refine rp rfl rfl (u_ld rfl rfl Tryd.underlying92 rfl rfl ((Sub.refl _).trans (Sub.vmap (by decide)))) ?_
          refine rp rfl rfl (u_ixp rfl rfl Tryd.underlying93 in_92 rfl rfl (ne_of_lt (n := 0) (Nat.lt_of_lt_of_eq (by decide) (Eq.symm (vmap_len (f := AV.u32) v12_2)))) rfl rfl (by decide)) ?_
          refine rp rfl rfl (u_ld rfl rfl Tryd.underlying92 rfl rfl ((Sub.refl _).trans (Sub.vmap (by decide)))) ?_
          refine rp rfl rfl (p_move rfl rfl) ?_
          refine rp rfl rfl (p_u32add (a := (vrd v12_2 3)) (b := t17'20) rfl rfl rfl) ?_
          refine rp rfl rfl (p_move rfl rfl) ?_
          refine rp rfl rfl (u_ixp rfl rfl Tryd.underlying93 in_92 rfl rfl (ne_of_lt (n := 0) (Nat.lt_of_lt_of_eq (by decide) (Eq.symm (vmap_len (f := AV.u32) v12_2)))) rfl rfl (by decide)) ?_
          refine rp rfl rfl (u_ld rfl rfl Tryd.underlying92 rfl rfl ((Sub.refl _).trans (Sub.vmap (by decide)))) ?_
          refine rp rfl rfl (u_ixp rfl rfl Tryd.underlying93 in_92 rfl rfl (ne_of_lt (n := 0) (Nat.lt_of_lt_of_eq (by decide) (Eq.symm (vmap_len (f := AV.u32) v12_2)))) rfl rfl (by decide)) ?_
          refine rp rfl rfl (u_ld rfl rfl Tryd.underlying92 rfl rfl ((Sub.refl _).trans (Sub.vmap (by decide)))) ?_
          refine rp rfl rfl (u_blda rfl in_93 one_93 rfl Tryd.underlying93 in_92 rfl rfl) ?_
          refine r_op rfl rfl (u_st rfl rfl rfl rfl rfl in_93 (vmap_len (f := AV.u32) (#v[t17'20 + u18'24, (vrd v12_2 0), (vrd v12_2 1), (vrd v12_2 2), (vrd v12_2 3) + t17'20, (vrd v12_2 4), (vrd v12_2 5), (vrd v12_2 6)])) (ne_of_lt (n := 0) (Nat.lt_of_lt_of_eq (by decide) (Eq.symm (vmap_len (f := AV.u32) v12_2)))) (Upd.refl ((vmap_len (f := AV.u32) (#v[t17'20 + u18'24, (vrd v12_2 0), (vrd v12_2 1), (vrd v12_2 2), (vrd v12_2 3) + t17'20, (vrd v12_2 4), (vrd v12_2 5), (vrd v12_2 6)])).trans (vmap_len (f := AV.u32) v12_2).symm))) ?_
          refine rz [(2, .q 2 (0)), (4, .q 4 (0)), (5, .q 5 (0)), (12, .q 12 (0)), (99, .i t99_2)] [(2, .pure (h0.toList.map AV.u32)), (4, .pure (((Vector.replicate 8 (0 : UInt32)).toList).map AV.u32)), (5, .pure (y'16.toList.map AV.u32)), (12, .pure (((#v[t17'20 + u18'24, (vrd v12_2 0), (vrd v12_2 1), (vrd v12_2 2), (vrd v12_2 3) + t17'20, (vrd v12_2 4), (vrd v12_2 5), (vrd v12_2 6)]).toList).map AV.u32))] rfl rfl rfl ?_
          refine gen1 (fun v12'25 => (⟨[(2, .q 2 (0)), (4, .q 4 (0)), (5, .q 5 (0)), (12, .q 12 (0)), (99, .i t99_2)], [(2, .pure (h0.toList.map AV.u32)), (4, .pure (((Vector.replicate 8 (0 : UInt32)).toList).map AV.u32)), (5, .pure (y'16.toList.map AV.u32)), (12, .pure (v12'25.toList.map AV.u32))], 194⟩ : TS)) H ?_
          intro v12'25 H
          refine AW2_reg [0, 1] rfl ?_
          refine rp rfl rfl (p_bin rfl rfl rfl rfl) ?_
          refine rp rfl rfl (p_move rfl rfl) ?_
          refine rz [(2, .q 2 (0)), (4, .q 4 (0)), (5, .q 5 (0)), (12, .q 12 (0)), (99, .i (w64 (t99_2 + (1 : Int))))] [(2, .pure (h0.toList.map AV.u32)), (4, .pure (((Vector.replicate 8 (0 : UInt32)).toList).map AV.u32)), (5, .pure (y'16.toList.map AV.u32)), (12, .pure (v12'25.toList.map AV.u32))] rfl rfl rfl ?_
          have hz := some_elim H
          subst hz
          exact ⟨rfl, rfl⟩
        · replace H := ite_else h19 H
          refine as2 [(2, .q 2 (0)), (4, .q 4 (0)), (12, .q 12 (0))] [(2, .pure (h0.toList.map AV.u32)), (4, .pure (((Vector.replicate 8 (0 : UInt32)).toList).map AV.u32)), (12, .pure (v12_2.toList.map AV.u32))] rfl rfl rfl ?_
          refine AW2_exit ?_
          refine thenQ2_exit ?_
          have hz := some_elim H
          subst hz
          exact ⟨rfl, rfl⟩
      · obtain ⟨rfl, rfl⟩ := hs
        refine ⟨by simp, ?_⟩
        refine blockQ2_exit ?_
        refine AW2_seq ?_
        refine sg [0] rfl ?_
        refine rp rfl rfl (p_move rfl rfl) ?_
        refine rz [(2, .q 2 (0)), (4, .q 4 (0)), (12, .q 12 (0)), (181, .i (0 : Int))] [(2, .pure (h0.toList.map AV.u32)), (4, .pure (((Vector.replicate 8 (0 : UInt32)).toList).map AV.u32)), (12, .pure (y'29.toList.map AV.u32))] rfl rfl rfl ?_
        refine AW2_block ?_
        refine as2 [(2, .q 2 (0)), (4, .q 4 (0)), (12, .q 12 (0)), (181, .i (0 : Int))] [(2, .pure (h0.toList.map AV.u32)), (4, .pure (((Vector.replicate 8 (0 : UInt32)).toList).map AV.u32)), (12, .pure (y'29.toList.map AV.u32))] rfl rfl rfl ?_
        refine bindK H fun y'34 h33 H => ?_
        refine AW2_loopO (fun a'31 : Int × (Vector UInt32 8) => (⟨[(2, .q 2 (0)), (4, .q 4 (0)), (12, .q 12 (0)), (181, .i a'31.1)], [(2, .pure (h0.toList.map AV.u32)), (4, .pure (((Vector.replicate 8 (0 : UInt32)).toList).map AV.u32)), (12, .pure (a'31.2.toList.map AV.u32))], 194⟩ : TS)) (fun (y'32 : ((Vector UInt32 8))) e s' => e = Go.Exit.exit 6 ∧ s' = (⟨[(4, .q 4 (0)), (12, .q 12 (0))], [(4, .pure (((Vector.replicate 8 (0 : UInt32)).toList).map AV.u32)), (12, .pure (y'32.toList.map AV.u32))], 194⟩ : TS)) h33 rfl (fun a x hx => ?_) (fun e s' hs => ?_)
        · clear H
          obtain ⟨t181_3, v12_3⟩ := a
          have H := hx
          clear hx
          unfold g_sum_turn_l3 at H
          refine sg [0] rfl ?_
          refine rp rfl rfl (p_bin rfl rfl rfl rfl) ?_
          refine rz [(2, .q 2 (0)), (4, .q 4 (0)), (12, .q 12 (0)), (181, .i t181_3), (182, .b (decide (t181_3 < (8 : Int))))] [(2, .pure (h0.toList.map AV.u32)), (4, .pure (((Vector.replicate 8 (0 : UInt32)).toList).map AV.u32)), (12, .pure (v12_3.toList.map AV.u32))] rfl rfl rfl ?_
          refine AW2_seq ?_
          refine AW2_if (p := t181_3 < (8 : Int)) rfl (fun h29 => ?_) (fun h29 => ?_)
          · replace H := ite_then h29 H
            refine as2 [(2, .q 2 (0)), (4, .q 4 (0)), (12, .q 12 (0)), (181, .i t181_3)] [(2, .pure (h0.toList.map AV.u32)), (4, .pure (((Vector.replicate 8 (0 : UInt32)).toList).map AV.u32)), (12, .pure (v12_3.toList.map AV.u32))] rfl rfl rfl ?_
            refine AW2_skip ?_
            refine AW2_seq ?_
            refine AW2_block ?_
            refine sg [0, 1] rfl ?_
            refine rp rfl rfl (p_move rfl rfl) ?_
            refine rp rfl rfl (p_asg rfl rfl) ?_
            refine rz [(2, .q 2 (0)), (4, .q 4 (0)), (12, .q 12 (0)), (19, .i t181_3), (181, .i t181_3)] [(2, .pure (h0.toList.map AV.u32)), (4, .pure (((Vector.replicate 8 (0 : UInt32)).toList).map AV.u32)), (12, .pure (v12_3.toList.map AV.u32))] rfl rfl rfl ?_
            refine chkK H fun h30 H => ?_
            refine chkK H fun h31 H => ?_
            refine chkK H fun h32 H => ?_
            refine AW2_ghoQ ?_
            refine AW2_draw 6 [6, 7, 8] (fun k => ([.i t181_3, .q 12 (0 + t181_3.toNat * 1), .p (AV.u32 (vrd v12_3 t181_3.toNat)), .i t181_3, .q 2 (0 + t181_3.toNat * 1), .p (AV.u32 (vrd h0 t181_3.toNat))] : List TV).getD k TV.any) (fun k => ([[(19, none)], [(12, none), (184, some 0)], [(185, some 1)], [(19, none)], [(2, none), (187, some 3)], [(188, some 4)]] : List (List (Nat × Option Nat))).getD k []) [(2, none), (4, none), (12, none), (181, none), (184, some 0), (186, some 2), (189, some 5)] [] (fun k => ([[], [0], [0, 1], [], [3], [3, 4], [0, 1, 2, 3, 4, 5], [0, 1, 2, 3, 4, 5, 6], [0, 1, 2, 3, 4, 5, 6, 7]] : List (List Nat)).getD k []) mixed (by kernel_rfl) rfl rfl (a_op (g_x rfl (x_p rfl (p_move rfl rfl) rfl)) (a_op (g_x rfl (x_p rfl (u_ixp rfl rfl Tryd.underlying93 in_92 rfl rfl (ne_of_lt (n := 0) (Nat.lt_of_lt_of_eq (by decide) (Eq.symm (vmap_len (f := AV.u32) v12_3)))) rfl (ixe h30) (ixn h30)) rfl)) (a_op (g_x rfl (x_p rfl (u_ld rfl rfl Tryd.underlying92 rfl rfl ((Sub.refl _).trans (Sub.vmap (ixn h30)))) rfl)) (a_op (g_x rfl (x_p rfl (p_move rfl rfl) rfl)) (a_op (g_x rfl (x_p rfl (u_ixp rfl rfl Tryd.underlying93 in_92 rfl rfl (ne_of_lt (n := 0) (Nat.lt_of_lt_of_eq (by decide) (Eq.symm (vmap_len (f := AV.u32) h0)))) rfl (ixe h31) (ixn h31)) rfl)) (a_op (g_x rfl (x_p rfl (u_ld rfl rfl Tryd.underlying92 rfl rfl ((Sub.refl _).trans (Sub.vmap (ixn h31)))) rfl)) (a_nil))))))) ?_
            refine t_op rfl rfl (PureD.opD (p_u32add (a := (vrd v12_3 t181_3.toNat)) (b := (vrd h0 t181_3.toNat)) rfl rfl rfl)) ?_
            refine t_op rfl rfl (PureD.opD (u_ixp rfl rfl Tryd.underlying93 in_92 rfl rfl (ne_of_lt (n := 0) (Nat.lt_of_lt_of_eq (by decide) (Eq.symm (vmap_len (f := AV.u32) v12_3)))) rfl (ixe h32) (ixn h32))) ?_
            refine t_op rfl rfl (u_st rfl rfl rfl rfl rfl in_92 rfl (ne_of_lt (n := 0) (Nat.lt_of_lt_of_eq (by decide) (Eq.symm (vmap_len (f := AV.u32) v12_3)))) (Upd.trans (Sub.refl _) (Upd.vmap (ixn h32)) (Upd.refl ((vmap_len (f := AV.u32) (vwr v12_3 t181_3.toNat ((vrd v12_3 t181_3.toNat) + (vrd h0 t181_3.toNat)))).trans (vmap_len (f := AV.u32) v12_3).symm)))) ?_
            refine t_gho (Gho_st (L := [(2, .q 2 (0)), (4, .q 4 (0)), (12, .q 12 (0)), (181, .i t181_3)]) (H := [(2, .pure (h0.toList.map AV.u32)), (4, .pure (((Vector.replicate 8 (0 : UInt32)).toList).map AV.u32)), (12, .pure (((vwr v12_3 t181_3.toNat ((vrd v12_3 t181_3.toNat) + (vrd h0 t181_3.toNat))).toList).map AV.u32))]) (N := 194) rfl ⟨TLes.same _, TLes.same _, TLes.same _, TLes.same _, trivial⟩ ⟨rfl, rfl, rfl, trivial⟩) ?_
            refine gen1 (fun v12'30 => (⟨[(2, .q 2 (0)), (4, .q 4 (0)), (12, .q 12 (0)), (181, .i t181_3)], [(2, .pure (h0.toList.map AV.u32)), (4, .pure (((Vector.replicate 8 (0 : UInt32)).toList).map AV.u32)), (12, .pure (v12'30.toList.map AV.u32))], 194⟩ : TS)) H ?_
            intro v12'30 H
            refine AW2_reg [0, 1] rfl ?_
            refine rp rfl rfl (p_bin rfl rfl rfl rfl) ?_
            refine rp rfl rfl (p_move rfl rfl) ?_
            refine rz [(2, .q 2 (0)), (4, .q 4 (0)), (12, .q 12 (0)), (181, .i (w64 (t181_3 + (1 : Int))))] [(2, .pure (h0.toList.map AV.u32)), (4, .pure (((Vector.replicate 8 (0 : UInt32)).toList).map AV.u32)), (12, .pure (v12'30.toList.map AV.u32))] rfl rfl rfl ?_
            have hz := some_elim H
            subst hz
            exact ⟨rfl, rfl⟩
          · replace H := ite_else h29 H
            refine as2 [(4, .q 4 (0)), (12, .q 12 (0))] [(4, .pure (((Vector.replicate 8 (0 : UInt32)).toList).map AV.u32)), (12, .pure (v12_3.toList.map AV.u32))] rfl rfl rfl ?_
            refine AW2_exit ?_
            refine thenQ2_exit ?_
            have hz := some_elim H
            subst hz
            exact ⟨rfl, rfl⟩
        · obtain ⟨rfl, rfl⟩ := hs
          refine ⟨by simp, ?_⟩
          refine blockQ2_exit ?_
          refine sg [0, 1] rfl ?_
          refine rp rfl rfl (u_lda rfl rfl Tryd.underlying93 rfl in_93 rfl (Nat.succ_pos _) (Sub.refl _) (vmap_len (f := AV.u32) y'34)) ?_
          refine r_op rfl rfl (u_st rfl rfl rfl rfl rfl in_93 (vmap_len (f := AV.u32) y'34) (ne_of_lt (n := 0) (Nat.lt_of_lt_of_eq (by decide) (Eq.symm (vmap_len (f := AV.u32) (Vector.replicate 8 (0 : UInt32)))))) (Upd.refl ((vmap_len (f := AV.u32) y'34).trans (vmap_len (f := AV.u32) (Vector.replicate 8 (0 : UInt32))).symm))) ?_
          refine rz [(4, .q 4 (0))] [(4, .pure (y'34.toList.map AV.u32))] rfl rfl rfl ?_
          refine AW2_ret ?_
          have hz := some_elim H
          subst hz
          exact ⟨⟨res_cella Tryd.underlying93 rfl in_93.sz rfl (Sub.le (Sub.refl _) (vmap_len (f := AV.u32) y'34)) (by decide) (Sub.take (Sub.refl _) (vmap_len (f := AV.u32) y'34)), trivial⟩, trivial⟩

/-! sum.feed -/
noncomputable def g_sum_feed_l0 (b1 : List UInt8) : Int × GStream → Option ((Int × GStream) ⊕ (GStream))
  | (t15_0, s2_0) => (if t15_0 < (b1.length : Int) then (if 0 ≤ t15_0 ∧ t15_0 < (b1.length : Int) then if 0 ≤ s2_0.N ∧ s2_0.N < (64 : Int) then letO ({ s2_0 with Held := (vwr s2_0.Held s2_0.N.toNat (lrd b1 t15_0.toNat)) }) fun s2'2 => (if ({ s2'2 with N := w64 (s2'2.N + (1 : Int)) }).N = (64 : Int) then (g_sum_turn (({ s2'2 with N := w64 (s2'2.N + (1 : Int)) }).H) (({ s2'2 with N := w64 (s2'2.N + (1 : Int)) }).Held)).bind fun r'3 => letO ({ { { s2'2 with N := w64 (s2'2.N + (1 : Int)) } with H := r'3 } with Held := (Vector.replicate 64 (0 : UInt8)) }) fun s2'4 => some ({ s2'4 with N := (0 : Int) }) else some ({ s2'2 with N := w64 (s2'2.N + (1 : Int)) })) else none else none).bind fun j'1 => some (.inl (w64 (t15_0 + (1 : Int)), j'1)) else some (.inr s2_0))
noncomputable def g_sum_feed (s0 : GStream) (b1 : List UInt8) : Option (GStream) :=
  (loopO (g_sum_feed_l0 b1) ((0 : Int), { s0 with Len := w64 (s0.Len + (b1.length : Int)) })).bind fun y'8 => some y'8
set_option maxHeartbeats 4000000 in
set_option maxRecDepth 100000 in
theorem g_sum_feed_ac {s0 : GStream} {b1 : List UInt8} {r : GStream} (H : g_sum_feed s0 b1 = some r) : ACp Tryd.prog 82 [(.agg (GStream.cs s0)), (AV.bytes b1)] (.agg (GStream.cs r)) := by
  refine ACp_of (AC2_of_body (vs := [.g (GStream.cs r)]) Tryd.func82 rfl rfl (Nat.le_of_ble_eq_true rfl) rfl ?_) (fun _ => .same _)
  unfold g_sum_feed at H
  refine as2 [(0, .g (GStream.cs s0)), (1, .y b1)] [] rfl rfl rfl ?_
  refine sg [0, 1] rfl ?_
  refine r_op rfl rfl (MakeD.opD (n_box 2 rfl rfl) rfl rfl rfl rfl) ?_
  refine r_op rfl rfl (MakeD.opD (u_alloc 4 rfl in_96 one_96 zc_96) rfl rfl rfl rfl) ?_
  refine rz [(1, .y b1), (2, .q 2 (0)), (4, .q 4 (0))] [(2, .pure (GStream.cs s0)), (4, .pure (GStream.cs GStream.zero))] rfl rfl rfl ?_
  refine sg [0, 1, 2, 3, 4, 5, 6] rfl ?_
  refine rp rfl rfl (u_fa rfl rfl Tryd.underlying96 rfl in_3 (Nat.succ_ne_zero _) rfl rfl (ne_of_lt (n := 0) (Nat.lt_of_lt_of_eq (by decide) (Eq.symm (GStream.len s0))))) ?_
  refine rp rfl rfl (u_ld rfl rfl Tryd.underlying3 rfl rfl ((Sub.refl _).trans (GStream.sub3 s0))) ?_
  refine rp rfl rfl (p_move rfl rfl) ?_
  refine rp rfl rfl (p_lenl rfl Tryd.underlying22 rfl rfl) ?_
  refine rp rfl rfl (p_bin rfl rfl rfl rfl) ?_
  refine rp rfl rfl (u_fa rfl rfl Tryd.underlying96 rfl in_3 (Nat.succ_ne_zero _) rfl rfl (ne_of_lt (n := 0) (Nat.lt_of_lt_of_eq (by decide) (Eq.symm (GStream.len s0))))) ?_
  refine r_op rfl rfl (u_st rfl rfl rfl rfl rfl in_3 rfl (ne_of_lt (n := 0) (Nat.lt_of_lt_of_eq (by decide) (Eq.symm (GStream.len s0)))) (Upd.trans (Sub.refl _) (GStream.upd3 s0 (w64 (s0.Len + (b1.length : Int)))) (Upd.refl ((GStream.len ({ s0 with Len := w64 (s0.Len + (b1.length : Int)) })).trans (GStream.len s0).symm)))) ?_
  refine rz [(1, .y b1), (2, .q 2 (0)), (4, .q 4 (0))] [(2, .pure (GStream.cs ({ s0 with Len := w64 (s0.Len + (b1.length : Int)) }))), (4, .pure (GStream.cs GStream.zero))] rfl rfl rfl ?_
  refine AW2_seq ?_
  refine sg [0, 1, 2] rfl ?_
  refine rp rfl rfl (p_move rfl rfl) ?_
  refine rp rfl rfl (p_lenl rfl Tryd.underlying22 rfl rfl) ?_
  refine rp rfl rfl (p_move rfl rfl) ?_
  refine rz [(2, .q 2 (0)), (4, .q 4 (0)), (13, .y b1), (14, .i (b1.length : Int)), (15, .i (0 : Int))] [(2, .pure (GStream.cs ({ s0 with Len := w64 (s0.Len + (b1.length : Int)) }))), (4, .pure (GStream.cs GStream.zero))] rfl rfl rfl ?_
  refine AW2_block ?_
  refine as2 [(2, .q 2 (0)), (4, .q 4 (0)), (13, .y b1), (14, .i (b1.length : Int)), (15, .i (0 : Int))] [(2, .pure (GStream.cs ({ s0 with Len := w64 (s0.Len + (b1.length : Int)) }))), (4, .pure (GStream.cs GStream.zero))] rfl rfl rfl ?_
  refine bindK H fun y'8 h7 H => ?_
  refine AW2_loopO (fun a'5 : Int × GStream => (⟨[(2, .q 2 (0)), (4, .q 4 (0)), (13, .y b1), (14, .i (b1.length : Int)), (15, .i a'5.1)], [(2, .pure (GStream.cs a'5.2)), (4, .pure (GStream.cs GStream.zero))], 42⟩ : TS)) (fun (y'6 : GStream) e s' => e = Go.Exit.exit 0 ∧ s' = (⟨[(2, .q 2 (0)), (4, .q 4 (0))], [(2, .pure (GStream.cs y'6)), (4, .pure (GStream.cs GStream.zero))], 42⟩ : TS)) h7 rfl (fun a x hx => ?_) (fun e s' hs => ?_)
  · clear H
    obtain ⟨t15_0, s2_0⟩ := a
    have H := hx
    clear hx
    unfold g_sum_feed_l0 at H
    refine sg [0] rfl ?_
    refine rp rfl rfl (p_bin rfl rfl rfl rfl) ?_
    refine rz [(2, .q 2 (0)), (4, .q 4 (0)), (13, .y b1), (14, .i (b1.length : Int)), (15, .i t15_0), (16, .b (decide (t15_0 < (b1.length : Int))))] [(2, .pure (GStream.cs s2_0)), (4, .pure (GStream.cs GStream.zero))] rfl rfl rfl ?_
    refine AW2_seq ?_
    refine AW2_if (p := t15_0 < (b1.length : Int)) rfl (fun h1 => ?_) (fun h1 => ?_)
    · replace H := ite_then h1 H
      refine as2 [(2, .q 2 (0)), (4, .q 4 (0)), (13, .y b1), (14, .i (b1.length : Int)), (15, .i t15_0)] [(2, .pure (GStream.cs s2_0)), (4, .pure (GStream.cs GStream.zero))] rfl rfl rfl ?_
      refine AW2_skip ?_
      refine AW2_seq ?_
      refine bindK H fun j'1 h2 H => ?_
      refine AW2_mid (⟨[(2, .q 2 (0)), (4, .q 4 (0)), (13, .y b1), (14, .i (b1.length : Int)), (15, .i t15_0)], [(2, .pure (GStream.cs j'1)), (4, .pure (GStream.cs GStream.zero))], 42⟩ : TS) ?_ ?_
      · clear H
        have H := h2
        clear h2
        refine AW2_block ?_
        refine sg [0, 1, 2] rfl ?_
        refine chkK H fun h3 H => ?_
        refine rp rfl rfl (u_ixl rfl rfl Tryd.underlying22 in_5 rfl rfl (ixe h3) (ixn h3) (lne (ixn h3))) ?_
        refine rp rfl rfl (u_ld rfl rfl Tryd.underlying5 rfl rfl (Sub.map default (ixn h3))) ?_
        refine rp rfl rfl (p_asg rfl rfl) ?_
        refine rz [(2, .q 2 (0)), (4, .q 4 (0)), (6, .p (AV.b8 (lrd b1 t15_0.toNat))), (13, .y b1), (14, .i (b1.length : Int)), (15, .i t15_0)] [(2, .pure (GStream.cs s2_0)), (4, .pure (GStream.cs GStream.zero))] rfl rfl rfl ?_
        refine sg [0, 1, 2, 3, 4, 5] rfl ?_
        refine rp rfl rfl (u_fa rfl rfl Tryd.underlying96 rfl in_3 (Nat.succ_ne_zero _) rfl rfl (ne_of_lt (n := 0) (Nat.lt_of_lt_of_eq (by decide) (Eq.symm (GStream.len s2_0))))) ?_
        refine rp rfl rfl (u_ld rfl rfl Tryd.underlying3 rfl rfl ((Sub.refl _).trans (GStream.sub2 s2_0))) ?_
        refine rp rfl rfl (p_move rfl rfl) ?_
        refine rp rfl rfl (u_fa rfl rfl Tryd.underlying96 rfl in_94 (Nat.succ_ne_zero _) rfl rfl (ne_of_lt (n := 0) (Nat.lt_of_lt_of_eq (by decide) (Eq.symm (GStream.len s2_0))))) ?_
        refine chkK H fun h4 H => ?_
        refine rp rfl rfl (u_ixp rfl rfl Tryd.underlying94 in_5 rfl rfl (ne_of_lt (n := 0) (Nat.lt_of_lt_of_eq (by decide) (Eq.symm (GStream.len s2_0)))) rfl (ixe h4) (ixn h4)) ?_
        refine r_op rfl rfl (u_st rfl rfl rfl rfl rfl in_5 rfl (ne_of_lt (n := 0) (Nat.lt_of_lt_of_eq (by decide) (Eq.symm (GStream.len s2_0)))) (Upd.trans ((Sub.refl _).trans (GStream.sub1 s2_0)) (Upd.vmap (ixn h4)) (Upd.trans (Sub.refl _) (GStream.upd1 s2_0 (vwr s2_0.Held s2_0.N.toNat (lrd b1 t15_0.toNat))) (Upd.refl ((GStream.len ({ s2_0 with Held := (vwr s2_0.Held s2_0.N.toNat (lrd b1 t15_0.toNat)) })).trans (GStream.len s2_0).symm))))) ?_
        refine rz [(2, .q 2 (0)), (4, .q 4 (0)), (13, .y b1), (14, .i (b1.length : Int)), (15, .i t15_0)] [(2, .pure (GStream.cs ({ s2_0 with Held := (vwr s2_0.Held s2_0.N.toNat (lrd b1 t15_0.toNat)) }))), (4, .pure (GStream.cs GStream.zero))] rfl rfl rfl ?_
        refine gen1 (fun s2'2 => (⟨[(2, .q 2 (0)), (4, .q 4 (0)), (13, .y b1), (14, .i (b1.length : Int)), (15, .i t15_0)], [(2, .pure (GStream.cs s2'2)), (4, .pure (GStream.cs GStream.zero))], 42⟩ : TS)) H ?_
        intro s2'2 H
        refine sg [0, 1, 2, 3, 4] rfl ?_
        refine rp rfl rfl (u_fa rfl rfl Tryd.underlying96 rfl in_3 (Nat.succ_ne_zero _) rfl rfl (ne_of_lt (n := 0) (Nat.lt_of_lt_of_eq (by decide) (Eq.symm (GStream.len s2'2))))) ?_
        refine rp rfl rfl (u_ld rfl rfl Tryd.underlying3 rfl rfl ((Sub.refl _).trans (GStream.sub2 s2'2))) ?_
        refine rp rfl rfl (p_bin rfl rfl rfl rfl) ?_
        refine rp rfl rfl (u_fa rfl rfl Tryd.underlying96 rfl in_3 (Nat.succ_ne_zero _) rfl rfl (ne_of_lt (n := 0) (Nat.lt_of_lt_of_eq (by decide) (Eq.symm (GStream.len s2'2))))) ?_
        refine r_op rfl rfl (u_st rfl rfl rfl rfl rfl in_3 rfl (ne_of_lt (n := 0) (Nat.lt_of_lt_of_eq (by decide) (Eq.symm (GStream.len s2'2)))) (Upd.trans (Sub.refl _) (GStream.upd2 s2'2 (w64 (s2'2.N + (1 : Int)))) (Upd.refl ((GStream.len ({ s2'2 with N := w64 (s2'2.N + (1 : Int)) })).trans (GStream.len s2'2).symm)))) ?_
        refine rz [(2, .q 2 (0)), (4, .q 4 (0)), (13, .y b1), (14, .i (b1.length : Int)), (15, .i t15_0)] [(2, .pure (GStream.cs ({ s2'2 with N := w64 (s2'2.N + (1 : Int)) }))), (4, .pure (GStream.cs GStream.zero))] rfl rfl rfl ?_
        refine sg [0, 1, 2] rfl ?_
        refine rp rfl rfl (u_fa rfl rfl Tryd.underlying96 rfl in_3 (Nat.succ_ne_zero _) rfl rfl (ne_of_lt (n := 0) (Nat.lt_of_lt_of_eq (by decide) (Eq.symm (GStream.len ({ s2'2 with N := w64 (s2'2.N + (1 : Int)) })))))) ?_
        refine rp rfl rfl (u_ld rfl rfl Tryd.underlying3 rfl rfl ((Sub.refl _).trans (GStream.sub2 ({ s2'2 with N := w64 (s2'2.N + (1 : Int)) })))) ?_
        refine rp rfl rfl (p_ieq rfl rfl rfl) ?_
        refine rz [(2, .q 2 (0)), (4, .q 4 (0)), (13, .y b1), (14, .i (b1.length : Int)), (15, .i t15_0), (30, .b (decide (({ s2'2 with N := w64 (s2'2.N + (1 : Int)) }).N = (64 : Int))))] [(2, .pure (GStream.cs ({ s2'2 with N := w64 (s2'2.N + (1 : Int)) }))), (4, .pure (GStream.cs GStream.zero))] rfl rfl rfl ?_
        refine AW2_if (p := ({ s2'2 with N := w64 (s2'2.N + (1 : Int)) }).N = (64 : Int)) rfl (fun h5 => ?_) (fun h5 => ?_)
        · replace H := ite_then h5 H
          refine sg [0, 1, 2, 3, 4, 5, 6] rfl ?_
          refine rp rfl rfl (u_fa rfl rfl Tryd.underlying96 rfl in_93 (Nat.succ_ne_zero _) rfl rfl (ne_of_lt (n := 0) (Nat.lt_of_lt_of_eq (by decide) (Eq.symm (GStream.len ({ s2'2 with N := w64 (s2'2.N + (1 : Int)) })))))) ?_
          refine rp rfl rfl (u_lda rfl rfl Tryd.underlying93 rfl in_93 rfl (Nat.succ_pos _) ((Sub.refl _).trans (GStream.sub0 ({ s2'2 with N := w64 (s2'2.N + (1 : Int)) }))) (vmap_len (f := AV.u32) (({ s2'2 with N := w64 (s2'2.N + (1 : Int)) }).H))) ?_
          refine rp rfl rfl (u_fa rfl rfl Tryd.underlying96 rfl in_94 (Nat.succ_ne_zero _) rfl rfl (ne_of_lt (n := 0) (Nat.lt_of_lt_of_eq (by decide) (Eq.symm (GStream.len ({ s2'2 with N := w64 (s2'2.N + (1 : Int)) })))))) ?_
          refine rp rfl rfl (u_lda rfl rfl Tryd.underlying94 rfl in_94 rfl (Nat.succ_pos _) ((Sub.refl _).trans (GStream.sub1 ({ s2'2 with N := w64 (s2'2.N + (1 : Int)) }))) ((bcells_length _).trans (vlen (({ s2'2 with N := w64 (s2'2.N + (1 : Int)) }).Held)))) ?_
          refine bindK H fun r'3 h6 H => ?_
          refine rp rfl rfl (p_callp rfl rfl rfl Tryd.func89 rfl rfl (g_sum_turn_ac h6) ⟨rfl, rfl, trivial⟩) ?_
          refine rp rfl rfl (u_fa rfl rfl Tryd.underlying96 rfl in_93 (Nat.succ_ne_zero _) rfl rfl (ne_of_lt (n := 0) (Nat.lt_of_lt_of_eq (by decide) (Eq.symm (GStream.len ({ s2'2 with N := w64 (s2'2.N + (1 : Int)) })))))) ?_
          refine r_op rfl rfl (u_st rfl rfl rfl rfl rfl in_93 (vmap_len (f := AV.u32) r'3) (ne_of_lt (n := 0) (Nat.lt_of_lt_of_eq (by decide) (Eq.symm (GStream.len ({ s2'2 with N := w64 (s2'2.N + (1 : Int)) }))))) (Upd.trans (Sub.refl _) (GStream.upd0 ({ s2'2 with N := w64 (s2'2.N + (1 : Int)) }) r'3) (Upd.refl ((GStream.len ({ { s2'2 with N := w64 (s2'2.N + (1 : Int)) } with H := r'3 })).trans (GStream.len ({ s2'2 with N := w64 (s2'2.N + (1 : Int)) })).symm)))) ?_
          refine rz [(2, .q 2 (0)), (4, .q 4 (0)), (13, .y b1), (14, .i (b1.length : Int)), (15, .i t15_0)] [(2, .pure (GStream.cs ({ { s2'2 with N := w64 (s2'2.N + (1 : Int)) } with H := r'3 }))), (4, .pure (GStream.cs GStream.zero))] rfl rfl rfl ?_
          refine sg [0, 1, 2] rfl ?_
          refine rp rfl rfl (u_blda rfl in_94 one_94 zc_94 Tryd.underlying94 in_5 rfl rfl) ?_
          refine rp rfl rfl (u_fa rfl rfl Tryd.underlying96 rfl in_94 (Nat.succ_ne_zero _) rfl rfl (ne_of_lt (n := 0) (Nat.lt_of_lt_of_eq (by decide) (Eq.symm (GStream.len ({ { s2'2 with N := w64 (s2'2.N + (1 : Int)) } with H := r'3 })))))) ?_
          refine r_op rfl rfl (u_st rfl rfl rfl rfl rfl in_94 ((bcells_length _).trans (vlen (Vector.replicate 64 (0 : UInt8)))) (ne_of_lt (n := 0) (Nat.lt_of_lt_of_eq (by decide) (Eq.symm (GStream.len ({ { s2'2 with N := w64 (s2'2.N + (1 : Int)) } with H := r'3 }))))) (Upd.trans (Sub.refl _) (GStream.upd1 ({ { s2'2 with N := w64 (s2'2.N + (1 : Int)) } with H := r'3 }) (Vector.replicate 64 (0 : UInt8))) (Upd.refl ((GStream.len ({ { { s2'2 with N := w64 (s2'2.N + (1 : Int)) } with H := r'3 } with Held := (Vector.replicate 64 (0 : UInt8)) })).trans (GStream.len ({ { s2'2 with N := w64 (s2'2.N + (1 : Int)) } with H := r'3 })).symm)))) ?_
          refine rz [(2, .q 2 (0)), (4, .q 4 (0)), (13, .y b1), (14, .i (b1.length : Int)), (15, .i t15_0)] [(2, .pure (GStream.cs ({ { { s2'2 with N := w64 (s2'2.N + (1 : Int)) } with H := r'3 } with Held := (Vector.replicate 64 (0 : UInt8)) }))), (4, .pure (GStream.cs GStream.zero))] rfl rfl rfl ?_
          refine gen1 (fun s2'4 => (⟨[(2, .q 2 (0)), (4, .q 4 (0)), (13, .y b1), (14, .i (b1.length : Int)), (15, .i t15_0)], [(2, .pure (GStream.cs s2'4)), (4, .pure (GStream.cs GStream.zero))], 42⟩ : TS)) H ?_
          intro s2'4 H
          refine AW2_reg [0, 1] rfl ?_
          refine rp rfl rfl (u_fa rfl rfl Tryd.underlying96 rfl in_3 (Nat.succ_ne_zero _) rfl rfl (ne_of_lt (n := 0) (Nat.lt_of_lt_of_eq (by decide) (Eq.symm (GStream.len s2'4))))) ?_
          refine r_op rfl rfl (u_st rfl rfl rfl rfl rfl in_3 rfl (ne_of_lt (n := 0) (Nat.lt_of_lt_of_eq (by decide) (Eq.symm (GStream.len s2'4)))) (Upd.trans (Sub.refl _) (GStream.upd2 s2'4 (0 : Int)) (Upd.refl ((GStream.len ({ s2'4 with N := (0 : Int) })).trans (GStream.len s2'4).symm)))) ?_
          refine rz [(2, .q 2 (0)), (4, .q 4 (0)), (13, .y b1), (14, .i (b1.length : Int)), (15, .i t15_0)] [(2, .pure (GStream.cs ({ s2'4 with N := (0 : Int) }))), (4, .pure (GStream.cs GStream.zero))] rfl rfl rfl ?_
          have hz := some_elim H
          subst hz
          exact rfl
        · replace H := ite_else h5 H
          refine as2 [(2, .q 2 (0)), (4, .q 4 (0)), (13, .y b1), (14, .i (b1.length : Int)), (15, .i t15_0)] [(2, .pure (GStream.cs ({ s2'2 with N := w64 (s2'2.N + (1 : Int)) }))), (4, .pure (GStream.cs GStream.zero))] rfl rfl rfl ?_
          refine AW2_skip ?_
          have hz := some_elim H
          subst hz
          exact rfl
      · refine AW2_reg [0, 1] rfl ?_
        refine rp rfl rfl (p_bin rfl rfl rfl rfl) ?_
        refine rp rfl rfl (p_move rfl rfl) ?_
        refine rz [(2, .q 2 (0)), (4, .q 4 (0)), (13, .y b1), (14, .i (b1.length : Int)), (15, .i (w64 (t15_0 + (1 : Int))))] [(2, .pure (GStream.cs j'1)), (4, .pure (GStream.cs GStream.zero))] rfl rfl rfl ?_
        have hz := some_elim H
        subst hz
        exact ⟨rfl, rfl⟩
    · replace H := ite_else h1 H
      refine as2 [(2, .q 2 (0)), (4, .q 4 (0))] [(2, .pure (GStream.cs s2_0)), (4, .pure (GStream.cs GStream.zero))] rfl rfl rfl ?_
      refine AW2_exit ?_
      refine thenQ2_exit ?_
      have hz := some_elim H
      subst hz
      exact ⟨rfl, rfl⟩
  · obtain ⟨rfl, rfl⟩ := hs
    refine ⟨by simp, ?_⟩
    refine blockQ2_exit ?_
    refine sg [0, 1] rfl ?_
    refine rp rfl rfl (u_lda rfl rfl Tryd.underlying96 rfl in_96 rfl (Nat.succ_pos _) (Sub.refl _) (GStream.len y'8)) ?_
    refine r_op rfl rfl (u_st rfl rfl rfl rfl rfl in_96 (GStream.len y'8) (ne_of_lt (n := 0) (Nat.lt_of_lt_of_eq (by decide) (Eq.symm (GStream.len GStream.zero)))) (Upd.refl ((GStream.len y'8).trans (GStream.len GStream.zero).symm))) ?_
    refine rz [(4, .q 4 (0))] [(4, .pure (GStream.cs y'8))] rfl rfl rfl ?_
    refine AW2_ret ?_
    have hz := some_elim H
    subst hz
    exact ⟨⟨res_cella Tryd.underlying96 rfl in_96.sz rfl (Sub.le (Sub.refl _) (GStream.len y'8)) (by decide) (Sub.take (Sub.refl _) (GStream.len y'8)), trivial⟩, trivial⟩

/-! sum.end -/
noncomputable def g_sum_end_l0 : GStream → Option (GStream ⊕ (GStream))
  | s1_0 => (if s1_0.N ≠ (56 : Int) then (g_sum_feed s1_0 ([(0 : UInt8)] : List UInt8)).bind fun r'2 => some (.inl r'2) else some (.inr s1_0))
noncomputable def g_sum_end_l1 (s0 : GStream) : Int × GStream → Option ((Int × GStream) ⊕ (GStream))
  | (i4_1, s1_1) => (if i4_1 ≥ (0 : Int) then if 0 ≤ i4_1 then (g_sum_feed s1_1 ([(shr_u64 ((UInt64.ofInt s0.Len) * (8 : UInt64)) i4_1.toNat).toUInt8] : List UInt8)).bind fun r'7 => some (.inl (w64 (i4_1 - (8 : Int)), r'7)) else none else some (.inr s1_1))
noncomputable def g_sum_end_l2 (y'11 : GStream) : Int × (Vector UInt8 32) → Option ((Int × (Vector UInt8 32)) ⊕ (((Vector UInt8 32))))
  | (t31_2, out5_2) => (if t31_2 < (32 : Int) then if 0 ≤ w64 (t31_2.tdiv (4 : Int)) ∧ w64 (t31_2.tdiv (4 : Int)) < (8 : Int) then if 0 ≤ w64 ((24 : Int) - (w64 ((8 : Int) * (t31_2.tmod (4 : Int))))) then if 0 ≤ t31_2 ∧ t31_2 < (32 : Int) then letO ((vwr out5_2 t31_2.toNat ((shr_u32 (vrd y'11.H ((w64 (t31_2.tdiv (4 : Int))).toNat)) ((w64 ((24 : Int) - (w64 ((8 : Int) * (t31_2.tmod (4 : Int)))))).toNat)).toUInt8))) fun out5'12 => some (.inl (w64 (t31_2 + (1 : Int)), out5'12)) else none else none else none else some (.inr out5_2))
noncomputable def g_sum_end (s0 : GStream) : Option ((Vector UInt8 32)) :=
  (g_sum_feed s0 ([(128 : UInt8)] : List UInt8)).bind fun r'1 => (loopO (g_sum_end_l0) r'1).bind fun y'6 => (loopO (g_sum_end_l1 s0) ((56 : Int), y'6)).bind fun y'11 => (loopO (g_sum_end_l2 y'11) ((0 : Int), (Vector.replicate 32 (0 : UInt8)))).bind fun y'16 => some y'16
set_option maxHeartbeats 4000000 in
set_option maxRecDepth 100000 in
theorem g_sum_end_ac {s0 : GStream} {r : (Vector UInt8 32)} (H : g_sum_end s0 = some r) : ACp Tryd.prog 81 [(.agg (GStream.cs s0))] (.agg (bcells r.toList)) := by
  refine ACp_of (AC2_of_body (vs := [.g (bcells r.toList)]) Tryd.func81 rfl rfl (Nat.le_of_ble_eq_true rfl) rfl ?_) (fun _ => .same _)
  unfold g_sum_end at H
  refine as2 [(0, .g (GStream.cs s0))] [] rfl rfl rfl ?_
  refine sg [0, 1] rfl ?_
  refine r_op rfl rfl (MakeD.opD (n_box 1 rfl rfl) rfl rfl rfl rfl) ?_
  refine r_op rfl rfl (MakeD.opD (u_alloc 2 rfl in_82 one_82 zc_82) rfl rfl rfl rfl) ?_
  refine rz [(1, .q 1 (0)), (2, .q 2 (0))] [(1, .pure (GStream.cs s0)), (2, .pure (bcells ((Vector.replicate 32 (0 : UInt8)).toList)))] rfl rfl rfl ?_
  refine sg [0, 1, 2, 3, 4] rfl ?_
  refine rp rfl rfl (u_fa rfl rfl Tryd.underlying96 rfl in_3 (Nat.succ_ne_zero _) rfl rfl (ne_of_lt (n := 0) (Nat.lt_of_lt_of_eq (by decide) (Eq.symm (GStream.len s0))))) ?_
  refine rp rfl rfl (u_ld rfl rfl Tryd.underlying3 rfl rfl ((Sub.refl _).trans (GStream.sub3 s0))) ?_
  refine rp rfl rfl (p_i_u64 rfl Tryd.underlying3 Tryd.underlying103 rfl) ?_
  refine rp rfl rfl (p_u64mul (a := UInt64.ofInt s0.Len) (b := (8 : UInt64)) rfl rfl rfl) ?_
  refine rp rfl rfl (p_asg rfl rfl) ?_
  refine rz [(1, .q 1 (0)), (2, .q 2 (0)), (3, .p (AV.u64 ((UInt64.ofInt s0.Len) * (8 : UInt64))))] [(1, .pure (GStream.cs s0)), (2, .pure (bcells ((Vector.replicate 32 (0 : UInt8)).toList)))] rfl rfl rfl ?_
  refine sg [0, 1, 2, 3] rfl ?_
  refine rp rfl rfl (u_lda rfl rfl Tryd.underlying96 rfl in_96 rfl (Nat.succ_pos _) (Sub.refl _) (GStream.len s0)) ?_
  refine r_op rfl rfl (MakeD.opD (u_bs 12 rfl Tryd.underlying22 in_5 rfl one_5 (by decide) (by decide) rfl rfl rfl) rfl rfl rfl rfl) ?_
  refine bindK H fun r'1 h1 H => ?_
  refine rp rfl rfl (p_calll rfl rfl rfl Tryd.func82 rfl rfl (g_sum_feed_ac h1) (GStream.nl r'1) ⟨lend_p rfl, lend_o rfl rfl rfl (bl ([(128 : UInt8)] : List UInt8)) (by decide), trivial⟩) ?_
  refine r_op rfl rfl (u_st rfl rfl rfl rfl rfl in_96 (GStream.len r'1) (ne_of_lt (n := 0) (Nat.lt_of_lt_of_eq (by decide) (Eq.symm (GStream.len s0)))) (Upd.refl ((GStream.len r'1).trans (GStream.len s0).symm))) ?_
  refine rz [(1, .q 1 (0)), (2, .q 2 (0)), (3, .p (AV.u64 ((UInt64.ofInt s0.Len) * (8 : UInt64))))] [(1, .pure (GStream.cs r'1)), (2, .pure (bcells ((Vector.replicate 32 (0 : UInt8)).toList)))] rfl rfl rfl ?_
  refine AW2_seq ?_
  refine AW2_block ?_
  refine as2 [(1, .q 1 (0)), (2, .q 2 (0)), (3, .p (AV.u64 ((UInt64.ofInt s0.Len) * (8 : UInt64))))] [(1, .pure (GStream.cs r'1)), (2, .pure (bcells ((Vector.replicate 32 (0 : UInt8)).toList)))] rfl rfl rfl ?_
  refine bindK H fun y'6 h4 H => ?_
  refine AW2_loopO (fun a'3 : GStream => (⟨[(1, .q 1 (0)), (2, .q 2 (0)), (3, .p (AV.u64 ((UInt64.ofInt s0.Len) * (8 : UInt64))))], [(1, .pure (GStream.cs a'3)), (2, .pure (bcells ((Vector.replicate 32 (0 : UInt8)).toList)))], 49⟩ : TS)) (fun (y'4 : GStream) e s' => e = Go.Exit.exit 0 ∧ s' = (⟨[(1, .q 1 (0)), (2, .q 2 (0)), (3, .p (AV.u64 ((UInt64.ofInt s0.Len) * (8 : UInt64))))], [(1, .pure (GStream.cs y'4)), (2, .pure (bcells ((Vector.replicate 32 (0 : UInt8)).toList)))], 49⟩ : TS)) h4 rfl (fun s1_0 x hx => ?_) (fun e s' hs => ?_)
  · clear H
    have H := hx
    clear hx
    unfold g_sum_end_l0 at H
    refine AW2_seq ?_
    refine sg [0, 1, 2] rfl ?_
    refine rp rfl rfl (u_fa rfl rfl Tryd.underlying96 rfl in_3 (Nat.succ_ne_zero _) rfl rfl (ne_of_lt (n := 0) (Nat.lt_of_lt_of_eq (by decide) (Eq.symm (GStream.len s1_0))))) ?_
    refine rp rfl rfl (u_ld rfl rfl Tryd.underlying3 rfl rfl ((Sub.refl _).trans (GStream.sub2 s1_0))) ?_
    refine rp rfl rfl (p_ine rfl rfl rfl) ?_
    refine rz [(1, .q 1 (0)), (2, .q 2 (0)), (3, .p (AV.u64 ((UInt64.ofInt s0.Len) * (8 : UInt64)))), (16, .b (decide (s1_0.N ≠ (56 : Int))))] [(1, .pure (GStream.cs s1_0)), (2, .pure (bcells ((Vector.replicate 32 (0 : UInt8)).toList)))] rfl rfl rfl ?_
    refine AW2_if (p := s1_0.N ≠ (56 : Int)) rfl (fun h2 => ?_) (fun h2 => ?_)
    · replace H := ite_then h2 H
      refine as2 [(1, .q 1 (0)), (2, .q 2 (0)), (3, .p (AV.u64 ((UInt64.ofInt s0.Len) * (8 : UInt64))))] [(1, .pure (GStream.cs s1_0)), (2, .pure (bcells ((Vector.replicate 32 (0 : UInt8)).toList)))] rfl rfl rfl ?_
      refine AW2_skip ?_
      refine AW2_block ?_
      refine AW2_reg [0, 1, 2, 3] rfl ?_
      refine rp rfl rfl (u_lda rfl rfl Tryd.underlying96 rfl in_96 rfl (Nat.succ_pos _) (Sub.refl _) (GStream.len s1_0)) ?_
      refine r_op rfl rfl (MakeD.opD (u_bs 18 rfl Tryd.underlying22 in_5 rfl one_5 (by decide) (by decide) rfl rfl rfl) rfl rfl rfl rfl) ?_
      refine bindK H fun r'2 h3 H => ?_
      refine rp rfl rfl (p_calll rfl rfl rfl Tryd.func82 rfl rfl (g_sum_feed_ac h3) (GStream.nl r'2) ⟨lend_p rfl, lend_o rfl rfl rfl (bl ([(0 : UInt8)] : List UInt8)) (by decide), trivial⟩) ?_
      refine r_op rfl rfl (u_st rfl rfl rfl rfl rfl in_96 (GStream.len r'2) (ne_of_lt (n := 0) (Nat.lt_of_lt_of_eq (by decide) (Eq.symm (GStream.len s1_0)))) (Upd.refl ((GStream.len r'2).trans (GStream.len s1_0).symm))) ?_
      refine rz [(1, .q 1 (0)), (2, .q 2 (0)), (3, .p (AV.u64 ((UInt64.ofInt s0.Len) * (8 : UInt64))))] [(1, .pure (GStream.cs r'2)), (2, .pure (bcells ((Vector.replicate 32 (0 : UInt8)).toList)))] rfl rfl rfl ?_
      have hz := some_elim H
      subst hz
      exact ⟨rfl, rfl⟩
    · replace H := ite_else h2 H
      refine as2 [(1, .q 1 (0)), (2, .q 2 (0)), (3, .p (AV.u64 ((UInt64.ofInt s0.Len) * (8 : UInt64))))] [(1, .pure (GStream.cs s1_0)), (2, .pure (bcells ((Vector.replicate 32 (0 : UInt8)).toList)))] rfl rfl rfl ?_
      refine AW2_exit ?_
      refine thenQ2_exit ?_
      have hz := some_elim H
      subst hz
      exact ⟨rfl, rfl⟩
  · obtain ⟨rfl, rfl⟩ := hs
    refine ⟨by simp, ?_⟩
    refine blockQ2_exit ?_
    refine AW2_seq ?_
    refine sg [0] rfl ?_
    refine rp rfl rfl (p_asg rfl rfl) ?_
    refine rz [(1, .q 1 (0)), (2, .q 2 (0)), (3, .p (AV.u64 ((UInt64.ofInt s0.Len) * (8 : UInt64)))), (4, .i (56 : Int))] [(1, .pure (GStream.cs y'6)), (2, .pure (bcells ((Vector.replicate 32 (0 : UInt8)).toList)))] rfl rfl rfl ?_
    refine AW2_block ?_
    refine as2 [(1, .q 1 (0)), (2, .q 2 (0)), (3, .p (AV.u64 ((UInt64.ofInt s0.Len) * (8 : UInt64)))), (4, .i (56 : Int))] [(1, .pure (GStream.cs y'6)), (2, .pure (bcells ((Vector.replicate 32 (0 : UInt8)).toList)))] rfl rfl rfl ?_
    refine bindK H fun y'11 h8 H => ?_
    refine AW2_loopO (fun a'8 : Int × GStream => (⟨[(1, .q 1 (0)), (2, .q 2 (0)), (3, .p (AV.u64 ((UInt64.ofInt s0.Len) * (8 : UInt64)))), (4, .i a'8.1)], [(1, .pure (GStream.cs a'8.2)), (2, .pure (bcells ((Vector.replicate 32 (0 : UInt8)).toList)))], 49⟩ : TS)) (fun (y'9 : GStream) e s' => e = Go.Exit.exit 2 ∧ s' = (⟨[(1, .q 1 (0)), (2, .q 2 (0))], [(1, .pure (GStream.cs y'9)), (2, .pure (bcells ((Vector.replicate 32 (0 : UInt8)).toList)))], 49⟩ : TS)) h8 rfl (fun a x hx => ?_) (fun e s' hs => ?_)
    · clear H
      obtain ⟨i4_1, s1_1⟩ := a
      have H := hx
      clear hx
      unfold g_sum_end_l1 at H
      refine AW2_seq ?_
      refine sg [0, 1] rfl ?_
      refine rp rfl rfl (p_move rfl rfl) ?_
      refine rp rfl rfl (p_bin rfl rfl rfl rfl) ?_
      refine rz [(1, .q 1 (0)), (2, .q 2 (0)), (3, .p (AV.u64 ((UInt64.ofInt s0.Len) * (8 : UInt64)))), (4, .i i4_1), (21, .b (decide (i4_1 ≥ (0 : Int))))] [(1, .pure (GStream.cs s1_1)), (2, .pure (bcells ((Vector.replicate 32 (0 : UInt8)).toList)))] rfl rfl rfl ?_
      refine AW2_if (p := i4_1 ≥ (0 : Int)) rfl (fun h5 => ?_) (fun h5 => ?_)
      · replace H := ite_then h5 H
        refine as2 [(1, .q 1 (0)), (2, .q 2 (0)), (3, .p (AV.u64 ((UInt64.ofInt s0.Len) * (8 : UInt64)))), (4, .i i4_1)] [(1, .pure (GStream.cs s1_1)), (2, .pure (bcells ((Vector.replicate 32 (0 : UInt8)).toList)))] rfl rfl rfl ?_
        refine AW2_skip ?_
        refine AW2_seq ?_
        refine AW2_block ?_
        refine chkK H fun h6 H => ?_
        refine bindK H fun r'7 h7 H => ?_
        refine AW2_ghoQ ?_
        refine AW2_draw 6 [6, 7] (fun k => ([.g (GStream.cs s1_1), .p (AV.u64 ((UInt64.ofInt s0.Len) * (8 : UInt64))), .i i4_1, .p (AV.u64 (shr_u64 ((UInt64.ofInt s0.Len) * (8 : UInt64)) i4_1.toNat)), .p (AV.b8 ((shr_u64 ((UInt64.ofInt s0.Len) * (8 : UInt64)) i4_1.toNat).toUInt8)), .c (.own 29 1 1)] : List TV).getD k TV.any) (fun k => ([[(1, none)], [(3, none)], [(4, none)], [(25, some 1), (26, some 2)], [(27, some 3)], [(28, some 4)]] : List (List (Nat × Option Nat))).getD k []) [(1, none), (2, none), (3, none), (4, none), (24, some 0), (29, some 5)] [(5, 29, (bcells ([(shr_u64 ((UInt64.ofInt s0.Len) * (8 : UInt64)) i4_1.toNat).toUInt8] : List UInt8)))] (fun k => ([[], [], [], [1, 2], [1, 2, 3], [1, 2, 3, 4], [0, 1, 2, 3, 4, 5], [0, 1, 2, 3, 4, 5, 6]] : List (List Nat)).getD k []) mixed (by kernel_rfl) rfl rfl (a_op (g_x rfl (x_p rfl (u_lda rfl rfl Tryd.underlying96 rfl in_96 rfl (Nat.succ_pos _) (Sub.refl _) (GStream.len s1_1)) rfl)) (a_op (g_x rfl (x_p rfl (p_move rfl rfl) rfl)) (a_op (g_x rfl (x_p rfl (p_move rfl rfl) rfl)) (a_op (g_x rfl (x_p rfl (p_u64shr (n := i4_1.toNat) rfl rfl rfl (Int.toNat_of_nonneg h6).symm) rfl)) (a_op (g_x rfl (x_p rfl (p_u64_u8 (a := shr_u64 ((UInt64.ofInt s0.Len) * (8 : UInt64)) i4_1.toNat) rfl Tryd.underlying103 Tryd.underlying5 rfl) rfl)) (a_op (g_x rfl (x_m rfl (u_bs 29 rfl Tryd.underlying22 in_5 rfl one_5 (by decide) (by decide) rfl rfl rfl) rfl rfl)) (a_nil))))))) ?_
        refine t_op rfl rfl (PureD.opD (p_calll rfl rfl rfl Tryd.func82 rfl rfl (g_sum_feed_ac h7) (GStream.nl r'7) ⟨lend_p rfl, lend_o rfl rfl rfl (bl ([(shr_u64 ((UInt64.ofInt s0.Len) * (8 : UInt64)) i4_1.toNat).toUInt8] : List UInt8)) (by decide), trivial⟩)) ?_
        refine t_op rfl rfl (u_st rfl rfl rfl rfl rfl in_96 (GStream.len r'7) (ne_of_lt (n := 0) (Nat.lt_of_lt_of_eq (by decide) (Eq.symm (GStream.len s1_1)))) (Upd.refl ((GStream.len r'7).trans (GStream.len s1_1).symm))) ?_
        refine t_gho (Gho_st (L := [(1, .q 1 (0)), (2, .q 2 (0)), (3, .p (AV.u64 ((UInt64.ofInt s0.Len) * (8 : UInt64)))), (4, .i i4_1)]) (H := [(1, .pure (GStream.cs r'7)), (2, .pure (bcells ((Vector.replicate 32 (0 : UInt8)).toList)))]) (N := 49) rfl ⟨TLes.same _, TLes.same _, TLes.same _, TLes.same _, trivial⟩ ⟨rfl, rfl, trivial⟩) ?_
        refine AW2_reg [0, 1, 2] rfl ?_
        refine rp rfl rfl (p_move rfl rfl) ?_
        refine rp rfl rfl (p_bin rfl rfl rfl rfl) ?_
        refine rp rfl rfl (p_asg rfl rfl) ?_
        refine rz [(1, .q 1 (0)), (2, .q 2 (0)), (3, .p (AV.u64 ((UInt64.ofInt s0.Len) * (8 : UInt64)))), (4, .i (w64 (i4_1 - (8 : Int))))] [(1, .pure (GStream.cs r'7)), (2, .pure (bcells ((Vector.replicate 32 (0 : UInt8)).toList)))] rfl rfl rfl ?_
        have hz := some_elim H
        subst hz
        exact ⟨rfl, rfl⟩
      · replace H := ite_else h5 H
        refine as2 [(1, .q 1 (0)), (2, .q 2 (0))] [(1, .pure (GStream.cs s1_1)), (2, .pure (bcells ((Vector.replicate 32 (0 : UInt8)).toList)))] rfl rfl rfl ?_
        refine AW2_exit ?_
        refine thenQ2_exit ?_
        have hz := some_elim H
        subst hz
        exact ⟨rfl, rfl⟩
    · obtain ⟨rfl, rfl⟩ := hs
      refine ⟨by simp, ?_⟩
      refine blockQ2_exit ?_
      refine sg [0] rfl ?_
      refine r_op rfl rfl (MakeD.opD (u_alloc 5 rfl in_82 one_82 zc_82) rfl rfl rfl rfl) ?_
      refine rz [(1, .q 1 (0)), (2, .q 2 (0)), (5, .q 5 (0))] [(1, .pure (GStream.cs y'11)), (2, .pure (bcells ((Vector.replicate 32 (0 : UInt8)).toList))), (5, .pure (bcells ((Vector.replicate 32 (0 : UInt8)).toList)))] rfl rfl rfl ?_
      refine AW2_seq ?_
      refine sg [0] rfl ?_
      refine rp rfl rfl (p_move rfl rfl) ?_
      refine rz [(1, .q 1 (0)), (2, .q 2 (0)), (5, .q 5 (0)), (31, .i (0 : Int))] [(1, .pure (GStream.cs y'11)), (2, .pure (bcells ((Vector.replicate 32 (0 : UInt8)).toList))), (5, .pure (bcells ((Vector.replicate 32 (0 : UInt8)).toList)))] rfl rfl rfl ?_
      refine AW2_block ?_
      refine as2 [(1, .q 1 (0)), (2, .q 2 (0)), (5, .q 5 (0)), (31, .i (0 : Int))] [(1, .pure (GStream.cs y'11)), (2, .pure (bcells ((Vector.replicate 32 (0 : UInt8)).toList))), (5, .pure (bcells ((Vector.replicate 32 (0 : UInt8)).toList)))] rfl rfl rfl ?_
      refine bindK H fun y'16 h13 H => ?_
      refine AW2_loopO (fun a'13 : Int × (Vector UInt8 32) => (⟨[(1, .q 1 (0)), (2, .q 2 (0)), (5, .q 5 (0)), (31, .i a'13.1)], [(1, .pure (GStream.cs y'11)), (2, .pure (bcells ((Vector.replicate 32 (0 : UInt8)).toList))), (5, .pure (bcells a'13.2.toList))], 49⟩ : TS)) (fun (y'14 : ((Vector UInt8 32))) e s' => e = Go.Exit.exit 4 ∧ s' = (⟨[(2, .q 2 (0)), (5, .q 5 (0))], [(2, .pure (bcells ((Vector.replicate 32 (0 : UInt8)).toList))), (5, .pure (bcells y'14.toList))], 49⟩ : TS)) h13 rfl (fun a x hx => ?_) (fun e s' hs => ?_)
      · clear H
        obtain ⟨t31_2, out5_2⟩ := a
        have H := hx
        clear hx
        unfold g_sum_end_l2 at H
        refine sg [0] rfl ?_
        refine rp rfl rfl (p_bin rfl rfl rfl rfl) ?_
        refine rz [(1, .q 1 (0)), (2, .q 2 (0)), (5, .q 5 (0)), (31, .i t31_2), (32, .b (decide (t31_2 < (32 : Int))))] [(1, .pure (GStream.cs y'11)), (2, .pure (bcells ((Vector.replicate 32 (0 : UInt8)).toList))), (5, .pure (bcells out5_2.toList))] rfl rfl rfl ?_
        refine AW2_seq ?_
        refine AW2_if (p := t31_2 < (32 : Int)) rfl (fun h9 => ?_) (fun h9 => ?_)
        · replace H := ite_then h9 H
          refine as2 [(1, .q 1 (0)), (2, .q 2 (0)), (5, .q 5 (0)), (31, .i t31_2)] [(1, .pure (GStream.cs y'11)), (2, .pure (bcells ((Vector.replicate 32 (0 : UInt8)).toList))), (5, .pure (bcells out5_2.toList))] rfl rfl rfl ?_
          refine AW2_skip ?_
          refine AW2_seq ?_
          refine AW2_block ?_
          refine sg [0, 1] rfl ?_
          refine rp rfl rfl (p_move rfl rfl) ?_
          refine rp rfl rfl (p_asg rfl rfl) ?_
          refine rz [(1, .q 1 (0)), (2, .q 2 (0)), (5, .q 5 (0)), (6, .i t31_2), (31, .i t31_2)] [(1, .pure (GStream.cs y'11)), (2, .pure (bcells ((Vector.replicate 32 (0 : UInt8)).toList))), (5, .pure (bcells out5_2.toList))] rfl rfl rfl ?_
          refine AW2_reg [0, 1, 2, 3, 4, 5, 6, 7, 8, 9, 10, 11, 12, 13] rfl ?_
          refine rp rfl rfl (p_move rfl rfl) ?_
          refine rp rfl rfl (p_move rfl rfl) ?_
          refine rp rfl rfl (p_iquo rfl rfl rfl (by decide)) ?_
          refine rp rfl rfl (u_fa rfl rfl Tryd.underlying96 rfl in_93 (Nat.succ_ne_zero _) rfl rfl (ne_of_lt (n := 0) (Nat.lt_of_lt_of_eq (by decide) (Eq.symm (GStream.len y'11))))) ?_
          refine chkK H fun h10 H => ?_
          refine rp rfl rfl (u_ixp rfl rfl Tryd.underlying93 in_92 rfl rfl (ne_of_lt (n := 0) (Nat.lt_of_lt_of_eq (by decide) (Eq.symm (GStream.len y'11)))) rfl (ixe h10) (ixn h10)) ?_
          refine rp rfl rfl (u_ld rfl rfl Tryd.underlying92 rfl rfl (((Sub.refl _).trans (GStream.sub0 y'11)).trans (Sub.vmap (ixn h10)))) ?_
          refine rp rfl rfl (p_move rfl rfl) ?_
          refine rp rfl rfl (p_irem rfl rfl rfl (by decide)) ?_
          refine rp rfl rfl (p_bin rfl rfl rfl rfl) ?_
          refine rp rfl rfl (p_bin rfl rfl rfl rfl) ?_
          refine chkK H fun h11 H => ?_
          refine rp rfl rfl (p_u32shr (n := (w64 ((24 : Int) - (w64 ((8 : Int) * (t31_2.tmod (4 : Int)))))).toNat) rfl rfl rfl (Int.toNat_of_nonneg h11).symm) ?_
          refine rp rfl rfl (p_u32_u8 (a := shr_u32 (vrd y'11.H ((w64 (t31_2.tdiv (4 : Int))).toNat)) ((w64 ((24 : Int) - (w64 ((8 : Int) * (t31_2.tmod (4 : Int)))))).toNat)) rfl Tryd.underlying92 Tryd.underlying5 rfl) ?_
          refine chkK H fun h12 H => ?_
          refine rp rfl rfl (u_ixp rfl rfl Tryd.underlying82 in_5 rfl rfl (ne_of_lt (n := 0) (Nat.lt_of_lt_of_eq (by decide) (Eq.symm ((bcells_length _).trans (vlen out5_2))))) rfl (ixe h12) (ixn h12)) ?_
          refine r_op rfl rfl (u_st rfl rfl rfl rfl rfl in_5 rfl (ne_of_lt (n := 0) (Nat.lt_of_lt_of_eq (by decide) (Eq.symm ((bcells_length _).trans (vlen out5_2))))) (Upd.trans (Sub.refl _) (Upd.vmap (ixn h12)) (Upd.refl (((bcells_length _).trans (vlen (vwr out5_2 t31_2.toNat ((shr_u32 (vrd y'11.H ((w64 (t31_2.tdiv (4 : Int))).toNat)) ((w64 ((24 : Int) - (w64 ((8 : Int) * (t31_2.tmod (4 : Int)))))).toNat)).toUInt8)))).trans ((bcells_length _).trans (vlen out5_2)).symm)))) ?_
          refine rz [(1, .q 1 (0)), (2, .q 2 (0)), (5, .q 5 (0)), (31, .i t31_2)] [(1, .pure (GStream.cs y'11)), (2, .pure (bcells ((Vector.replicate 32 (0 : UInt8)).toList))), (5, .pure (bcells ((vwr out5_2 t31_2.toNat ((shr_u32 (vrd y'11.H ((w64 (t31_2.tdiv (4 : Int))).toNat)) ((w64 ((24 : Int) - (w64 ((8 : Int) * (t31_2.tmod (4 : Int)))))).toNat)).toUInt8)).toList)))] rfl rfl rfl ?_
          refine gen1 (fun out5'12 => (⟨[(1, .q 1 (0)), (2, .q 2 (0)), (5, .q 5 (0)), (31, .i t31_2)], [(1, .pure (GStream.cs y'11)), (2, .pure (bcells ((Vector.replicate 32 (0 : UInt8)).toList))), (5, .pure (bcells out5'12.toList))], 49⟩ : TS)) H ?_
          intro out5'12 H
          refine AW2_reg [0, 1] rfl ?_
          refine rp rfl rfl (p_bin rfl rfl rfl rfl) ?_
          refine rp rfl rfl (p_move rfl rfl) ?_
          refine rz [(1, .q 1 (0)), (2, .q 2 (0)), (5, .q 5 (0)), (31, .i (w64 (t31_2 + (1 : Int))))] [(1, .pure (GStream.cs y'11)), (2, .pure (bcells ((Vector.replicate 32 (0 : UInt8)).toList))), (5, .pure (bcells out5'12.toList))] rfl rfl rfl ?_
          have hz := some_elim H
          subst hz
          exact ⟨rfl, rfl⟩
        · replace H := ite_else h9 H
          refine as2 [(2, .q 2 (0)), (5, .q 5 (0))] [(2, .pure (bcells ((Vector.replicate 32 (0 : UInt8)).toList))), (5, .pure (bcells out5_2.toList))] rfl rfl rfl ?_
          refine AW2_exit ?_
          refine thenQ2_exit ?_
          have hz := some_elim H
          subst hz
          exact ⟨rfl, rfl⟩
      · obtain ⟨rfl, rfl⟩ := hs
        refine ⟨by simp, ?_⟩
        refine blockQ2_exit ?_
        refine sg [0, 1] rfl ?_
        refine rp rfl rfl (u_lda rfl rfl Tryd.underlying82 rfl in_82 rfl (Nat.succ_pos _) (Sub.refl _) ((bcells_length _).trans (vlen y'16))) ?_
        refine r_op rfl rfl (u_st rfl rfl rfl rfl rfl in_82 ((bcells_length _).trans (vlen y'16)) (ne_of_lt (n := 0) (Nat.lt_of_lt_of_eq (by decide) (Eq.symm ((bcells_length _).trans (vlen (Vector.replicate 32 (0 : UInt8))))))) (Upd.refl (((bcells_length _).trans (vlen y'16)).trans ((bcells_length _).trans (vlen (Vector.replicate 32 (0 : UInt8)))).symm))) ?_
        refine rz [(2, .q 2 (0))] [(2, .pure (bcells y'16.toList))] rfl rfl rfl ?_
        refine AW2_ret ?_
        have hz := some_elim H
        subst hz
        exact ⟨⟨res_cella Tryd.underlying82 rfl in_82.sz rfl (Sub.le (Sub.refl _) ((bcells_length _).trans (vlen y'16))) (by decide) (Sub.take (Sub.refl _) ((bcells_length _).trans (vlen y'16))), trivial⟩, trivial⟩

/-! sum.Sum -/
noncomputable def g_sum_Sum (b0 : List UInt8) : Option ((Vector UInt8 32)) :=
  (g_sum_Begin).bind fun r'1 => (g_sum_feed r'1 b0).bind fun r'2 => (g_sum_end r'2).bind fun r'3 => some r'3
set_option maxHeartbeats 4000000 in
set_option maxRecDepth 100000 in
theorem g_sum_Sum_ac {b0 : List UInt8} {r : (Vector UInt8 32)} (H : g_sum_Sum b0 = some r) : ACp Tryd.prog 73 [(AV.bytes b0)] (.agg (bcells r.toList)) := by
  refine ACp_of (AC2_of_body (vs := [.g (bcells r.toList)]) Tryd.func73 rfl rfl (Nat.le_of_ble_eq_true rfl) rfl ?_) (fun _ => .same _)
  unfold g_sum_Sum at H
  refine as2 [(0, .y b0)] [] rfl rfl rfl ?_
  refine sg [0] rfl ?_
  refine r_op rfl rfl (MakeD.opD (u_alloc 2 rfl in_82 one_82 zc_82) rfl rfl rfl rfl) ?_
  refine rz [(0, .y b0), (2, .q 2 (0))] [(2, .pure (bcells ((Vector.replicate 32 (0 : UInt8)).toList)))] rfl rfl rfl ?_
  refine sg [0, 1, 2, 3, 4] rfl ?_
  refine bindK H fun r'1 h1 H => ?_
  refine rp rfl rfl (p_callp rfl rfl rfl Tryd.func83 rfl rfl (g_sum_Begin_ac h1) trivial) ?_
  refine rp rfl rfl (p_move rfl rfl) ?_
  refine bindK H fun r'2 h2 H => ?_
  refine rp rfl rfl (p_callp rfl rfl rfl Tryd.func82 rfl rfl (g_sum_feed_ac h2) ⟨rfl, rfl, trivial⟩) ?_
  refine bindK H fun r'3 h3 H => ?_
  refine rp rfl rfl (p_callp rfl rfl rfl Tryd.func81 rfl rfl (g_sum_end_ac h3) ⟨rfl, trivial⟩) ?_
  refine r_op rfl rfl (u_st rfl rfl rfl rfl rfl in_82 ((bcells_length _).trans (vlen r'3)) (ne_of_lt (n := 0) (Nat.lt_of_lt_of_eq (by decide) (Eq.symm ((bcells_length _).trans (vlen (Vector.replicate 32 (0 : UInt8))))))) (Upd.refl (((bcells_length _).trans (vlen r'3)).trans ((bcells_length _).trans (vlen (Vector.replicate 32 (0 : UInt8)))).symm))) ?_
  refine rz [(2, .q 2 (0))] [(2, .pure (bcells r'3.toList))] rfl rfl rfl ?_
  refine AW2_ret ?_
  have hz := some_elim H
  subst hz
  exact ⟨⟨res_cella Tryd.underlying82 rfl in_82.sz rfl (Sub.le (Sub.refl _) ((bcells_length _).trans (vlen r'3))) (by decide) (Sub.take (Sub.refl _) ((bcells_length _).trans (vlen r'3))), trivial⟩, trivial⟩

/-! oracle.Digest -/
noncomputable def g_oracle_Digest (mode0 : Int) (tag1 : Int) (parts2 : List (List UInt8)) : Option ((List UInt8) × Int) :=
  (if (mode0 ≠ (1 : Int)) ∧ (mode0 ≠ (2 : Int)) then some ([], (2 : Int)) else (g_oracle_Frame tag1 parts2).bind fun r'1 => (if (r'1.2 ≠ (0 : Int)) ∨ (mode0 = (2 : Int)) then some (r'1.1, r'1.2) else (g_sum_Sum r'1.1).bind fun r'2 => if room (([] : List UInt8).length + r'2.toList.length) 1 then some (([] : List UInt8) ++ r'2.toList, (0 : Int)) else none))
set_option maxHeartbeats 4000000 in
set_option maxRecDepth 100000 in
theorem g_oracle_Digest_ac {mode0 : Int} {tag1 : Int} {parts2 : List (List UInt8)} {r : (List UInt8) × Int} (H : g_oracle_Digest mode0 tag1 parts2 = some r) : ACp Tryd.prog 40 [(AV.int mode0), (AV.int tag1), (AV.lists parts2)] (.tup [(AV.bytes r.1), (AV.int r.2)]) := by
  refine ACp_of (AC2_of_body (vs := [.y r.1, .i r.2]) Tryd.func40 rfl rfl (Nat.le_of_ble_eq_true rfl) rfl ?_) (fun _ => .same _)
  unfold g_oracle_Digest at H
  refine as2 [(0, .i mode0), (1, .i tag1), (2, .p (AV.lists parts2))] [] rfl rfl rfl ?_
  refine sg [0, 1] rfl ?_
  refine rp rfl rfl (p_asgn rfl) ?_
  refine rp rfl rfl (p_asg rfl rfl) ?_
  refine rz [(0, .i mode0), (1, .i tag1), (2, .p (AV.lists parts2))] [] rfl rfl rfl ?_
  refine AW2_seq ?_
  refine AW2_seq ?_
  refine AW2_mid (⟨[(0, .i mode0), (1, .i tag1), (2, .p (AV.lists parts2)), (16, .b (decide ((mode0 ≠ (1 : Int)) ∧ (mode0 ≠ (2 : Int)))))], [], 36⟩ : TS) ?_ ?_
  · refine AW2_reg [0, 1, 2, 3, 4, 5] rfl ?_
    refine rp rfl rfl (p_move rfl rfl) ?_
    refine rp rfl rfl (p_ine rfl rfl rfl) ?_
    refine rp rfl rfl (p_move rfl rfl) ?_
    refine (Classical.em (mode0 ≠ (1 : Int))).elim (fun h1 => ?_) (fun h1 => ?_)
    · refine r_on rfl rfl rfl rfl (decide_eq_true (p := mode0 ≠ (1 : Int)) h1) rfl (PureD.opD (p_move rfl rfl)) ?_
      refine r_on rfl rfl rfl rfl (decide_eq_true (p := mode0 ≠ (1 : Int)) h1) rfl (PureD.opD (p_ine rfl rfl rfl)) ?_
      refine rp rfl rfl (p_pkt rfl rfl (decide_eq_true (p := mode0 ≠ (1 : Int)) h1) (tb ((and_l (p := mode0 ≠ (1 : Int)) (q := mode0 ≠ (2 : Int)) h1)))) ?_
      refine rs [(0, .i mode0), (1, .i tag1), (2, .p (AV.lists parts2)), (16, .b (decide ((mode0 ≠ (1 : Int)) ∧ (mode0 ≠ (2 : Int)))))] [] rfl rfl rfl ?_
      exact RunW_nil rfl
    · refine r_off rfl rfl rfl rfl (decide_eq_false (p := mode0 ≠ (1 : Int)) h1) rfl rfl ?_
      refine r_off rfl rfl rfl rfl (decide_eq_false (p := mode0 ≠ (1 : Int)) h1) rfl rfl ?_
      refine rp rfl rfl (p_pkf rfl rfl (decide_eq_false (p := mode0 ≠ (1 : Int)) h1) (tb (decide_eq_false (p := (mode0 ≠ (1 : Int)) ∧ (mode0 ≠ (2 : Int))) (fun x => h1 x.1)).symm)) ?_
      refine rs [(0, .i mode0), (1, .i tag1), (2, .p (AV.lists parts2)), (16, .b (decide ((mode0 ≠ (1 : Int)) ∧ (mode0 ≠ (2 : Int)))))] [] rfl rfl rfl ?_
      exact RunW_nil rfl
  · refine AW2_if (p := (mode0 ≠ (1 : Int)) ∧ (mode0 ≠ (2 : Int))) rfl (fun h2 => ?_) (fun h2 => ?_)
    · replace H := ite_then h2 H
      refine sg [0, 1] rfl ?_
      refine rp rfl rfl (p_asgn rfl) ?_
      refine rp rfl rfl (p_asg rfl rfl) ?_
      refine rz [(6, .p .nil), (7, .i (2 : Int))] [] rfl rfl rfl ?_
      refine AW2_ret ?_
      have hz := some_elim H
      subst hz
      exact ⟨⟨res_tmp TLes.nil0, res_tmp (.same _), trivial⟩, trivial⟩
    · replace H := ite_else h2 H
      refine as2 [(0, .i mode0), (1, .i tag1), (2, .p (AV.lists parts2))] [] rfl rfl rfl ?_
      refine AW2_skip ?_
      refine sg [0, 1, 2, 3, 4, 5, 6, 7] rfl ?_
      refine rp rfl rfl (p_move rfl rfl) ?_
      refine rp rfl rfl (p_move rfl rfl) ?_
      refine bindK H fun r'1 h3 H => ?_
      refine rp rfl rfl (p_callp rfl rfl rfl Tryd.func72 rfl rfl (g_oracle_Frame_ac h3) ⟨rfl, rfl, trivial⟩) ?_
      refine rp rfl rfl (p_move rfl rfl) ?_
      refine rp rfl rfl (p_ext rfl rfl rfl rfl) ?_
      refine rp rfl rfl (p_ext rfl rfl rfl rfl) ?_
      refine rp rfl rfl (p_asg rfl rfl) ?_
      refine rp rfl rfl (p_asg rfl rfl) ?_
      refine rz [(0, .i mode0), (8, .y r'1.1), (9, .i r'1.2)] [] rfl rfl rfl ?_
      refine AW2_seq ?_
      refine AW2_seq ?_
      refine AW2_mid (⟨[(8, .y r'1.1), (9, .i r'1.2), (28, .b (decide ((r'1.2 ≠ (0 : Int)) ∨ (mode0 = (2 : Int)))))], [], 36⟩ : TS) ?_ ?_
      · refine AW2_reg [0, 1, 2, 3, 4, 5] rfl ?_
        refine rp rfl rfl (p_move rfl rfl) ?_
        refine rp rfl rfl (p_ine rfl rfl rfl) ?_
        refine rp rfl rfl (p_move rfl rfl) ?_
        refine (Classical.em (r'1.2 ≠ (0 : Int))).elim (fun h4 => ?_) (fun h4 => ?_)
        · refine r_off rfl rfl rfl rfl (decide_eq_true (p := r'1.2 ≠ (0 : Int)) h4) rfl rfl ?_
          refine r_off rfl rfl rfl rfl (decide_eq_true (p := r'1.2 ≠ (0 : Int)) h4) rfl rfl ?_
          refine rp rfl rfl (p_pkt rfl rfl (decide_eq_true (p := r'1.2 ≠ (0 : Int)) h4) (tb (decide_eq_true (p := (r'1.2 ≠ (0 : Int)) ∨ (mode0 = (2 : Int))) (Or.inl h4)).symm)) ?_
          refine rs [(8, .y r'1.1), (9, .i r'1.2), (28, .b (decide ((r'1.2 ≠ (0 : Int)) ∨ (mode0 = (2 : Int)))))] [] rfl rfl rfl ?_
          exact RunW_nil rfl
        · refine r_on rfl rfl rfl rfl (decide_eq_false (p := r'1.2 ≠ (0 : Int)) h4) rfl (PureD.opD (p_move rfl rfl)) ?_
          refine r_on rfl rfl rfl rfl (decide_eq_false (p := r'1.2 ≠ (0 : Int)) h4) rfl (PureD.opD (p_ieq rfl rfl rfl)) ?_
          refine rp rfl rfl (p_pkf rfl rfl (decide_eq_false (p := r'1.2 ≠ (0 : Int)) h4) (tb ((or_l (p := r'1.2 ≠ (0 : Int)) (q := mode0 = (2 : Int)) h4)))) ?_
          refine rs [(8, .y r'1.1), (9, .i r'1.2), (28, .b (decide ((r'1.2 ≠ (0 : Int)) ∨ (mode0 = (2 : Int)))))] [] rfl rfl rfl ?_
          exact RunW_nil rfl
      · refine AW2_if (p := (r'1.2 ≠ (0 : Int)) ∨ (mode0 = (2 : Int))) rfl (fun h5 => ?_) (fun h5 => ?_)
        · replace H := ite_then h5 H
          refine sg [0, 1, 2, 3] rfl ?_
          refine rp rfl rfl (p_move rfl rfl) ?_
          refine rp rfl rfl (p_move rfl rfl) ?_
          refine rp rfl rfl (p_asg rfl rfl) ?_
          refine rp rfl rfl (p_asg rfl rfl) ?_
          refine rz [(6, .y r'1.1), (7, .i r'1.2)] [] rfl rfl rfl ?_
          refine AW2_ret ?_
          have hz := some_elim H
          subst hz
          exact ⟨⟨res_tmp (.same _), res_tmp (.same _), trivial⟩, trivial⟩
        · replace H := ite_else h5 H
          refine as2 [(8, .y r'1.1)] [] rfl rfl rfl ?_
          refine AW2_skip ?_
          refine sg [0, 1, 2, 3] rfl ?_
          refine rp rfl rfl (p_move rfl rfl) ?_
          refine bindK H fun r'2 h6 H => ?_
          refine rp rfl rfl (p_callp rfl rfl rfl Tryd.func73 rfl rfl (g_sum_Sum_ac h6) ⟨rfl, trivial⟩) ?_
          refine r_op rfl rfl (MakeD.opD (u_alloc 10 rfl in_82 one_82 zc_82) rfl rfl rfl rfl) ?_
          refine r_op rfl rfl (u_st rfl rfl rfl rfl rfl in_82 ((bcells_length _).trans (vlen r'2)) (ne_of_lt (n := 0) (Nat.lt_of_lt_of_eq (by decide) (Eq.symm ((bcells_length _).trans (vlen (Vector.replicate 32 (0 : UInt8))))))) (Upd.refl (((bcells_length _).trans (vlen r'2)).trans ((bcells_length _).trans (vlen (Vector.replicate 32 (0 : UInt8)))).symm))) ?_
          refine rz [(10, .q 10 (0))] [(10, .pure (bcells r'2.toList))] rfl rfl rfl ?_
          refine sg [0, 1, 2, 3, 4] rfl ?_
          refine r_op rfl rfl (MakeD.opD (n_bs0 33 rfl Tryd.underlying22 in_5) rfl rfl rfl rfl) ?_
          refine rp rfl rfl (u_cuta rfl rfl Tryd.underlying82 in_5 rfl rfl (ne_of_lt (n := 0) (Nat.lt_of_lt_of_eq (by decide) (Eq.symm ((bcells_length _).trans (vlen r'2))))) (Sub.refl _) (((bcells_length _).trans (vlen r'2)).trans (by decide))) ?_
          refine chkK H fun h7 H => ?_
          refine r_op rfl rfl (u_app [33] rfl rfl rfl rfl Tryd.underlying22 Tryd.underlying22 in_5 rfl rfl rfl (bl ([] : List UInt8)) (by decide) (src_sll rfl rfl (ne_of_lt (n := 0) (Nat.lt_of_lt_of_eq (by decide) (Eq.symm ((bcells_length _).trans (vlen r'2))))) (Sub.refl _) (((bcells_length _).trans (vlen r'2)).trans (by decide)) (vlen _)) (bl r'2.toList) h7 (by decide) rfl rfl (bapp ([] : List UInt8) r'2.toList) (lapp ([] : List UInt8) r'2.toList)) ?_
          refine rp rfl rfl (p_asg rfl rfl) ?_
          refine rp rfl rfl (p_asg rfl rfl) ?_
          refine rs [(6, .c (.own 33 (([] : List UInt8) ++ r'2.toList).length 1)), (7, .i (0 : Int))] [(33, .pure (bcells (([] : List UInt8) ++ r'2.toList)))] rfl rfl rfl ?_
          refine RunW_gho (Gho_ren 33 6 rfl rfl rfl rfl rfl) ?_
          refine rz [(6, .c (.own 6 (([] : List UInt8) ++ r'2.toList).length 1)), (7, .i (0 : Int))] [(6, .pure (bcells (([] : List UInt8) ++ r'2.toList)))] rfl rfl rfl ?_
          refine AW2_gho (Gho_pubs [6] ⟨rfl, trivial⟩ rfl (bl (([] : List UInt8) ++ r'2.toList)) (by decide)) ?_
          refine AW2_ret ?_
          have hz := some_elim H
          subst hz
          exact ⟨⟨res_tmp (.same _), res_tmp (.same _), trivial⟩, trivial⟩

/-! roll.half -/
noncomputable def g_roll_half_l0 (n0 : Int) : Int → Option (Int ⊕ (Int))
  | k3_0 => (if w64 ((2 : Int) * k3_0) < n0 then some (.inl (w64 (k3_0 * (2 : Int)))) else some (.inr k3_0))
noncomputable def g_roll_half (n0 : Int) : Option (Int) :=
  (loopO (g_roll_half_l0 n0) (1 : Int)).bind fun y'4 => some y'4
set_option maxHeartbeats 4000000 in
set_option maxRecDepth 100000 in
theorem g_roll_half_ac {n0 : Int} {r : Int} (H : g_roll_half n0 = some r) : ACp Tryd.prog 78 [(AV.int n0)] (AV.int r) := by
  refine ACp_of (AC2_of_body (vs := [.i r]) Tryd.func78 rfl rfl (Nat.le_of_ble_eq_true rfl) rfl ?_) (fun _ => .same _)
  unfold g_roll_half at H
  refine as2 [(0, .i n0)] [] rfl rfl rfl ?_
  refine sg [0] rfl ?_
  refine rp rfl rfl (p_asg rfl rfl) ?_
  refine rz [(0, .i n0)] [] rfl rfl rfl ?_
  refine sg [0] rfl ?_
  refine rp rfl rfl (p_asg rfl rfl) ?_
  refine rz [(0, .i n0), (3, .i (1 : Int))] [] rfl rfl rfl ?_
  refine AW2_seq ?_
  refine AW2_block ?_
  refine as2 [(0, .i n0), (3, .i (1 : Int))] [] rfl rfl rfl ?_
  refine bindK H fun y'4 h2 H => ?_
  refine AW2_loopO (fun a'1 : Int => (⟨[(0, .i n0), (3, .i a'1)], [], 11⟩ : TS)) (fun (y'2 : Int) e s' => e = Go.Exit.exit 0 ∧ s' = (⟨[(3, .i y'2)], [], 11⟩ : TS)) h2 rfl (fun k3_0 x hx => ?_) (fun e s' hs => ?_)
  · clear H
    have H := hx
    clear hx
    unfold g_roll_half_l0 at H
    refine AW2_seq ?_
    refine sg [0, 1, 2, 3] rfl ?_
    refine rp rfl rfl (p_move rfl rfl) ?_
    refine rp rfl rfl (p_bin rfl rfl rfl rfl) ?_
    refine rp rfl rfl (p_move rfl rfl) ?_
    refine rp rfl rfl (p_bin rfl rfl rfl rfl) ?_
    refine rz [(0, .i n0), (3, .i k3_0), (7, .b (decide (w64 ((2 : Int) * k3_0) < n0)))] [] rfl rfl rfl ?_
    refine AW2_if (p := w64 ((2 : Int) * k3_0) < n0) rfl (fun h1 => ?_) (fun h1 => ?_)
    · replace H := ite_then h1 H
      refine as2 [(0, .i n0), (3, .i k3_0)] [] rfl rfl rfl ?_
      refine AW2_skip ?_
      refine AW2_block ?_
      refine AW2_reg [0, 1, 2] rfl ?_
      refine rp rfl rfl (p_move rfl rfl) ?_
      refine rp rfl rfl (p_bin rfl rfl rfl rfl) ?_
      refine rp rfl rfl (p_asg rfl rfl) ?_
      refine rz [(0, .i n0), (3, .i (w64 (k3_0 * (2 : Int))))] [] rfl rfl rfl ?_
      have hz := some_elim H
      subst hz
      exact ⟨rfl, rfl⟩
    · replace H := ite_else h1 H
      refine as2 [(3, .i k3_0)] [] rfl rfl rfl ?_
      refine AW2_exit ?_
      refine thenQ2_exit ?_
      have hz := some_elim H
      subst hz
      exact ⟨rfl, rfl⟩
  · obtain ⟨rfl, rfl⟩ := hs
    refine ⟨by simp, ?_⟩
    refine blockQ2_exit ?_
    refine sg [0, 1] rfl ?_
    refine rp rfl rfl (p_move rfl rfl) ?_
    refine rp rfl rfl (p_asg rfl rfl) ?_
    refine rz [(2, .i y'4)] [] rfl rfl rfl ?_
    refine AW2_ret ?_
    have hz := some_elim H
    subst hz
    exact ⟨⟨res_tmp (.same _), trivial⟩, trivial⟩

/-! roll.pair -/
noncomputable def g_roll_pair (mode0 : Int) (l1 : List UInt8) (r2 : List UInt8) : Option ((List UInt8) × Int) :=
  (g_oracle_Digest mode0 (6 : Int) ([l1, r2] : List (List UInt8))).bind fun r'1 => some (r'1.1, r'1.2)
set_option maxHeartbeats 4000000 in
set_option maxRecDepth 100000 in
theorem g_roll_pair_ac {mode0 : Int} {l1 : List UInt8} {r2 : List UInt8} {r : (List UInt8) × Int} (H : g_roll_pair mode0 l1 r2 = some r) : ACp Tryd.prog 79 [(AV.int mode0), (AV.bytes l1), (AV.bytes r2)] (.tup [(AV.bytes r.1), (AV.int r.2)]) := by
  refine ACp_of (AC2_of_body (vs := [.y r.1, .i r.2]) Tryd.func79 rfl rfl (Nat.le_of_ble_eq_true rfl) rfl ?_) (fun _ => .same _)
  unfold g_roll_pair at H
  refine as2 [(0, .i mode0), (1, .y l1), (2, .y r2)] [] rfl rfl rfl ?_
  refine sg [0, 1] rfl ?_
  refine rp rfl rfl (p_asgn rfl) ?_
  refine rp rfl rfl (p_asg rfl rfl) ?_
  refine rz [(0, .i mode0), (1, .y l1), (2, .y r2)] [] rfl rfl rfl ?_
  refine sg [0, 1, 2, 3, 4, 5, 6, 7, 8] rfl ?_
  refine rp rfl rfl (p_move rfl rfl) ?_
  refine rp rfl rfl (p_move rfl rfl) ?_
  refine rp rfl rfl (p_move rfl rfl) ?_
  refine r_op rfl rfl (MakeD.opD (u_bs 11 rfl Tryd.underlying33 in_22 rfl one_22 (by decide) (by decide) rfl rfl rfl) rfl rfl rfl rfl) ?_
  refine RunW_st [(0, .i mode0), (1, .y l1), (2, .y r2), (8, .i mode0), (9, .y l1), (10, .y r2), (11, .c (.own 11 ([l1, r2] : List (List UInt8)).length 1))] [(11, .pure (([l1, r2] : List (List UInt8)).map AV.bytes))] rfl ⟨TLes.same _, TLes.same _, TLes.same _, TLes.same _, TLes.same _, TLes.same _, TLes.own rfl, trivial⟩ ⟨rfl, trivial⟩ ?_
  refine RunW_gho (Gho_pubs [11] ⟨rfl, trivial⟩ rfl (ml AV.bytes ([l1, r2] : List (List UInt8))) (by decide)) ?_
  refine bindK H fun r'1 h1 H => ?_
  refine rp rfl rfl (p_callp rfl rfl rfl Tryd.func40 rfl rfl (g_oracle_Digest_ac h1) ⟨rfl, rfl, rfl, trivial⟩) ?_
  refine rp rfl rfl (p_ext rfl rfl rfl rfl) ?_
  refine rp rfl rfl (p_ext rfl rfl rfl rfl) ?_
  refine rp rfl rfl (p_asg rfl rfl) ?_
  refine rp rfl rfl (p_asg rfl rfl) ?_
  refine rz [(6, .y r'1.1), (7, .i r'1.2)] [] rfl rfl rfl ?_
  refine AW2_ret ?_
  have hz := some_elim H
  subst hz
  exact ⟨⟨res_tmp (.same _), res_tmp (.same _), trivial⟩, trivial⟩

/-! roll.root -/
noncomputable def g_roll_root_b (R' : Int → (List (List UInt8)) → Option ((List UInt8) × Int)) (mode0 : Int) (l1 : List (List UInt8)) : Option ((List UInt8) × Int) :=
  (if (l1.length : Int) = (0 : Int) then (g_oracle_Digest mode0 (4 : Int) []).bind fun r'1 => some (r'1.1, r'1.2) else (if (l1.length : Int) = (1 : Int) then if 0 ≤ (1 : Int) ∧ (1 : Int) ≤ (l1.length : Int) then (g_oracle_Digest mode0 (5 : Int) (cut l1 (0 : Int) (1 : Int))).bind fun r'2 => some (r'2.1, r'2.2) else none else (g_roll_half (l1.length : Int)).bind fun r'3 => if 0 ≤ r'3 ∧ r'3 ≤ (l1.length : Int) then (R' mode0 (cut l1 (0 : Int) r'3)).bind fun r'4 => (if r'4.2 ≠ (0 : Int) then some ([], r'4.2) else if 0 ≤ r'3 ∧ r'3 ≤ (l1.length : Int) then (R' mode0 (cut l1 r'3 (l1.length : Int))).bind fun r'5 => (if r'5.2 ≠ (0 : Int) then some ([], r'5.2) else (g_roll_pair mode0 r'4.1 r'5.1).bind fun r'6 => some (r'6.1, r'6.2)) else none) else none))
noncomputable def g_roll_root : Nat → Int → (List (List UInt8)) → Option ((List UInt8) × Int)
  | 0, _, _ => none
  | fu + 1, mode0, l1 => g_roll_root_b (g_roll_root fu) mode0 l1
set_option maxHeartbeats 4000000 in
set_option maxRecDepth 100000 in
theorem g_roll_root_ac0 {R' : Int → (List (List UInt8)) → Option ((List UInt8) × Int)} (hR : ∀ {mode0 : Int} {l1 : List (List UInt8)} {r : (List UInt8) × Int}, R' mode0 l1 = some r → ACp Tryd.prog 61 [(AV.int mode0), (AV.lists l1)] (.tup [(AV.bytes r.1), (AV.int r.2)])) {mode0 : Int} {l1 : List (List UInt8)} {r : (List UInt8) × Int} (H : g_roll_root_b R' mode0 l1 = some r) : ACp Tryd.prog 61 [(AV.int mode0), (AV.lists l1)] (.tup [(AV.bytes r.1), (AV.int r.2)]) := by
  refine ACp_of (AC2_of_body (vs := [.y r.1, .i r.2]) Tryd.func61 rfl rfl (Nat.le_of_ble_eq_true rfl) rfl ?_) (fun _ => .same _)
  unfold g_roll_root_b at H
  refine as2 [(0, .i mode0), (1, .p (AV.lists l1))] [] rfl rfl rfl ?_
  refine sg [0, 1] rfl ?_
  refine rp rfl rfl (p_asgn rfl) ?_
  refine rp rfl rfl (p_asg rfl rfl) ?_
  refine rz [(0, .i mode0), (1, .p (AV.lists l1))] [] rfl rfl rfl ?_
  refine AW2_seq ?_
  refine sg [0, 1] rfl ?_
  refine rp rfl rfl (p_move rfl rfl) ?_
  refine rp rfl rfl (p_lenl rfl Tryd.underlying33 rfl rfl) ?_
  refine rz [(0, .i mode0), (1, .p (AV.lists l1)), (11, .i (l1.length : Int))] [] rfl rfl rfl ?_
  refine AW2_block ?_
  refine sg [0, 1] rfl ?_
  refine rp rfl rfl (p_ieq rfl rfl rfl) ?_
  refine rp rfl rfl (p_asg rfl rfl) ?_
  refine rz [(0, .i mode0), (1, .p (AV.lists l1)), (11, .i (l1.length : Int)), (12, .b (decide ((l1.length : Int) = (0 : Int))))] [] rfl rfl rfl ?_
  refine AW2_if (p := (l1.length : Int) = (0 : Int)) rfl (fun h1 => ?_) (fun h1 => ?_)
  · replace H := ite_then h1 H
    refine sg [0, 1, 2, 3, 4, 5] rfl ?_
    refine rp rfl rfl (p_move rfl rfl) ?_
    refine bindK H fun r'1 h2 H => ?_
    refine rp rfl rfl (p_callp rfl rfl rfl Tryd.func40 rfl rfl (g_oracle_Digest_ac h2) ⟨rfl, rfl, rfl, trivial⟩) ?_
    refine rp rfl rfl (p_ext rfl rfl rfl rfl) ?_
    refine rp rfl rfl (p_ext rfl rfl rfl rfl) ?_
    refine rp rfl rfl (p_asg rfl rfl) ?_
    refine rp rfl rfl (p_asg rfl rfl) ?_
    refine rz [(4, .y r'1.1), (5, .i r'1.2)] [] rfl rfl rfl ?_
    refine AW2_ret ?_
    have hz := some_elim H
    subst hz
    exact ⟨⟨res_tmp (.same _), res_tmp (.same _), trivial⟩, trivial⟩
  · replace H := ite_else h1 H
    refine sg [0, 1] rfl ?_
    refine rp rfl rfl (p_ieq rfl rfl rfl) ?_
    refine rp rfl rfl (p_asg rfl rfl) ?_
    refine rz [(0, .i mode0), (1, .p (AV.lists l1)), (18, .b (decide ((l1.length : Int) = (1 : Int))))] [] rfl rfl rfl ?_
    refine AW2_if (p := (l1.length : Int) = (1 : Int)) rfl (fun h3 => ?_) (fun h3 => ?_)
    · replace H := ite_then h3 H
      refine sg [0, 1, 2, 3, 4, 5, 6, 7] rfl ?_
      refine rp rfl rfl (p_move rfl rfl) ?_
      refine rp rfl rfl (p_move rfl rfl) ?_
      refine chkK H fun h4 H => ?_
      refine rp rfl rfl (u_cutl (g := (fun l => l.map AV.bytes)) (a := (0 : Int)) (b := (1 : Int)) rfl rfl Tryd.underlying33 in_22 rfl bT_zero (bT_i (Int.le_trans (show 0 ≤ (0 : Int) ∧ (0 : Int) ≤ (1 : Int) ∧ (1 : Int) ≤ (l1.length : Int) from ⟨Int.le_refl _, h4.1, h4.2⟩).1 (show 0 ≤ (0 : Int) ∧ (0 : Int) ≤ (1 : Int) ∧ (1 : Int) ≤ (l1.length : Int) from ⟨Int.le_refl _, h4.1, h4.2⟩).2.1) rfl) (.inr ⟨(bT_i (Int.le_trans (show 0 ≤ (0 : Int) ∧ (0 : Int) ≤ (1 : Int) ∧ (1 : Int) ≤ (l1.length : Int) from ⟨Int.le_refl _, h4.1, h4.2⟩).1 (show 0 ≤ (0 : Int) ∧ (0 : Int) ≤ (1 : Int) ∧ (1 : Int) ≤ (l1.length : Int) from ⟨Int.le_refl _, h4.1, h4.2⟩).2.1) rfl), rfl⟩) (show 0 ≤ (0 : Int) ∧ (0 : Int) ≤ (1 : Int) ∧ (1 : Int) ≤ (l1.length : Int) from ⟨Int.le_refl _, h4.1, h4.2⟩) (g_map AV.bytes)) ?_
      refine bindK H fun r'2 h5 H => ?_
      refine rp rfl rfl (p_callp rfl rfl rfl Tryd.func40 rfl rfl (g_oracle_Digest_ac h5) ⟨rfl, rfl, rfl, trivial⟩) ?_
      refine rp rfl rfl (p_ext rfl rfl rfl rfl) ?_
      refine rp rfl rfl (p_ext rfl rfl rfl rfl) ?_
      refine rp rfl rfl (p_asg rfl rfl) ?_
      refine rp rfl rfl (p_asg rfl rfl) ?_
      refine rz [(4, .y r'2.1), (5, .i r'2.2)] [] rfl rfl rfl ?_
      refine AW2_ret ?_
      have hz := some_elim H
      subst hz
      exact ⟨⟨res_tmp (.same _), res_tmp (.same _), trivial⟩, trivial⟩
    · replace H := ite_else h3 H
      refine as2 [(0, .i mode0), (1, .p (AV.lists l1))] [] rfl rfl rfl ?_
      refine AW2_skip ?_
      refine sg [0, 1, 2, 3] rfl ?_
      refine rp rfl rfl (p_move rfl rfl) ?_
      refine rp rfl rfl (p_lenl rfl Tryd.underlying33 rfl rfl) ?_
      refine bindK H fun r'3 h6 H => ?_
      refine rp rfl rfl (p_callp rfl rfl rfl Tryd.func78 rfl rfl (g_roll_half_ac h6) ⟨rfl, trivial⟩) ?_
      refine rp rfl rfl (p_asg rfl rfl) ?_
      refine rz [(0, .i mode0), (1, .p (AV.lists l1)), (6, .i r'3)] [] rfl rfl rfl ?_
      refine sg [0, 1, 2, 3, 4, 5, 6, 7, 8, 9, 10] rfl ?_
      refine rp rfl rfl (p_move rfl rfl) ?_
      refine rp rfl rfl (p_move rfl rfl) ?_
      refine rp rfl rfl (p_move rfl rfl) ?_
      refine rp rfl rfl (p_move rfl rfl) ?_
      refine chkK H fun h7 H => ?_
      refine rp rfl rfl (u_cutl (g := (fun l => l.map AV.bytes)) (a := (0 : Int)) (b := r'3) rfl rfl Tryd.underlying33 in_22 rfl bT_zero (bT_i (Int.le_trans (show 0 ≤ (0 : Int) ∧ (0 : Int) ≤ r'3 ∧ r'3 ≤ (l1.length : Int) from ⟨Int.le_refl _, h7.1, h7.2⟩).1 (show 0 ≤ (0 : Int) ∧ (0 : Int) ≤ r'3 ∧ r'3 ≤ (l1.length : Int) from ⟨Int.le_refl _, h7.1, h7.2⟩).2.1) rfl) (.inr ⟨(bT_i (Int.le_trans (show 0 ≤ (0 : Int) ∧ (0 : Int) ≤ r'3 ∧ r'3 ≤ (l1.length : Int) from ⟨Int.le_refl _, h7.1, h7.2⟩).1 (show 0 ≤ (0 : Int) ∧ (0 : Int) ≤ r'3 ∧ r'3 ≤ (l1.length : Int) from ⟨Int.le_refl _, h7.1, h7.2⟩).2.1) rfl), rfl⟩) (show 0 ≤ (0 : Int) ∧ (0 : Int) ≤ r'3 ∧ r'3 ≤ (l1.length : Int) from ⟨Int.le_refl _, h7.1, h7.2⟩) (g_map AV.bytes)) ?_
      refine bindK H fun r'4 h8 H => ?_
      refine rp rfl rfl (p_callp rfl rfl rfl Tryd.func61 rfl rfl (hR h8) ⟨rfl, rfl, trivial⟩) ?_
      refine rp rfl rfl (p_move rfl rfl) ?_
      refine rp rfl rfl (p_ext rfl rfl rfl rfl) ?_
      refine rp rfl rfl (p_ext rfl rfl rfl rfl) ?_
      refine rp rfl rfl (p_asg rfl rfl) ?_
      refine rp rfl rfl (p_asg rfl rfl) ?_
      refine rz [(0, .i mode0), (1, .p (AV.lists l1)), (6, .i r'3), (7, .y r'4.1), (8, .i r'4.2)] [] rfl rfl rfl ?_
      refine AW2_seq ?_
      refine sg [0, 1] rfl ?_
      refine rp rfl rfl (p_move rfl rfl) ?_
      refine rp rfl rfl (p_ine rfl rfl rfl) ?_
      refine rz [(0, .i mode0), (1, .p (AV.lists l1)), (6, .i r'3), (7, .y r'4.1), (8, .i r'4.2), (39, .b (decide (r'4.2 ≠ (0 : Int))))] [] rfl rfl rfl ?_
      refine AW2_if (p := r'4.2 ≠ (0 : Int)) rfl (fun h9 => ?_) (fun h9 => ?_)
      · replace H := ite_then h9 H
        refine sg [0, 1, 2] rfl ?_
        refine rp rfl rfl (p_move rfl rfl) ?_
        refine rp rfl rfl (p_asgn rfl) ?_
        refine rp rfl rfl (p_asg rfl rfl) ?_
        refine rz [(4, .p .nil), (5, .i r'4.2)] [] rfl rfl rfl ?_
        refine AW2_ret ?_
        have hz := some_elim H
        subst hz
        exact ⟨⟨res_tmp TLes.nil0, res_tmp (.same _), trivial⟩, trivial⟩
      · replace H := ite_else h9 H
        refine as2 [(0, .i mode0), (1, .p (AV.lists l1)), (6, .i r'3), (7, .y r'4.1)] [] rfl rfl rfl ?_
        refine AW2_skip ?_
        refine sg [0, 1, 2, 3, 4, 5, 6, 7, 8, 9] rfl ?_
        refine rp rfl rfl (p_move rfl rfl) ?_
        refine rp rfl rfl (p_move rfl rfl) ?_
        refine rp rfl rfl (p_move rfl rfl) ?_
        refine chkK H fun h10 H => ?_
        refine rp rfl rfl (u_cutl (g := (fun l => l.map AV.bytes)) (a := r'3) (b := (l1.length : Int)) rfl rfl Tryd.underlying33 in_22 rfl (bT_i (show 0 ≤ r'3 ∧ r'3 ≤ (l1.length : Int) ∧ (l1.length : Int) ≤ (l1.length : Int) from ⟨h10.1, h10.2, Int.le_refl _⟩).1 rfl) (bT_len _) (.inl rfl) (show 0 ≤ r'3 ∧ r'3 ≤ (l1.length : Int) ∧ (l1.length : Int) ≤ (l1.length : Int) from ⟨h10.1, h10.2, Int.le_refl _⟩) (g_map AV.bytes)) ?_
        refine bindK H fun r'5 h11 H => ?_
        refine rp rfl rfl (p_callp rfl rfl rfl Tryd.func61 rfl rfl (hR h11) ⟨rfl, rfl, trivial⟩) ?_
        refine rp rfl rfl (p_move rfl rfl) ?_
        refine rp rfl rfl (p_ext rfl rfl rfl rfl) ?_
        refine rp rfl rfl (p_ext rfl rfl rfl rfl) ?_
        refine rp rfl rfl (p_asg rfl rfl) ?_
        refine rp rfl rfl (p_asg rfl rfl) ?_
        refine rz [(0, .i mode0), (7, .y r'4.1), (8, .i r'5.2), (9, .y r'5.1)] [] rfl rfl rfl ?_
        refine AW2_seq ?_
        refine sg [0, 1] rfl ?_
        refine rp rfl rfl (p_move rfl rfl) ?_
        refine rp rfl rfl (p_ine rfl rfl rfl) ?_
        refine rz [(0, .i mode0), (7, .y r'4.1), (8, .i r'5.2), (9, .y r'5.1), (50, .b (decide (r'5.2 ≠ (0 : Int))))] [] rfl rfl rfl ?_
        refine AW2_if (p := r'5.2 ≠ (0 : Int)) rfl (fun h12 => ?_) (fun h12 => ?_)
        · replace H := ite_then h12 H
          refine sg [0, 1, 2] rfl ?_
          refine rp rfl rfl (p_move rfl rfl) ?_
          refine rp rfl rfl (p_asgn rfl) ?_
          refine rp rfl rfl (p_asg rfl rfl) ?_
          refine rz [(4, .p .nil), (5, .i r'5.2)] [] rfl rfl rfl ?_
          refine AW2_ret ?_
          have hz := some_elim H
          subst hz
          exact ⟨⟨res_tmp TLes.nil0, res_tmp (.same _), trivial⟩, trivial⟩
        · replace H := ite_else h12 H
          refine as2 [(0, .i mode0), (7, .y r'4.1), (9, .y r'5.1)] [] rfl rfl rfl ?_
          refine AW2_skip ?_
          refine sg [0, 1, 2, 3, 4, 5, 6, 7] rfl ?_
          refine rp rfl rfl (p_move rfl rfl) ?_
          refine rp rfl rfl (p_move rfl rfl) ?_
          refine rp rfl rfl (p_move rfl rfl) ?_
          refine bindK H fun r'6 h13 H => ?_
          refine rp rfl rfl (p_callp rfl rfl rfl Tryd.func79 rfl rfl (g_roll_pair_ac h13) ⟨rfl, rfl, rfl, trivial⟩) ?_
          refine rp rfl rfl (p_ext rfl rfl rfl rfl) ?_
          refine rp rfl rfl (p_ext rfl rfl rfl rfl) ?_
          refine rp rfl rfl (p_asg rfl rfl) ?_
          refine rp rfl rfl (p_asg rfl rfl) ?_
          refine rz [(4, .y r'6.1), (5, .i r'6.2)] [] rfl rfl rfl ?_
          refine AW2_ret ?_
          have hz := some_elim H
          subst hz
          exact ⟨⟨res_tmp (.same _), res_tmp (.same _), trivial⟩, trivial⟩
theorem g_roll_root_acN : ∀ (fu : Nat) {mode0 : Int} {l1 : List (List UInt8)} {r : (List UInt8) × Int}, g_roll_root fu mode0 l1 = some r → ACp Tryd.prog 61 [(AV.int mode0), (AV.lists l1)] (.tup [(AV.bytes r.1), (AV.int r.2)])
  | 0, _, _, _, H => (by cases H)
  | fu + 1, _, _, _, H => g_roll_root_ac0 (g_roll_root_acN fu) H
theorem g_roll_root_ac {mode0 : Int} {l1 : List (List UInt8)} {r : (List UInt8) × Int} (H : g_roll_root 100000 mode0 l1 = some r) : ACp Tryd.prog 61 [(AV.int mode0), (AV.lists l1)] (.tup [(AV.bytes r.1), (AV.int r.2)]) := g_roll_root_acN 100000 H
end Go.Proofs.YtkaeboabpahemaaDoor.VM
