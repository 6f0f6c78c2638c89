/- Functions of the program, as they answer, and that their code comes to these answers. -/
import Derived.Test.YteilidpbnndnpaaDoorVtTabs
import Derived.Test.YteilidpbnndnpaaDoorVtFloat
namespace Go.Proofs.YteilidpbnndnpaaDoor.VM
open Go Go.RowKit

structure GStream where
  H : Vector UInt32 8
  Held : Vector UInt8 64
  N : Int
  Len : Int
deriving DecidableEq, Inhabited
def GStream.zero : GStream := ⟨(Vector.replicate 8 (0 : UInt32)), (Vector.replicate 64 (0 : UInt8)), (0 : Int), (0 : Int)⟩
def GStream.cs (x : GStream) : List AV := (x.H.toList.map AV.u32) ++ ((bcells x.Held.toList) ++ (([(AV.int x.N)]) ++ ([(AV.int x.Len)])))
theorem GStream.len (x : GStream) : (GStream.cs x).length = 74 := by
  simp only [GStream.cs, List.length_append]
  rw [show (x.H.toList.map AV.u32).length = 8 from (vmap_len (f := AV.u32) x.H), show (bcells x.Held.toList).length = 64 from ((bcells_length _).trans (vlen x.Held)), show ([(AV.int x.N)]).length = 1 from (show ([(AV.int x.N)]).length = 1 from rfl), show ([(AV.int x.Len)]).length = 1 from (show ([(AV.int x.Len)]).length = 1 from rfl)]
theorem GStream.sub0 (x : GStream) : Sub (GStream.cs x) 0 (x.H.toList.map AV.u32) := Sub.head _ _
abbrev GStream.w0 (x : GStream) (y : Vector UInt32 8) : GStream := { x with H := y }
theorem GStream.upd0 (x : GStream) (y : Vector UInt32 8) : Upd (GStream.cs x) 0 (y.toList.map AV.u32) (GStream.cs { x with H := y }) := Upd.head ((vmap_len (f := AV.u32) y).trans (vmap_len (f := AV.u32) x.H).symm)
theorem GStream.sub1 (x : GStream) : Sub (GStream.cs x) 8 (bcells x.Held.toList) := Sub.skip (k := 8) (vmap_len (f := AV.u32) x.H) (Sub.head _ _)
abbrev GStream.w1 (x : GStream) (y : Vector UInt8 64) : GStream := { x with Held := y }
theorem GStream.upd1 (x : GStream) (y : Vector UInt8 64) : Upd (GStream.cs x) 8 (bcells y.toList) (GStream.cs { x with Held := y }) := Upd.skip (k := 8) (vmap_len (f := AV.u32) x.H) (Upd.head (((bcells_length _).trans (vlen y)).trans ((bcells_length _).trans (vlen x.Held)).symm))
theorem GStream.sub2 (x : GStream) : Sub (GStream.cs x) 72 ([(AV.int x.N)]) := Sub.skip (k := 8) (vmap_len (f := AV.u32) x.H) (Sub.skip (k := 64) ((bcells_length _).trans (vlen x.Held)) (Sub.head _ _))
abbrev GStream.w2 (x : GStream) (y : Int) : GStream := { x with N := y }
theorem GStream.upd2 (x : GStream) (y : Int) : Upd (GStream.cs x) 72 ([(AV.int y)]) (GStream.cs { x with N := y }) := Upd.skip (k := 8) (vmap_len (f := AV.u32) x.H) (Upd.skip (k := 64) ((bcells_length _).trans (vlen x.Held)) (Upd.head (show ([(AV.int y)]).length = ([(AV.int x.N)]).length from rfl)))
theorem GStream.sub3 (x : GStream) : Sub (GStream.cs x) 73 ([(AV.int x.Len)]) := Sub.skip (k := 8) (vmap_len (f := AV.u32) x.H) (Sub.skip (k := 64) ((bcells_length _).trans (vlen x.Held)) (Sub.skip (k := 1) (show ([(AV.int x.N)]).length = 1 from rfl) (Sub.refl _)))
abbrev GStream.w3 (x : GStream) (y : Int) : GStream := { x with Len := y }
theorem GStream.upd3 (x : GStream) (y : Int) : Upd (GStream.cs x) 73 ([(AV.int y)]) (GStream.cs { x with Len := y }) := Upd.skip (k := 8) (vmap_len (f := AV.u32) x.H) (Upd.skip (k := 64) ((bcells_length _).trans (vlen x.Held)) (Upd.skip (k := 1) (show ([(AV.int x.N)]).length = 1 from rfl) (Upd.refl (show ([(AV.int y)]).length = ([(AV.int x.Len)]).length from rfl))))
theorem GStream.nl (x : GStream) : (GStream.cs x).all noLst1 = true := nlA (nlM _ _ (fun _ => rfl)) (nlA (nlB _) (nlA rfl (rfl)))
structure GSlot where
  Full : Bool
  Salt : List UInt8
  Data : List UInt8
deriving DecidableEq, Inhabited
def GSlot.zero : GSlot := ⟨false, [], []⟩
def GSlot.cs (x : GSlot) : List AV := ([(AV.bool x.Full)]) ++ (([(AV.bytes x.Salt)]) ++ ([(AV.bytes x.Data)]))
theorem GSlot.len (x : GSlot) : (GSlot.cs x).length = 3 := by
  simp only [GSlot.cs, List.length_append]
  rw [show ([(AV.bool x.Full)]).length = 1 from (show ([(AV.bool x.Full)]).length = 1 from rfl), show ([(AV.bytes x.Salt)]).length = 1 from (show ([(AV.bytes x.Salt)]).length = 1 from rfl), show ([(AV.bytes x.Data)]).length = 1 from (show ([(AV.bytes x.Data)]).length = 1 from rfl)]
theorem GSlot.sub0 (x : GSlot) : Sub (GSlot.cs x) 0 ([(AV.bool x.Full)]) := Sub.head _ _
abbrev GSlot.w0 (x : GSlot) (y : Bool) : GSlot := { x with Full := y }
theorem GSlot.upd0 (x : GSlot) (y : Bool) : Upd (GSlot.cs x) 0 ([(AV.bool y)]) (GSlot.cs { x with Full := y }) := Upd.head (show ([(AV.bool y)]).length = ([(AV.bool x.Full)]).length from rfl)
theorem GSlot.sub1 (x : GSlot) : Sub (GSlot.cs x) 1 ([(AV.bytes x.Salt)]) := Sub.skip (k := 1) (show ([(AV.bool x.Full)]).length = 1 from rfl) (Sub.head _ _)
abbrev GSlot.w1 (x : GSlot) (y : List UInt8) : GSlot := { x with Salt := y }
theorem GSlot.upd1 (x : GSlot) (y : List UInt8) : Upd (GSlot.cs x) 1 ([(AV.bytes y)]) (GSlot.cs { x with Salt := y }) := Upd.skip (k := 1) (show ([(AV.bool x.Full)]).length = 1 from rfl) (Upd.head (show ([(AV.bytes y)]).length = ([(AV.bytes x.Salt)]).length from rfl))
theorem GSlot.sub2 (x : GSlot) : Sub (GSlot.cs x) 2 ([(AV.bytes x.Data)]) := Sub.skip (k := 1) (show ([(AV.bool x.Full)]).length = 1 from rfl) (Sub.skip (k := 1) (show ([(AV.bytes x.Salt)]).length = 1 from rfl) (Sub.refl _))
abbrev GSlot.w2 (x : GSlot) (y : List UInt8) : GSlot := { x with Data := y }
theorem GSlot.upd2 (x : GSlot) (y : List UInt8) : Upd (GSlot.cs x) 2 ([(AV.bytes y)]) (GSlot.cs { x with Data := y }) := Upd.skip (k := 1) (show ([(AV.bool x.Full)]).length = 1 from rfl) (Upd.skip (k := 1) (show ([(AV.bytes x.Salt)]).length = 1 from rfl) (Upd.refl (show ([(AV.bytes y)]).length = ([(AV.bytes x.Data)]).length from rfl)))
structure GCover where
  Open : List GSlot
  Rest : List (List UInt8)
deriving DecidableEq, Inhabited
def GCover.zero : GCover := ⟨[], []⟩
def GCover.cs (x : GCover) : List AV := ([((fun q : List GSlot => AV.lst (q.flatMap GSlot.cs) q.length) x.Open)]) ++ ([(AV.lists x.Rest)])
theorem GCover.len (x : GCover) : (GCover.cs x).length = 2 := by
  simp only [GCover.cs, List.length_append]
  rw [show ([((fun q : List GSlot => AV.lst (q.flatMap GSlot.cs) q.length) x.Open)]).length = 1 from (show ([((fun q : List GSlot => AV.lst (q.flatMap GSlot.cs) q.length) x.Open)]).length = 1 from rfl), show ([(AV.lists x.Rest)]).length = 1 from (show ([(AV.lists x.Rest)]).length = 1 from rfl)]
theorem GCover.sub0 (x : GCover) : Sub (GCover.cs x) 0 ([((fun q : List GSlot => AV.lst (q.flatMap GSlot.cs) q.length) x.Open)]) := Sub.head _ _
abbrev GCover.w0 (x : GCover) (y : List GSlot) : GCover := { x with Open := y }
theorem GCover.upd0 (x : GCover) (y : List GSlot) : Upd (GCover.cs x) 0 ([((fun q : List GSlot => AV.lst (q.flatMap GSlot.cs) q.length) y)]) (GCover.cs { x with Open := y }) := Upd.head (show ([((fun q : List GSlot => AV.lst (q.flatMap GSlot.cs) q.length) y)]).length = ([((fun q : List GSlot => AV.lst (q.flatMap GSlot.cs) q.length) x.Open)]).length from rfl)
theorem GCover.sub1 (x : GCover) : Sub (GCover.cs x) 1 ([(AV.lists x.Rest)]) := Sub.skip (k := 1) (show ([((fun q : List GSlot => AV.lst (q.flatMap GSlot.cs) q.length) x.Open)]).length = 1 from rfl) (Sub.refl _)
abbrev GCover.w1 (x : GCover) (y : List (List UInt8)) : GCover := { x with Rest := y }
theorem GCover.upd1 (x : GCover) (y : List (List UInt8)) : Upd (GCover.cs x) 1 ([(AV.lists y)]) (GCover.cs { x with Rest := y }) := Upd.skip (k := 1) (show ([((fun q : List GSlot => AV.lst (q.flatMap GSlot.cs) q.length) x.Open)]).length = 1 from rfl) (Upd.refl (show ([(AV.lists y)]).length = ([(AV.lists x.Rest)]).length from rfl))
theorem in_4 : Info Tryd.prog 4 1 1 (.bool false) := by unfold Info; kernel_rfl
theorem one_4 : (.bool false : Value).cells.all (·.oneCell') = true := by kernel_rfl
theorem zc_4 : ((.bool false : Value).cells.toList.map zcell) = [(AV.bool false)] := by rfl
theorem in_5 : Info Tryd.prog 5 1 1 (.int .u8 0) := by unfold Info; kernel_rfl
theorem one_5 : (.int .u8 0 : Value).cells.all (·.oneCell') = true := by kernel_rfl
theorem zc_5 : ((.int .u8 0 : Value).cells.toList.map zcell) = [(AV.b8 (0 : UInt8))] := by rfl
theorem in_27 : Info Tryd.prog 27 1 24 (.slice none 0 0) := by unfold Info; kernel_rfl
theorem one_27 : (.slice none 0 0 : Value).cells.all (·.oneCell') = true := by kernel_rfl
theorem zc_27 : ((.slice none 0 0 : Value).cells.toList.map zcell) = [(AV.bytes [])] := by rfl
theorem in_70 : Info Tryd.prog 70 74 112 (.agg #[.int .u32 0, .int .u32 0, .int .u32 0, .int .u32 0, .int .u32 0, .int .u32 0, .int .u32 0, .int .u32 0, .int .u8 0, .int .u8 0, .int .u8 0, .int .u8 0, .int .u8 0, .int .u8 0, .int .u8 0, .int .u8 0, .int .u8 0, .int .u8 0, .int .u8 0, .int .u8 0, .int .u8 0, .int .u8 0, .int .u8 0, .int .u8 0, .int .u8 0, .int .u8 0, .int .u8 0, .int .u8 0, .int .u8 0, .int .u8 0, .int .u8 0, .int .u8 0, .int .u8 0, .int .u8 0, .int .u8 0, .int .u8 0, .int .u8 0, .int .u8 0, .int .u8 0, .int .u8 0, .int .u8 0, .int .u8 0, .int .u8 0, .int .u8 0, .int .u8 0, .int .u8 0, .int .u8 0, .int .u8 0, .int .u8 0, .int .u8 0, .int .u8 0, .int .u8 0, .int .u8 0, .int .u8 0, .int .u8 0, .int .u8 0, .int .u8 0, .int .u8 0, .int .u8 0, .int .u8 0, .int .u8 0, .int .u8 0, .int .u8 0, .int .u8 0, .int .u8 0, .int .u8 0, .int .u8 0, .int .u8 0, .int .u8 0, .int .u8 0, .int .u8 0, .int .u8 0, .int .i64 0, .int .i64 0]) := by unfold Info; kernel_rfl
theorem one_70 : (.agg #[.int .u32 0, .int .u32 0, .int .u32 0, .int .u32 0, .int .u32 0, .int .u32 0, .int .u32 0, .int .u32 0, .int .u8 0, .int .u8 0, .int .u8 0, .int .u8 0, .int .u8 0, .int .u8 0, .int .u8 0, .int .u8 0, .int .u8 0, .int .u8 0, .int .u8 0, .int .u8 0, .int .u8 0, .int .u8 0, .int .u8 0, .int .u8 0, .int .u8 0, .int .u8 0, .int .u8 0, .int .u8 0, .int .u8 0, .int .u8 0, .int .u8 0, .int .u8 0, .int .u8 0, .int .u8 0, .int .u8 0, .int .u8 0, .int .u8 0, .int .u8 0, .int .u8 0, .int .u8 0, .int .u8 0, .int .u8 0, .int .u8 0, .int .u8 0, .int .u8 0, .int .u8 0, .int .u8 0, .int .u8 0, .int .u8 0, .int .u8 0, .int .u8 0, .int .u8 0, .int .u8 0, .int .u8 0, .int .u8 0, .int .u8 0, .int .u8 0, .int .u8 0, .int .u8 0, .int .u8 0, .int .u8 0, .int .u8 0, .int .u8 0, .int .u8 0, .int .u8 0, .int .u8 0, .int .u8 0, .int .u8 0, .int .u8 0, .int .u8 0, .int .u8 0, .int .u8 0, .int .i64 0, .int .i64 0] : Value).cells.all (·.oneCell') = true := by kernel_rfl
theorem zc_70 : ((.agg #[.int .u32 0, .int .u32 0, .int .u32 0, .int .u32 0, .int .u32 0, .int .u32 0, .int .u32 0, .int .u32 0, .int .u8 0, .int .u8 0, .int .u8 0, .int .u8 0, .int .u8 0, .int .u8 0, .int .u8 0, .int .u8 0, .int .u8 0, .int .u8 0, .int .u8 0, .int .u8 0, .int .u8 0, .int .u8 0, .int .u8 0, .int .u8 0, .int .u8 0, .int .u8 0, .int .u8 0, .int .u8 0, .int .u8 0, .int .u8 0, .int .u8 0, .int .u8 0, .int .u8 0, .int .u8 0, .int .u8 0, .int .u8 0, .int .u8 0, .int .u8 0, .int .u8 0, .int .u8 0, .int .u8 0, .int .u8 0, .int .u8 0, .int .u8 0, .int .u8 0, .int .u8 0, .int .u8 0, .int .u8 0, .int .u8 0, .int .u8 0, .int .u8 0, .int .u8 0, .int .u8 0, .int .u8 0, .int .u8 0, .int .u8 0, .int .u8 0, .int .u8 0, .int .u8 0, .int .u8 0, .int .u8 0, .int .u8 0, .int .u8 0, .int .u8 0, .int .u8 0, .int .u8 0, .int .u8 0, .int .u8 0, .int .u8 0, .int .u8 0, .int .u8 0, .int .u8 0, .int .i64 0, .int .i64 0] : Value).cells.toList.map zcell) = GStream.cs GStream.zero := by rfl
theorem pl_70 : placesOf Tryd.prog 70 = some [(0, 8), (8, 64), (72, 1), (73, 1)] := by kernel_rfl
theorem in_67 : Info Tryd.prog 67 8 32 (.agg #[.int .u32 0, .int .u32 0, .int .u32 0, .int .u32 0, .int .u32 0, .int .u32 0, .int .u32 0, .int .u32 0]) := by unfold Info; kernel_rfl
theorem one_67 : (.agg #[.int .u32 0, .int .u32 0, .int .u32 0, .int .u32 0, .int .u32 0, .int .u32 0, .int .u32 0, .int .u32 0] : Value).cells.all (·.oneCell') = true := by kernel_rfl
theorem zc_67 : ((.agg #[.int .u32 0, .int .u32 0, .int .u32 0, .int .u32 0, .int .u32 0, .int .u32 0, .int .u32 0, .int .u32 0] : Value).cells.toList.map zcell) = ((Vector.replicate 8 (0 : UInt32)).toList).map AV.u32 := by rfl
theorem in_66 : Info Tryd.prog 66 1 4 (.int .u32 0) := by unfold Info; kernel_rfl
theorem one_66 : (.int .u32 0 : Value).cells.all (·.oneCell') = true := by kernel_rfl
theorem zc_66 : ((.int .u32 0 : Value).cells.toList.map zcell) = [(AV.u32 (0 : UInt32))] := by rfl
theorem in_86 : Info Tryd.prog 86 64 256 (.agg #[.int .u32 0, .int .u32 0, .int .u32 0, .int .u32 0, .int .u32 0, .int .u32 0, .int .u32 0, .int .u32 0, .int .u32 0, .int .u32 0, .int .u32 0, .int .u32 0, .int .u32 0, .int .u32 0, .int .u32 0, .int .u32 0, .int .u32 0, .int .u32 0, .int .u32 0, .int .u32 0, .int .u32 0, .int .u32 0, .int .u32 0, .int .u32 0, .int .u32 0, .int .u32 0, .int .u32 0, .int .u32 0, .int .u32 0, .int .u32 0, .int .u32 0, .int .u32 0, .int .u32 0, .int .u32 0, .int .u32 0, .int .u32 0, .int .u32 0, .int .u32 0, .int .u32 0, .int .u32 0, .int .u32 0, .int .u32 0, .int .u32 0, .int .u32 0, .int .u32 0, .int .u32 0, .int .u32 0, .int .u32 0, .int .u32 0, .int .u32 0, .int .u32 0, .int .u32 0, .int .u32 0, .int .u32 0, .int .u32 0, .int .u32 0, .int .u32 0, .int .u32 0, .int .u32 0, .int .u32 0, .int .u32 0, .int .u32 0, .int .u32 0, .int .u32 0]) := by unfold Info; kernel_rfl
theorem one_86 : (.agg #[.int .u32 0, .int .u32 0, .int .u32 0, .int .u32 0, .int .u32 0, .int .u32 0, .int .u32 0, .int .u32 0, .int .u32 0, .int .u32 0, .int .u32 0, .int .u32 0, .int .u32 0, .int .u32 0, .int .u32 0, .int .u32 0, .int .u32 0, .int .u32 0, .int .u32 0, .int .u32 0, .int .u32 0, .int .u32 0, .int .u32 0, .int .u32 0, .int .u32 0, .int .u32 0, .int .u32 0, .int .u32 0, .int .u32 0, .int .u32 0, .int .u32 0, .int .u32 0, .int .u32 0, .int .u32 0, .int .u32 0, .int .u32 0, .int .u32 0, .int .u32 0, .int .u32 0, .int .u32 0, .int .u32 0, .int .u32 0, .int .u32 0, .int .u32 0, .int .u32 0, .int .u32 0, .int .u32 0, .int .u32 0, .int .u32 0, .int .u32 0, .int .u32 0, .int .u32 0, .int .u32 0, .int .u32 0, .int .u32 0, .int .u32 0, .int .u32 0, .int .u32 0, .int .u32 0, .int .u32 0, .int .u32 0, .int .u32 0, .int .u32 0, .int .u32 0] : Value).cells.all (·.oneCell') = true := by kernel_rfl
theorem zc_86 : ((.agg #[.int .u32 0, .int .u32 0, .int .u32 0, .int .u32 0, .int .u32 0, .int .u32 0, .int .u32 0, .int .u32 0, .int .u32 0, .int .u32 0, .int .u32 0, .int .u32 0, .int .u32 0, .int .u32 0, .int .u32 0, .int .u32 0, .int .u32 0, .int .u32 0, .int .u32 0, .int .u32 0, .int .u32 0, .int .u32 0, .int .u32 0, .int .u32 0, .int .u32 0, .int .u32 0, .int .u32 0, .int .u32 0, .int .u32 0, .int .u32 0, .int .u32 0, .int .u32 0, .int .u32 0, .int .u32 0, .int .u32 0, .int .u32 0, .int .u32 0, .int .u32 0, .int .u32 0, .int .u32 0, .int .u32 0, .int .u32 0, .int .u32 0, .int .u32 0, .int .u32 0, .int .u32 0, .int .u32 0, .int .u32 0, .int .u32 0, .int .u32 0, .int .u32 0, .int .u32 0, .int .u32 0, .int .u32 0, .int .u32 0, .int .u32 0, .int .u32 0, .int .u32 0, .int .u32 0, .int .u32 0, .int .u32 0, .int .u32 0, .int .u32 0, .int .u32 0] : Value).cells.toList.map zcell) = ((Vector.replicate 64 (0 : UInt32)).toList).map AV.u32 := by rfl
theorem in_3 : Info Tryd.prog 3 1 8 (.int .i64 0) := by unfold Info; kernel_rfl
theorem one_3 : (.int .i64 0 : Value).cells.all (·.oneCell') = true := by kernel_rfl
theorem zc_3 : ((.int .i64 0 : Value).cells.toList.map zcell) = [(AV.int (0 : Int))] := by rfl
theorem in_68 : Info Tryd.prog 68 64 64 (.agg #[.int .u8 0, .int .u8 0, .int .u8 0, .int .u8 0, .int .u8 0, .int .u8 0, .int .u8 0, .int .u8 0, .int .u8 0, .int .u8 0, .int .u8 0, .int .u8 0, .int .u8 0, .int .u8 0, .int .u8 0, .int .u8 0, .int .u8 0, .int .u8 0, .int .u8 0, .int .u8 0, .int .u8 0, .int .u8 0, .int .u8 0, .int .u8 0, .int .u8 0, .int .u8 0, .int .u8 0, .int .u8 0, .int .u8 0, .int .u8 0, .int .u8 0, .int .u8 0, .int .u8 0, .int .u8 0, .int .u8 0, .int .u8 0, .int .u8 0, .int .u8 0, .int .u8 0, .int .u8 0, .int .u8 0, .int .u8 0, .int .u8 0, .int .u8 0, .int .u8 0, .int .u8 0, .int .u8 0, .int .u8 0, .int .u8 0, .int .u8 0, .int .u8 0, .int .u8 0, .int .u8 0, .int .u8 0, .int .u8 0, .int .u8 0, .int .u8 0, .int .u8 0, .int .u8 0, .int .u8 0, .int .u8 0, .int .u8 0, .int .u8 0, .int .u8 0]) := by unfold Info; kernel_rfl
theorem one_68 : (.agg #[.int .u8 0, .int .u8 0, .int .u8 0, .int .u8 0, .int .u8 0, .int .u8 0, .int .u8 0, .int .u8 0, .int .u8 0, .int .u8 0, .int .u8 0, .int .u8 0, .int .u8 0, .int .u8 0, .int .u8 0, .int .u8 0, .int .u8 0, .int .u8 0, .int .u8 0, .int .u8 0, .int .u8 0, .int .u8 0, .int .u8 0, .int .u8 0, .int .u8 0, .int .u8 0, .int .u8 0, .int .u8 0, .int .u8 0, .int .u8 0, .int .u8 0, .int .u8 0, .int .u8 0, .int .u8 0, .int .u8 0, .int .u8 0, .int .u8 0, .int .u8 0, .int .u8 0, .int .u8 0, .int .u8 0, .int .u8 0, .int .u8 0, .int .u8 0, .int .u8 0, .int .u8 0, .int .u8 0, .int .u8 0, .int .u8 0, .int .u8 0, .int .u8 0, .int .u8 0, .int .u8 0, .int .u8 0, .int .u8 0, .int .u8 0, .int .u8 0, .int .u8 0, .int .u8 0, .int .u8 0, .int .u8 0, .int .u8 0, .int .u8 0, .int .u8 0] : Value).cells.all (·.oneCell') = true := by kernel_rfl
theorem zc_68 : ((.agg #[.int .u8 0, .int .u8 0, .int .u8 0, .int .u8 0, .int .u8 0, .int .u8 0, .int .u8 0, .int .u8 0, .int .u8 0, .int .u8 0, .int .u8 0, .int .u8 0, .int .u8 0, .int .u8 0, .int .u8 0, .int .u8 0, .int .u8 0, .int .u8 0, .int .u8 0, .int .u8 0, .int .u8 0, .int .u8 0, .int .u8 0, .int .u8 0, .int .u8 0, .int .u8 0, .int .u8 0, .int .u8 0, .int .u8 0, .int .u8 0, .int .u8 0, .int .u8 0, .int .u8 0, .int .u8 0, .int .u8 0, .int .u8 0, .int .u8 0, .int .u8 0, .int .u8 0, .int .u8 0, .int .u8 0, .int .u8 0, .int .u8 0, .int .u8 0, .int .u8 0, .int .u8 0, .int .u8 0, .int .u8 0, .int .u8 0, .int .u8 0, .int .u8 0, .int .u8 0, .int .u8 0, .int .u8 0, .int .u8 0, .int .u8 0, .int .u8 0, .int .u8 0, .int .u8 0, .int .u8 0, .int .u8 0, .int .u8 0, .int .u8 0, .int .u8 0] : Value).cells.toList.map zcell) = bcells ((Vector.replicate 64 (0 : UInt8)).toList) := by rfl
theorem in_62 : Info Tryd.prog 62 32 32 (.agg #[.int .u8 0, .int .u8 0, .int .u8 0, .int .u8 0, .int .u8 0, .int .u8 0, .int .u8 0, .int .u8 0, .int .u8 0, .int .u8 0, .int .u8 0, .int .u8 0, .int .u8 0, .int .u8 0, .int .u8 0, .int .u8 0, .int .u8 0, .int .u8 0, .int .u8 0, .int .u8 0, .int .u8 0, .int .u8 0, .int .u8 0, .int .u8 0, .int .u8 0, .int .u8 0, .int .u8 0, .int .u8 0, .int .u8 0, .int .u8 0, .int .u8 0, .int .u8 0]) := by unfold Info; kernel_rfl
theorem one_62 : (.agg #[.int .u8 0, .int .u8 0, .int .u8 0, .int .u8 0, .int .u8 0, .int .u8 0, .int .u8 0, .int .u8 0, .int .u8 0, .int .u8 0, .int .u8 0, .int .u8 0, .int .u8 0, .int .u8 0, .int .u8 0, .int .u8 0, .int .u8 0, .int .u8 0, .int .u8 0, .int .u8 0, .int .u8 0, .int .u8 0, .int .u8 0, .int .u8 0, .int .u8 0, .int .u8 0, .int .u8 0, .int .u8 0, .int .u8 0, .int .u8 0, .int .u8 0, .int .u8 0] : Value).cells.all (·.oneCell') = true := by kernel_rfl
theorem zc_62 : ((.agg #[.int .u8 0, .int .u8 0, .int .u8 0, .int .u8 0, .int .u8 0, .int .u8 0, .int .u8 0, .int .u8 0, .int .u8 0, .int .u8 0, .int .u8 0, .int .u8 0, .int .u8 0, .int .u8 0, .int .u8 0, .int .u8 0, .int .u8 0, .int .u8 0, .int .u8 0, .int .u8 0, .int .u8 0, .int .u8 0, .int .u8 0, .int .u8 0, .int .u8 0, .int .u8 0, .int .u8 0, .int .u8 0, .int .u8 0, .int .u8 0, .int .u8 0, .int .u8 0] : Value).cells.toList.map zcell) = bcells ((Vector.replicate 32 (0 : UInt8)).toList) := by rfl
theorem in_24 : Info Tryd.prog 24 1 24 (.slice none 0 0) := by unfold Info; kernel_rfl
theorem one_24 : (.slice none 0 0 : Value).cells.all (·.oneCell') = true := by kernel_rfl
theorem zc_24 : ((.slice none 0 0 : Value).cells.toList.map zcell) = [(AV.lists [])] := by rfl
theorem in_23 : Info Tryd.prog 23 1 24 (.slice none 0 0) := by unfold Info; kernel_rfl
theorem one_23 : (.slice none 0 0 : Value).cells.all (·.oneCell') = true := by kernel_rfl
theorem zc_23 : ((.slice none 0 0 : Value).cells.toList.map zcell) = [((fun q : List GSlot => AV.lst (q.flatMap GSlot.cs) q.length) [])] := by rfl
theorem in_49 : Info Tryd.prog 49 3 56 (.agg #[.bool false, .slice none 0 0, .slice none 0 0]) := by unfold Info; kernel_rfl
theorem one_49 : (.agg #[.bool false, .slice none 0 0, .slice none 0 0] : Value).cells.all (·.oneCell') = true := by kernel_rfl
theorem zc_49 : ((.agg #[.bool false, .slice none 0 0, .slice none 0 0] : Value).cells.toList.map zcell) = GSlot.cs GSlot.zero := by rfl
theorem pl_49 : placesOf Tryd.prog 49 = some [(0, 1), (1, 1), (2, 1)] := by kernel_rfl

/-! slots.modes -/
noncomputable def g_slots_modes (mode0 : Int) : Option (Bool) :=
  some (decide ((mode0 = (1 : Int)) ∨ (mode0 = (2 : Int))))
set_option maxHeartbeats 4000000 in
set_option maxRecDepth 100000 in
theorem g_slots_modes_ac {mode0 : Int} {r : Bool} (H : g_slots_modes mode0 = some r) : ACp Tryd.prog 11 [(AV.int mode0)] (AV.bool r) := by
 refine ACp_of (AC2_of_body (vs := [.b r]) Tryd.func11 Y Y (Nat.le_of_ble_eq_true Y) Y ?_) (fun _ => .same _)
 unfold g_slots_modes at H
 refine as2 [(0, .i mode0)] [] Y Y Y ?_
 refine sg [0] Y ?_
 refine rp Y Y (p_asg Y Y) ?_
 refine rz [(0, .i mode0)] [] Y Y Y ?_
 refine AW2_seq ?_
 refine AW2_mid (⟨[(2, .b (decide ((mode0 = (1 : Int)) ∨ (mode0 = (2 : Int)))))], [], 9⟩ : TS) ?_ ?_
 ·refine AW2_reg [0, 1, 2, 3, 4, 5, 6] Y ?_
  refine rp Y Y (p_move Y Y) ?_
  refine rp Y Y (p_ieq Y Y Y) ?_
  refine rp Y Y (p_move Y Y) ?_
  refine (Classical.em (mode0 = (1 : Int))).elim (fun h1 => ?_) (fun h1 => ?_)
  ·refine r_off Y Y Y Y (dT h1) Y Y ?_
   refine r_off Y Y Y Y (dT h1) Y Y ?_
   refine rp Y Y (p_pkt Y Y (dT h1) (tb (dT (p := (mode0 = (1 : Int)) ∨ (mode0 = (2 : Int))) (Or.inl h1)).symm)) ?_
   refine rp Y Y (p_asg Y Y) ?_
   refine rs [(2, .b (decide ((mode0 = (1 : Int)) ∨ (mode0 = (2 : Int)))))] [] Y Y Y ?_
   exact RunW_nil rfl
  ·refine r_on Y Y Y Y (dF h1) Y (PureD.opD (p_move Y Y)) ?_
   refine r_on Y Y Y Y (dF h1) Y (PureD.opD (p_ieq Y Y Y)) ?_
   refine rp Y Y (p_pkf Y Y (dF h1) (tb ((or_l (p := mode0 = (1 : Int)) (q := mode0 = (2 : Int)) h1)))) ?_
   refine rp Y Y (p_asg Y Y) ?_
   refine rs [(2, .b (decide ((mode0 = (1 : Int)) ∨ (mode0 = (2 : Int)))))] [] Y Y Y ?_
   exact RunW_nil rfl
 ·refine AW2_ret ?_
  have hz := some_elim H
  subst hz
  exact ⟨⟨res_tmp (.same _), trivial⟩, trivial⟩

/-! slots.power -/
noncomputable def g_slots_power (n0 : Int) : Option (Bool) :=
  some (decide (((n0 ≥ (1 : Int)) ∧ (n0 ≤ (64 : Int))) ∧ (iand n0 (w64 (n0 - (1 : Int))) = (0 : Int))))
set_option maxHeartbeats 4000000 in
set_option maxRecDepth 100000 in
theorem g_slots_power_ac {n0 : Int} {r : Bool} (H : g_slots_power n0 = some r) : ACp Tryd.prog 12 [(AV.int n0)] (AV.bool r) := by
 refine ACp_of (AC2_of_body (vs := [.b r]) Tryd.func12 Y Y (Nat.le_of_ble_eq_true Y) Y ?_) (fun _ => .same _)
 unfold g_slots_power at H
 refine as2 [(0, .i n0)] [] Y Y Y ?_
 refine sg [0] Y ?_
 refine rp Y Y (p_asg Y Y) ?_
 refine rz [(0, .i n0)] [] Y Y Y ?_
 refine AW2_seq ?_
 refine AW2_mid (⟨[(2, .b (decide (((n0 ≥ (1 : Int)) ∧ (n0 ≤ (64 : Int))) ∧ (iand n0 (w64 (n0 - (1 : Int))) = (0 : Int)))))], [], 16⟩ : TS) ?_ ?_
 ·refine AW2_reg [0, 1, 2, 3, 4, 5, 6, 7, 8, 9, 10, 11, 12, 13] Y ?_
  refine rp Y Y (p_move Y Y) ?_
  refine rp Y Y (p_bin Y Y Y Y) ?_
  refine rp Y Y (p_move Y Y) ?_
  refine (Classical.em (n0 ≥ (1 : Int))).elim (fun h1 => ?_) (fun h1 => ?_)
  ·refine r_on Y Y Y Y (dT h1) Y (PureD.opD (p_move Y Y)) ?_
   refine r_on Y Y Y Y (dT h1) Y (PureD.opD (p_bin Y Y Y Y)) ?_
   refine rp Y Y (p_pkt Y Y (dT h1) (tb ((and_l (p := n0 ≥ (1 : Int)) (q := n0 ≤ (64 : Int)) h1)))) ?_
   refine rp Y Y (p_move Y Y) ?_
   refine (Classical.em (n0 ≤ (64 : Int))).elim (fun h2 => ?_) (fun h2 => ?_)
   ·refine r_on Y Y Y Y (dT (p := (n0 ≥ (1 : Int)) ∧ (n0 ≤ (64 : Int))) ⟨h1, h2⟩) Y (PureD.opD (p_move Y Y)) ?_
    refine r_on Y Y Y Y (dT (p := (n0 ≥ (1 : Int)) ∧ (n0 ≤ (64 : Int))) ⟨h1, h2⟩) Y (PureD.opD (p_move Y Y)) ?_
    refine r_on Y Y Y Y (dT (p := (n0 ≥ (1 : Int)) ∧ (n0 ≤ (64 : Int))) ⟨h1, h2⟩) Y (PureD.opD (p_bin Y Y Y Y)) ?_
    refine r_on Y Y Y Y (dT (p := (n0 ≥ (1 : Int)) ∧ (n0 ≤ (64 : Int))) ⟨h1, h2⟩) Y (PureD.opD (p_bin Y Y Y Y)) ?_
    refine r_on Y Y Y Y (dT (p := (n0 ≥ (1 : Int)) ∧ (n0 ≤ (64 : Int))) ⟨h1, h2⟩) Y (PureD.opD (p_ieq Y Y Y)) ?_
    refine rp Y Y (p_pkt Y Y (dT (p := (n0 ≥ (1 : Int)) ∧ (n0 ≤ (64 : Int))) ⟨h1, h2⟩) (tb ((and_l (p := (n0 ≥ (1 : Int)) ∧ (n0 ≤ (64 : Int))) (q := iand n0 (w64 (n0 - (1 : Int))) = (0 : Int)) ⟨h1, h2⟩)))) ?_
    refine rp Y Y (p_asg Y Y) ?_
    refine rs [(2, .b (decide (((n0 ≥ (1 : Int)) ∧ (n0 ≤ (64 : Int))) ∧ (iand n0 (w64 (n0 - (1 : Int))) = (0 : Int)))))] [] Y Y Y ?_
    exact RunW_nil rfl
   ·refine r_off Y Y Y Y (dF (p := (n0 ≥ (1 : Int)) ∧ (n0 ≤ (64 : Int))) (fun h => h2 h.2)) Y Y ?_
    refine r_off Y Y Y Y (dF (p := (n0 ≥ (1 : Int)) ∧ (n0 ≤ (64 : Int))) (fun h => h2 h.2)) Y Y ?_
    refine r_off Y Y Y Y (dF (p := (n0 ≥ (1 : Int)) ∧ (n0 ≤ (64 : Int))) (fun h => h2 h.2)) Y Y ?_
    refine r_off Y Y Y Y (dF (p := (n0 ≥ (1 : Int)) ∧ (n0 ≤ (64 : Int))) (fun h => h2 h.2)) Y Y ?_
    refine r_off Y Y Y Y (dF (p := (n0 ≥ (1 : Int)) ∧ (n0 ≤ (64 : Int))) (fun h => h2 h.2)) Y Y ?_
    refine rp Y Y (p_pkf Y Y (dF (p := (n0 ≥ (1 : Int)) ∧ (n0 ≤ (64 : Int))) (fun h => h2 h.2)) (tb (dF (p := ((n0 ≥ (1 : Int)) ∧ (n0 ≤ (64 : Int))) ∧ (iand n0 (w64 (n0 - (1 : Int))) = (0 : Int))) (fun x => (fun h => h2 h.2) x.1)).symm)) ?_
    refine rp Y Y (p_asg Y Y) ?_
    refine rs [(2, .b (decide (((n0 ≥ (1 : Int)) ∧ (n0 ≤ (64 : Int))) ∧ (iand n0 (w64 (n0 - (1 : Int))) = (0 : Int)))))] [] Y Y Y ?_
    exact RunW_nil rfl
  ·refine r_off Y Y Y Y (dF h1) Y Y ?_
   refine r_off Y Y Y Y (dF h1) Y Y ?_
   refine rp Y Y (p_pkf Y Y (dF h1) (tb (dF (p := (n0 ≥ (1 : Int)) ∧ (n0 ≤ (64 : Int))) (fun x => h1 x.1)).symm)) ?_
   refine rp Y Y (p_move Y Y) ?_
   refine r_off Y Y Y Y (dF (p := (n0 ≥ (1 : Int)) ∧ (n0 ≤ (64 : Int))) (fun h => h1 h.1)) Y Y ?_
   refine r_off Y Y Y Y (dF (p := (n0 ≥ (1 : Int)) ∧ (n0 ≤ (64 : Int))) (fun h => h1 h.1)) Y Y ?_
   refine r_off Y Y Y Y (dF (p := (n0 ≥ (1 : Int)) ∧ (n0 ≤ (64 : Int))) (fun h => h1 h.1)) Y Y ?_
   refine r_off Y Y Y Y (dF (p := (n0 ≥ (1 : Int)) ∧ (n0 ≤ (64 : Int))) (fun h => h1 h.1)) Y Y ?_
   refine r_off Y Y Y Y (dF (p := (n0 ≥ (1 : Int)) ∧ (n0 ≤ (64 : Int))) (fun h => h1 h.1)) Y Y ?_
   refine rp Y Y (p_pkf Y Y (dF (p := (n0 ≥ (1 : Int)) ∧ (n0 ≤ (64 : Int))) (fun h => h1 h.1)) (tb (dF (p := ((n0 ≥ (1 : Int)) ∧ (n0 ≤ (64 : Int))) ∧ (iand n0 (w64 (n0 - (1 : Int))) = (0 : Int))) (fun x => (fun h => h1 h.1) x.1)).symm)) ?_
   refine rp Y Y (p_asg Y Y) ?_
   refine rs [(2, .b (decide (((n0 ≥ (1 : Int)) ∧ (n0 ≤ (64 : Int))) ∧ (iand n0 (w64 (n0 - (1 : Int))) = (0 : Int)))))] [] Y Y Y ?_
   exact RunW_nil rfl
 ·refine AW2_ret ?_
  have hz := some_elim H
  subst hz
  exact ⟨⟨res_tmp (.same _), trivial⟩, trivial⟩

/-! slots.some -/
noncomputable def g_slots_some_l0 (open0 : List Bool) : Int → Option (Int ⊕ (Bool ⊕ Unit))
  | t7_0 => (if t7_0 < (open0.length : Int) then if 0 ≤ t7_0 ∧ t7_0 < (open0.length : Int) then (if (lrd open0 t7_0.toNat) = true then some (.inr (.inl true)) else some (.inl (w64 (t7_0 + (1 : Int))))) else none else some (.inr (.inr ())))
noncomputable def g_slots_some (open0 : List Bool) : Option (Bool) :=
  (loopO (g_slots_some_l0 open0) (0 : Int)).bind fun o'4 => match o'4 with | .inl y'5 => some y'5 | .inr (y'6) => some false
set_option maxHeartbeats 4000000 in
set_option maxRecDepth 100000 in
theorem g_slots_some_ac {open0 : List Bool} {r : Bool} (H : g_slots_some open0 = some r) : ACp Tryd.prog 21 [((fun q : List Bool => AV.lst (q.map AV.bool) q.length) open0)] (AV.bool r) := by
 refine ACp_of (AC2_of_body (vs := [.b r]) Tryd.func21 Y Y (Nat.le_of_ble_eq_true Y) Y ?_) (fun _ => .same _)
 unfold g_slots_some at H
 refine as2 [(0, .p ((fun q : List Bool => AV.lst (q.map AV.bool) q.length) open0))] [] Y Y Y ?_
 refine sg [0] Y ?_
 refine rp Y Y (p_asg Y Y) ?_
 refine rz [(0, .p ((fun q : List Bool => AV.lst (q.map AV.bool) q.length) open0))] [] Y Y Y ?_
 refine AW2_seq ?_
 refine sg [0, 1, 2] Y ?_
 refine rp Y Y (p_move Y Y) ?_
 refine rp Y Y (p_lenl Y Tryd.underlying22 Y Y) ?_
 refine rp Y Y (p_move Y Y) ?_
 refine rz [(5, .p ((fun q : List Bool => AV.lst (q.map AV.bool) q.length) open0)), (6, .i (open0.length : Int)), (7, .i (0 : Int))] [] Y Y Y ?_
 refine AW2_block ?_
 refine as2 [(5, .p ((fun q : List Bool => AV.lst (q.map AV.bool) q.length) open0)), (6, .i (open0.length : Int)), (7, .i (0 : Int))] [] Y Y Y ?_
 refine bindK H fun o'4 h4 H => ?_
 refine AW2_loopO (fun a'1 : Int => (⟨[(5, .p ((fun q : List Bool => AV.lst (q.map AV.bool) q.length) open0)), (6, .i (open0.length : Int)), (7, .i a'1)], [], 13⟩ : TS)) (fun (o : Bool ⊕ Unit) e s' => match o with | .inl y'2 => e = Go.Exit.ret ∧ ResAll Tryd.prog s' [ResultVar.tmp 2] [.b y'2] ∧ HFits s' [] | .inr (y'3) => e = Go.Exit.exit 0 ∧ s' = (⟨[], [], 13⟩ : TS)) h4 Y (fun t7_0 x hx => ?_) (fun e s' hs => ?_)
 ·clear H
  have H := hx
  clear hx
  unfold g_slots_some_l0 at H
  refine sg [0] Y ?_
  refine rp Y Y (p_bin Y Y Y Y) ?_
  refine rz [(5, .p ((fun q : List Bool => AV.lst (q.map AV.bool) q.length) open0)), (6, .i (open0.length : Int)), (7, .i t7_0), (8, .b (decide (t7_0 < (open0.length : Int))))] [] Y Y Y ?_
  refine AW2_seq ?_
  refine AW2_if (p := t7_0 < (open0.length : Int)) Y (fun h1 => ?_) (fun h1 => ?_)
  ·replace H := ite_then h1 H
   refine as2 [(5, .p ((fun q : List Bool => AV.lst (q.map AV.bool) q.length) open0)), (6, .i (open0.length : Int)), (7, .i t7_0)] [] Y Y Y ?_
   refine AW2_skip ?_
   refine AW2_seq ?_
   refine AW2_block ?_
   refine sg [0, 1, 2] Y ?_
   refine chkK H fun h2 H => ?_
   refine rp Y Y (u_ixl Y Y Tryd.underlying22 in_4 Y Y (ixe h2) (ixn h2) (lne (ixn h2))) ?_
   refine rp Y Y (u_ld Y Y Tryd.underlying4 Y Y (Sub.map default (ixn h2))) ?_
   refine rp Y Y (p_asg Y Y) ?_
   refine rz [(4, .b (lrd open0 t7_0.toNat)), (5, .p ((fun q : List Bool => AV.lst (q.map AV.bool) q.length) open0)), (6, .i (open0.length : Int)), (7, .i t7_0)] [] Y Y Y ?_
   refine sg [0] Y ?_
   refine rp Y Y (p_move Y Y) ?_
   refine rz [(5, .p ((fun q : List Bool => AV.lst (q.map AV.bool) q.length) open0)), (6, .i (open0.length : Int)), (7, .i t7_0), (11, .b (lrd open0 t7_0.toNat))] [] Y Y Y ?_
   refine AW2_cond Y (fun h3 => ?_) (fun h3 => ?_)
   ·replace H := ite_then h3 H
    refine sg [0] Y ?_
    refine rp Y Y (p_asg Y Y) ?_
    refine rz [(2, .b true)] [] Y Y Y ?_
    refine AW2_ret ?_
    have hz := some_elim H
    subst hz
    exact ⟨Y, ⟨res_tmp (.same _), trivial⟩, trivial⟩
   ·replace H := ite_else (ne_true h3) H
    refine as2 [(5, .p ((fun q : List Bool => AV.lst (q.map AV.bool) q.length) open0)), (6, .i (open0.length : Int)), (7, .i t7_0)] [] Y Y Y ?_
    refine AW2_skip ?_
    refine AW2_reg [0, 1] Y ?_
    refine rp Y Y (p_bin Y Y Y Y) ?_
    refine rp Y Y (p_move Y Y) ?_
    refine rz [(5, .p ((fun q : List Bool => AV.lst (q.map AV.bool) q.length) open0)), (6, .i (open0.length : Int)), (7, .i (w64 (t7_0 + (1 : Int))))] [] Y Y Y ?_
    have hz := some_elim H
    subst hz
    exact ⟨Y, Y⟩
  ·replace H := ite_else h1 H
   refine as2 [] [] Y Y Y ?_
   refine AW2_exit ?_
   refine thenQ2_exit ?_
   have hz := some_elim H
   subst hz
   exact ⟨Y, Y⟩
 ·rcases o'4 with y'5 | y'6
  ·obtain ⟨rfl, hs⟩ := hs
   refine ⟨by simp, ?_⟩
   have hz := some_elim H
   subst hz
   exact ⟨hs.1, hs.2⟩
  ·obtain ⟨rfl, rfl⟩ := hs
   refine ⟨by simp, ?_⟩
   refine blockQ2_exit ?_
   refine sg [0] Y ?_
   refine rp Y Y (p_asg Y Y) ?_
   refine rz [(2, .b false)] [] Y Y Y ?_
   refine AW2_ret ?_
   have hz := some_elim H
   subst hz
   exact ⟨⟨res_tmp (.same _), trivial⟩, trivial⟩

/-! oracle.four -/
noncomputable def g_oracle_four (n0 : Int) : Option ((List UInt8)) :=
  letO (([UInt8.ofInt (ishr n0 24), UInt8.ofInt (ishr n0 16), UInt8.ofInt (ishr n0 8), UInt8.ofInt n0] : List UInt8)) fun t2'1 => some t2'1
set_option maxHeartbeats 4000000 in
set_option maxRecDepth 100000 in
theorem g_oracle_four_ac2 {n0 : Int} {r : (List UInt8)} (H : g_oracle_four n0 = some r) : AC2 Tryd.prog 53 (pureT [(AV.int n0)]) [] (.c (.own 2 r.length 1)) [(2, .pure (bcells r))] := by
 refine AC2_of_body (vs := [.c (.own 2 r.length 1)]) Tryd.func53 Y Y (Nat.le_of_ble_eq_true Y) Y ?_
 unfold g_oracle_four at H
 refine as2 [(0, .i n0)] [] Y Y Y ?_
 refine sg [0] Y ?_
 refine rp Y Y (p_asgn Y) ?_
 refine rz [(0, .i n0)] [] Y Y Y ?_
 refine sg [0, 1, 2, 3, 4, 5, 6, 7, 8, 9, 10, 11, 12] Y ?_
 refine rp Y Y (p_move Y Y) ?_
 refine rp Y Y (p_ishr (n := 24) Y Y Y Y) ?_
 refine rp Y Y (p_i_u8 Y Tryd.underlying3 Tryd.underlying5 Y) ?_
 refine rp Y Y (p_move Y Y) ?_
 refine rp Y Y (p_ishr (n := 16) Y Y Y Y) ?_
 refine rp Y Y (p_i_u8 Y Tryd.underlying3 Tryd.underlying5 Y) ?_
 refine rp Y Y (p_move Y Y) ?_
 refine rp Y Y (p_ishr (n := 8) Y Y Y Y) ?_
 refine rp Y Y (p_i_u8 Y Tryd.underlying3 Tryd.underlying5 Y) ?_
 refine rp Y Y (p_move Y Y) ?_
 refine rp Y Y (p_i_u8 Y Tryd.underlying3 Tryd.underlying5 Y) ?_
 refine r_op Y Y (MakeD.opD (u_bs 14 Y Tryd.underlying27 in_5 Y one_5 (by decide) (by decide) Y Y Y) Y Y Y Y) ?_
 refine rp Y Y (p_asg Y Y) ?_
 refine RunW_st [(2, .c (.own 14 ([UInt8.ofInt (ishr n0 24), UInt8.ofInt (ishr n0 16), UInt8.ofInt (ishr n0 8), UInt8.ofInt n0] : List UInt8).length 1))] [(14, .pure (bcells ([UInt8.ofInt (ishr n0 24), UInt8.ofInt (ishr n0 16), UInt8.ofInt (ishr n0 8), UInt8.ofInt n0] : List UInt8)))] Y ⟨TLes.own Y, trivial⟩ ⟨Y, trivial⟩ ?_
 refine RunW_gho (Gho_ren 14 2 Y Y Y Y Y) ?_
 refine rz [(2, .c (.own 2 ([UInt8.ofInt (ishr n0 24), UInt8.ofInt (ishr n0 16), UInt8.ofInt (ishr n0 8), UInt8.ofInt n0] : List UInt8).length 1))] [(2, .pure (bcells ([UInt8.ofInt (ishr n0 24), UInt8.ofInt (ishr n0 16), UInt8.ofInt (ishr n0 8), UInt8.ofInt n0] : List UInt8)))] Y Y Y ?_
 refine gen1 (fun t2'1 => (⟨[(2, .c (.own 2 t2'1.length 1))], [(2, .pure (bcells t2'1))], 15⟩ : TS)) H ?_
 intro t2'1 H
 refine as2 [(2, .c (.own 2 t2'1.length 1))] [(2, .pure (bcells t2'1))] Y Y Y ?_
 refine AW2_ret ?_
 have hz := some_elim H
 subst hz
 exact ⟨⟨res_tmp (.same _), trivial⟩, ⟨Y, trivial⟩⟩
theorem g_oracle_four_ac {n0 : Int} {r : (List UInt8)} (H : g_oracle_four n0 = some r) : ACp Tryd.prog 53 [(AV.int n0)] (AV.bytes r) := ACp_pub (g_oracle_four_ac2 H) (fun _ _ hm => lent_own hm rfl (bl r) (by decide))

/-! oracle.frame -/
noncomputable def g_oracle_frame_l0 (parts1 : List (List UInt8)) : Int × (List UInt8) → Option ((Int × (List UInt8)) ⊕ (((List UInt8))))
  | (t16_0, out5_0) => (if t16_0 < (parts1.length : Int) then if 0 ≤ t16_0 ∧ t16_0 < (parts1.length : Int) then (g_oracle_four ((lrd parts1 t16_0.toNat).length : Int)).bind fun r'1 => if room (out5_0.length + r'1.length) 1 then if room ((out5_0 ++ r'1).length + (lrd parts1 t16_0.toNat).length) 1 then some (.inl (w64 (t16_0 + (1 : Int)), (out5_0 ++ r'1) ++ (lrd parts1 t16_0.toNat))) else none else none else none else some (.inr out5_0))
noncomputable def g_oracle_frame (tag0 : Int) (parts1 : List (List UInt8)) : Option ((List UInt8)) :=
  (loopO (g_oracle_frame_l0 parts1) ((0 : Int), ([UInt8.ofInt tag0, UInt8.ofInt (parts1.length : Int)] : List UInt8))).bind fun y'5 => some y'5
set_option maxHeartbeats 4000000 in
set_option maxRecDepth 100000 in
theorem g_oracle_frame_ac2 {tag0 : Int} {parts1 : List (List UInt8)} {r : (List UInt8)} (H : g_oracle_frame tag0 parts1 = some r) : AC2 Tryd.prog 44 (pureT [(AV.int tag0), (AV.lists parts1)]) [] (.c (.own 4 r.length 1)) [(4, .pure (bcells r))] := by
 refine AC2_of_body (vs := [.c (.own 4 r.length 1)]) Tryd.func44 Y Y (Nat.le_of_ble_eq_true Y) Y ?_
 unfold g_oracle_frame at H
 refine as2 [(0, .i tag0), (1, .p (AV.lists parts1))] [] Y Y Y ?_
 refine sg [0] Y ?_
 refine rp Y Y (p_asgn Y) ?_
 refine rz [(0, .i tag0), (1, .p (AV.lists parts1))] [] Y Y Y ?_
 refine sg [0, 1, 2, 3, 4, 5, 6] Y ?_
 refine rp Y Y (p_move Y Y) ?_
 refine rp Y Y (p_i_u8 Y Tryd.underlying3 Tryd.underlying5 Y) ?_
 refine rp Y Y (p_move Y Y) ?_
 refine rp Y Y (p_lenl Y Tryd.underlying24 Y Y) ?_
 refine rp Y Y (p_i_u8 Y Tryd.underlying3 Tryd.underlying5 Y) ?_
 refine r_op Y Y (MakeD.opD (u_bs 13 Y Tryd.underlying27 in_5 Y one_5 (by decide) (by decide) Y Y Y) Y Y Y Y) ?_
 refine rp Y Y (p_asg Y Y) ?_
 refine RunW_st [(1, .p (AV.lists parts1)), (5, .c (.own 13 ([UInt8.ofInt tag0, UInt8.ofInt (parts1.length : Int)] : List UInt8).length 1))] [(13, .pure (bcells ([UInt8.ofInt tag0, UInt8.ofInt (parts1.length : Int)] : List UInt8)))] Y ⟨TLes.same _, TLes.own Y, trivial⟩ ⟨Y, trivial⟩ ?_
 refine RunW_gho (Gho_ren 13 5 Y Y Y Y Y) ?_
 refine rz [(1, .p (AV.lists parts1)), (5, .c (.own 5 ([UInt8.ofInt tag0, UInt8.ofInt (parts1.length : Int)] : List UInt8).length 1))] [(5, .pure (bcells ([UInt8.ofInt tag0, UInt8.ofInt (parts1.length : Int)] : List UInt8)))] Y Y Y ?_
 refine AW2_seq ?_
 refine sg [0, 1, 2] Y ?_
 refine rp Y Y (p_move Y Y) ?_
 refine rp Y Y (p_lenl Y Tryd.underlying24 Y Y) ?_
 refine rp Y Y (p_move Y Y) ?_
 refine rz [(5, .c (.own 5 ([UInt8.ofInt tag0, UInt8.ofInt (parts1.length : Int)] : List UInt8).length 1)), (14, .p (AV.lists parts1)), (15, .i (parts1.length : Int)), (16, .i (0 : Int))] [(5, .pure (bcells ([UInt8.ofInt tag0, UInt8.ofInt (parts1.length : Int)] : List UInt8)))] Y Y Y ?_
 refine AW2_block ?_
 refine as2 [(5, .c (.own 5 ([UInt8.ofInt tag0, UInt8.ofInt (parts1.length : Int)] : List UInt8).length 1)), (14, .p (AV.lists parts1)), (15, .i (parts1.length : Int)), (16, .i (0 : Int))] [(5, .pure (bcells ([UInt8.ofInt tag0, UInt8.ofInt (parts1.length : Int)] : List UInt8)))] Y Y Y ?_
 refine bindK H fun y'5 h6 H => ?_
 refine AW2_loopO (fun a'2 : Int × (List UInt8) => (⟨[(5, .c (.own 5 a'2.2.length 1)), (14, .p (AV.lists parts1)), (15, .i (parts1.length : Int)), (16, .i a'2.1)], [(5, .pure (bcells a'2.2))], 29⟩ : TS)) (fun (y'3 : ((List UInt8))) e s' => e = Go.Exit.exit 0 ∧ s' = (⟨[(5, .c (.own 5 y'3.length 1))], [(5, .pure (bcells y'3))], 29⟩ : TS)) h6 Y (fun a x hx => ?_) (fun e s' hs => ?_)
 ·clear H
  obtain ⟨t16_0, out5_0⟩ := a
  have H := hx
  clear hx
  unfold g_oracle_frame_l0 at H
  refine sg [0] Y ?_
  refine rp Y Y (p_bin Y Y Y Y) ?_
  refine rz [(5, .c (.own 5 out5_0.length 1)), (14, .p (AV.lists parts1)), (15, .i (parts1.length : Int)), (16, .i t16_0), (17, .b (decide (t16_0 < (parts1.length : Int))))] [(5, .pure (bcells out5_0))] Y Y Y ?_
  refine AW2_seq ?_
  refine AW2_if (p := t16_0 < (parts1.length : Int)) Y (fun h1 => ?_) (fun h1 => ?_)
  ·replace H := ite_then h1 H
   refine as2 [(5, .c (.own 5 out5_0.length 1)), (14, .p (AV.lists parts1)), (15, .i (parts1.length : Int)), (16, .i t16_0)] [(5, .pure (bcells out5_0))] Y Y Y ?_
   refine AW2_skip ?_
   refine AW2_seq ?_
   refine AW2_block ?_
   refine sg [0, 1, 2] Y ?_
   refine chkK H fun h2 H => ?_
   refine rp Y Y (u_ixl Y Y Tryd.underlying24 in_27 Y Y (ixe h2) (ixn h2) (lne (ixn h2))) ?_
   refine rp Y Y (u_ld Y Y Tryd.underlying27 Y Y (Sub.map default (ixn h2))) ?_
   refine rp Y Y (p_asg Y Y) ?_
   refine rz [(5, .c (.own 5 out5_0.length 1)), (7, .y (lrd parts1 t16_0.toNat)), (14, .p (AV.lists parts1)), (15, .i (parts1.length : Int)), (16, .i t16_0)] [(5, .pure (bcells out5_0))] Y Y Y ?_
   refine AW2_reg [0, 1, 2, 3, 4, 5, 6, 7] Y ?_
   refine rp Y Y (p_move Y Y) ?_
   refine rp Y Y (p_move Y Y) ?_
   refine rp Y Y (p_lenl Y Tryd.underlying27 Y Y) ?_
   refine bindK H fun r'1 h3 H => ?_
   refine rp Y Y (p_callp Y Y Y Tryd.func53 Y Y (g_oracle_four_ac h3) ⟨Y, trivial⟩) ?_
   refine chkK H fun h4 H => ?_
   refine r_op Y Y (u_app [5, 20] Y Y Y Y Tryd.underlying27 Tryd.underlying27 in_5 Y Y Y (bl out5_0) (by decide) Y (bl r'1) h4 (by decide) Y Y (bapp out5_0 r'1) (lapp out5_0 r'1)) ?_
   refine rp Y Y (p_move Y Y) ?_
   refine chkK H fun h5 H => ?_
   refine r_op Y Y (u_app [24] Y Y Y Y Tryd.underlying27 Tryd.underlying27 in_5 Y Y Y (bl (out5_0 ++ r'1)) (by decide) Y (bl (lrd parts1 t16_0.toNat)) h5 (by decide) Y Y (bapp (out5_0 ++ r'1) (lrd parts1 t16_0.toNat)) (lapp (out5_0 ++ r'1) (lrd parts1 t16_0.toNat))) ?_
   refine rp Y Y (p_asg Y Y) ?_
   refine rz [(5, .c (.own 5 ((out5_0 ++ r'1) ++ (lrd parts1 t16_0.toNat)).length 1)), (14, .p (AV.lists parts1)), (15, .i (parts1.length : Int)), (16, .i t16_0)] [(5, .pure (bcells ((out5_0 ++ r'1) ++ (lrd parts1 t16_0.toNat))))] Y Y Y ?_
   refine AW2_reg [0, 1] Y ?_
   refine rp Y Y (p_bin Y Y Y Y) ?_
   refine rp Y Y (p_move Y Y) ?_
   refine rz [(5, .c (.own 5 ((out5_0 ++ r'1) ++ (lrd parts1 t16_0.toNat)).length 1)), (14, .p (AV.lists parts1)), (15, .i (parts1.length : Int)), (16, .i (w64 (t16_0 + (1 : Int))))] [(5, .pure (bcells ((out5_0 ++ r'1) ++ (lrd parts1 t16_0.toNat))))] Y Y Y ?_
   have hz := some_elim H
   subst hz
   exact ⟨Y, Y⟩
  ·replace H := ite_else h1 H
   refine as2 [(5, .c (.own 5 out5_0.length 1))] [(5, .pure (bcells out5_0))] Y Y Y ?_
   refine AW2_exit ?_
   refine thenQ2_exit ?_
   have hz := some_elim H
   subst hz
   exact ⟨Y, Y⟩
 ·obtain ⟨rfl, rfl⟩ := hs
  refine ⟨by simp, ?_⟩
  refine blockQ2_exit ?_
  refine sg [0, 1] Y ?_
  refine rp Y Y (p_move Y Y) ?_
  refine rp Y Y (p_asg Y Y) ?_
  refine rs [(4, .c (.own 5 y'5.length 1))] [(5, .pure (bcells y'5))] Y Y Y ?_
  refine RunW_gho (Gho_ren 5 4 Y Y Y Y Y) ?_
  refine rz [(4, .c (.own 4 y'5.length 1))] [(4, .pure (bcells y'5))] Y Y Y ?_
  refine as2 [(4, .c (.own 4 y'5.length 1))] [(4, .pure (bcells y'5))] Y Y Y ?_
  refine AW2_ret ?_
  have hz := some_elim H
  subst hz
  exact ⟨⟨res_tmp (.same _), trivial⟩, ⟨Y, trivial⟩⟩
theorem g_oracle_frame_ac {tag0 : Int} {parts1 : List (List UInt8)} {r : (List UInt8)} (H : g_oracle_frame tag0 parts1 = some r) : ACp Tryd.prog 44 [(AV.int tag0), (AV.lists parts1)] (AV.bytes r) := ACp_pub (g_oracle_frame_ac2 H) (fun _ _ hm => lent_own hm rfl (bl r) (by decide))

/-! oracle.Frame -/
noncomputable def g_oracle_Frame_l0 (parts1 : List (List UInt8)) : Int × Int → Option ((Int × Int) ⊕ (((List UInt8) × Int) ⊕ Int))
  | (all6_0, t20_0) => (if t20_0 < (parts1.length : Int) then if 0 ≤ t20_0 ∧ t20_0 < (parts1.length : Int) then (if ((lrd parts1 t20_0.toNat).length : Int) > (16777216 : Int) then some (.inr (.inl ([], (1 : Int)))) else letO (w64 (all6_0 + (w64 ((4 : Int) + ((lrd parts1 t20_0.toNat).length : Int))))) fun all6'1 => some (.inl (all6'1, w64 (t20_0 + (1 : Int))))) else none else some (.inr (.inr all6_0)))
noncomputable def g_oracle_Frame (tag0 : Int) (parts1 : List (List UInt8)) : Option ((List UInt8) × Int) :=
  (if (tag0 < (1 : Int)) ∨ (tag0 > (9 : Int)) then some ([], (6 : Int)) else (if (parts1.length : Int) > (8 : Int) then some ([], (1 : Int)) else (loopO (g_oracle_Frame_l0 parts1) ((2 : Int), (0 : Int))).bind fun o'5 => match o'5 with | .inl y'6 => some y'6 | .inr (y'7) => (if y'7 > (16777216 : Int) then some ([], (1 : Int)) else (g_oracle_frame tag0 parts1).bind fun r'8 => some (r'8, (0 : Int)))))
set_option maxHeartbeats 4000000 in
set_option maxRecDepth 100000 in
theorem g_oracle_Frame_ac {tag0 : Int} {parts1 : List (List UInt8)} {r : (List UInt8) × Int} (H : g_oracle_Frame tag0 parts1 = some r) : ACp Tryd.prog 38 [(AV.int tag0), (AV.lists parts1)] (.tup [(AV.bytes r.1), (AV.int r.2)]) := by
 refine ACp_of (AC2_of_body (vs := [.y r.1, .i r.2]) Tryd.func38 Y Y (Nat.le_of_ble_eq_true Y) Y ?_) (fun _ => .same _)
 unfold g_oracle_Frame at H
 refine as2 [(0, .i tag0), (1, .p (AV.lists parts1))] [] Y Y Y ?_
 refine sg [0, 1] Y ?_
 refine rp Y Y (p_asgn Y) ?_
 refine rp Y Y (p_asg Y Y) ?_
 refine rz [(0, .i tag0), (1, .p (AV.lists parts1))] [] Y Y Y ?_
 refine AW2_seq ?_
 refine AW2_seq ?_
 refine AW2_mid (⟨[(0, .i tag0), (1, .p (AV.lists parts1)), (14, .b (decide ((tag0 < (1 : Int)) ∨ (tag0 > (9 : Int)))))], [], 38⟩ : TS) ?_ ?_
 ·refine AW2_reg [0, 1, 2, 3, 4, 5] Y ?_
  refine rp Y Y (p_move Y Y) ?_
  refine rp Y Y (p_bin Y Y Y Y) ?_
  refine rp Y Y (p_move Y Y) ?_
  refine (Classical.em (tag0 < (1 : Int))).elim (fun h1 => ?_) (fun h1 => ?_)
  ·refine r_off Y Y Y Y (dT h1) Y Y ?_
   refine r_off Y Y Y Y (dT h1) Y Y ?_
   refine rp Y Y (p_pkt Y Y (dT h1) (tb (dT (p := (tag0 < (1 : Int)) ∨ (tag0 > (9 : Int))) (Or.inl h1)).symm)) ?_
   refine rs [(0, .i tag0), (1, .p (AV.lists parts1)), (14, .b (decide ((tag0 < (1 : Int)) ∨ (tag0 > (9 : Int)))))] [] Y Y Y ?_
   exact RunW_nil rfl
  ·refine r_on Y Y Y Y (dF h1) Y (PureD.opD (p_move Y Y)) ?_
   refine r_on Y Y Y Y (dF h1) Y (PureD.opD (p_bin Y Y Y Y)) ?_
   refine rp Y Y (p_pkf Y Y (dF h1) (tb ((or_l (p := tag0 < (1 : Int)) (q := tag0 > (9 : Int)) h1)))) ?_
   refine rs [(0, .i tag0), (1, .p (AV.lists parts1)), (14, .b (decide ((tag0 < (1 : Int)) ∨ (tag0 > (9 : Int)))))] [] Y Y Y ?_
   exact RunW_nil rfl
 ·refine AW2_if (p := (tag0 < (1 : Int)) ∨ (tag0 > (9 : Int))) Y (fun h2 => ?_) (fun h2 => ?_)
  ·replace H := ite_then h2 H
   refine sg [0, 1] Y ?_
   refine rp Y Y (p_asgn Y) ?_
   refine rp Y Y (p_asg Y Y) ?_
   refine rz [(4, .p .nil), (5, .i (6 : Int))] [] Y Y Y ?_
   refine AW2_ret ?_
   have hz := some_elim H
   subst hz
   exact ⟨⟨res_tmp TLes.nil0, res_tmp (.same _), trivial⟩, trivial⟩
  ·replace H := ite_else h2 H
   refine as2 [(0, .i tag0), (1, .p (AV.lists parts1))] [] Y Y Y ?_
   refine AW2_skip ?_
   refine AW2_seq ?_
   refine sg [0, 1, 2] Y ?_
   refine rp Y Y (p_move Y Y) ?_
   refine rp Y Y (p_lenl Y Tryd.underlying24 Y Y) ?_
   refine rp Y Y (p_bin Y Y Y Y) ?_
   refine rz [(0, .i tag0), (1, .p (AV.lists parts1)), (17, .b (decide ((parts1.length : Int) > (8 : Int))))] [] Y Y Y ?_
   refine AW2_if (p := (parts1.length : Int) > (8 : Int)) Y (fun h3 => ?_) (fun h3 => ?_)
   ·replace H := ite_then h3 H
    refine sg [0, 1] Y ?_
    refine rp Y Y (p_asgn Y) ?_
    refine rp Y Y (p_asg Y Y) ?_
    refine rz [(4, .p .nil), (5, .i (1 : Int))] [] Y Y Y ?_
    refine AW2_ret ?_
    have hz := some_elim H
    subst hz
    exact ⟨⟨res_tmp TLes.nil0, res_tmp (.same _), trivial⟩, trivial⟩
   ·replace H := ite_else h3 H
    refine as2 [(0, .i tag0), (1, .p (AV.lists parts1))] [] Y Y Y ?_
    refine AW2_skip ?_
    refine sg [0] Y ?_
    refine rp Y Y (p_asg Y Y) ?_
    refine rz [(0, .i tag0), (1, .p (AV.lists parts1)), (6, .i (2 : Int))] [] Y Y Y ?_
    refine AW2_seq ?_
    refine sg [0, 1, 2] Y ?_
    refine rp Y Y (p_move Y Y) ?_
    refine rp Y Y (p_lenl Y Tryd.underlying24 Y Y) ?_
    refine rp Y Y (p_move Y Y) ?_
    refine rz [(0, .i tag0), (1, .p (AV.lists parts1)), (6, .i (2 : Int)), (18, .p (AV.lists parts1)), (19, .i (parts1.length : Int)), (20, .i (0 : Int))] [] Y Y Y ?_
    refine AW2_block ?_
    refine as2 [(0, .i tag0), (1, .p (AV.lists parts1)), (6, .i (2 : Int)), (18, .p (AV.lists parts1)), (19, .i (parts1.length : Int)), (20, .i (0 : Int))] [] Y Y Y ?_
    refine bindK H fun o'5 h7 H => ?_
    refine AW2_loopO (fun a'2 : Int × Int => (⟨[(0, .i tag0), (1, .p (AV.lists parts1)), (6, .i a'2.1), (18, .p (AV.lists parts1)), (19, .i (parts1.length : Int)), (20, .i a'2.2)], [], 38⟩ : TS)) (fun (o : ((List UInt8) × Int) ⊕ Int) e s' => match o with | .inl y'3 => e = Go.Exit.ret ∧ ResAll Tryd.prog s' [ResultVar.tmp 4, ResultVar.tmp 5] [.y y'3.1, .i y'3.2] ∧ HFits s' [] | .inr (y'4) => e = Go.Exit.exit 0 ∧ s' = (⟨[(0, .i tag0), (1, .p (AV.lists parts1)), (6, .i y'4)], [], 38⟩ : TS)) h7 Y (fun a x hx => ?_) (fun e s' hs => ?_)
    ·clear H
     obtain ⟨all6_0, t20_0⟩ := a
     have H := hx
     clear hx
     unfold g_oracle_Frame_l0 at H
     refine sg [0] Y ?_
     refine rp Y Y (p_bin Y Y Y Y) ?_
     refine rz [(0, .i tag0), (1, .p (AV.lists parts1)), (6, .i all6_0), (18, .p (AV.lists parts1)), (19, .i (parts1.length : Int)), (20, .i t20_0), (21, .b (decide (t20_0 < (parts1.length : Int))))] [] Y Y Y ?_
     refine AW2_seq ?_
     refine AW2_if (p := t20_0 < (parts1.length : Int)) Y (fun h4 => ?_) (fun h4 => ?_)
     ·replace H := ite_then h4 H
      refine as2 [(0, .i tag0), (1, .p (AV.lists parts1)), (6, .i all6_0), (18, .p (AV.lists parts1)), (19, .i (parts1.length : Int)), (20, .i t20_0)] [] Y Y Y ?_
      refine AW2_skip ?_
      refine AW2_seq ?_
      refine AW2_block ?_
      refine sg [0, 1, 2] Y ?_
      refine chkK H fun h5 H => ?_
      refine rp Y Y (u_ixl Y Y Tryd.underlying24 in_27 Y Y (ixe h5) (ixn h5) (lne (ixn h5))) ?_
      refine rp Y Y (u_ld Y Y Tryd.underlying27 Y Y (Sub.map default (ixn h5))) ?_
      refine rp Y Y (p_asg Y Y) ?_
      refine rz [(0, .i tag0), (1, .p (AV.lists parts1)), (6, .i all6_0), (8, .y (lrd parts1 t20_0.toNat)), (18, .p (AV.lists parts1)), (19, .i (parts1.length : Int)), (20, .i t20_0)] [] Y Y Y ?_
      refine AW2_seq ?_
      refine sg [0, 1, 2] Y ?_
      refine rp Y Y (p_move Y Y) ?_
      refine rp Y Y (p_lenl Y Tryd.underlying27 Y Y) ?_
      refine rp Y Y (p_bin Y Y Y Y) ?_
      refine rz [(0, .i tag0), (1, .p (AV.lists parts1)), (6, .i all6_0), (8, .y (lrd parts1 t20_0.toNat)), (18, .p (AV.lists parts1)), (19, .i (parts1.length : Int)), (20, .i t20_0), (26, .b (decide (((lrd parts1 t20_0.toNat).length : Int) > (16777216 : Int))))] [] Y Y Y ?_
      refine AW2_if (p := ((lrd parts1 t20_0.toNat).length : Int) > (16777216 : Int)) Y (fun h6 => ?_) (fun h6 => ?_)
      ·replace H := ite_then h6 H
       refine sg [0, 1] Y ?_
       refine rp Y Y (p_asgn Y) ?_
       refine rp Y Y (p_asg Y Y) ?_
       refine rz [(4, .p .nil), (5, .i (1 : Int))] [] Y Y Y ?_
       refine AW2_ret ?_
       have hz := some_elim H
       subst hz
       exact ⟨Y, ⟨res_tmp TLes.nil0, res_tmp (.same _), trivial⟩, trivial⟩
      ·replace H := ite_else h6 H
       refine as2 [(0, .i tag0), (1, .p (AV.lists parts1)), (6, .i all6_0), (8, .y (lrd parts1 t20_0.toNat)), (18, .p (AV.lists parts1)), (19, .i (parts1.length : Int)), (20, .i t20_0)] [] Y Y Y ?_
       refine AW2_skip ?_
       refine AW2_reg [0, 1, 2, 3, 4, 5] Y ?_
       refine rp Y Y (p_move Y Y) ?_
       refine rp Y Y (p_move Y Y) ?_
       refine rp Y Y (p_lenl Y Tryd.underlying27 Y Y) ?_
       refine rp Y Y (p_bin Y Y Y Y) ?_
       refine rp Y Y (p_bin Y Y Y Y) ?_
       refine rp Y Y (p_asg Y Y) ?_
       refine rz [(0, .i tag0), (1, .p (AV.lists parts1)), (6, .i (w64 (all6_0 + (w64 ((4 : Int) + ((lrd parts1 t20_0.toNat).length : Int)))))), (18, .p (AV.lists parts1)), (19, .i (parts1.length : Int)), (20, .i t20_0)] [] Y Y Y ?_
       refine gen1 (fun all6'1 => (⟨[(0, .i tag0), (1, .p (AV.lists parts1)), (6, .i all6'1), (18, .p (AV.lists parts1)), (19, .i (parts1.length : Int)), (20, .i t20_0)], [], 38⟩ : TS)) H ?_
       intro all6'1 H
       refine AW2_reg [0, 1] Y ?_
       refine rp Y Y (p_bin Y Y Y Y) ?_
       refine rp Y Y (p_move Y Y) ?_
       refine rz [(0, .i tag0), (1, .p (AV.lists parts1)), (6, .i all6'1), (18, .p (AV.lists parts1)), (19, .i (parts1.length : Int)), (20, .i (w64 (t20_0 + (1 : Int))))] [] Y Y Y ?_
       have hz := some_elim H
       subst hz
       exact ⟨Y, Y⟩
     ·replace H := ite_else h4 H
      refine as2 [(0, .i tag0), (1, .p (AV.lists parts1)), (6, .i all6_0)] [] Y Y Y ?_
      refine AW2_exit ?_
      refine thenQ2_exit ?_
      have hz := some_elim H
      subst hz
      exact ⟨Y, Y⟩
    ·rcases o'5 with y'6 | y'7
     ·obtain ⟨rfl, hs⟩ := hs
      refine ⟨by simp, ?_⟩
      have hz := some_elim H
      subst hz
      exact ⟨hs.1, hs.2⟩
     ·obtain ⟨rfl, rfl⟩ := hs
      refine ⟨by simp, ?_⟩
      refine blockQ2_exit ?_
      refine AW2_seq ?_
      refine sg [0, 1] Y ?_
      refine rp Y Y (p_move Y Y) ?_
      refine rp Y Y (p_bin Y Y Y Y) ?_
      refine rz [(0, .i tag0), (1, .p (AV.lists parts1)), (34, .b (decide (y'7 > (16777216 : Int))))] [] Y Y Y ?_
      refine AW2_if (p := y'7 > (16777216 : Int)) Y (fun h8 => ?_) (fun h8 => ?_)
      ·replace H := ite_then h8 H
       refine sg [0, 1] Y ?_
       refine rp Y Y (p_asgn Y) ?_
       refine rp Y Y (p_asg Y Y) ?_
       refine rz [(4, .p .nil), (5, .i (1 : Int))] [] Y Y Y ?_
       refine AW2_ret ?_
       have hz := some_elim H
       subst hz
       exact ⟨⟨res_tmp TLes.nil0, res_tmp (.same _), trivial⟩, trivial⟩
      ·replace H := ite_else h8 H
       refine as2 [(0, .i tag0), (1, .p (AV.lists parts1))] [] Y Y Y ?_
       refine AW2_skip ?_
       refine sg [0, 1, 2, 3, 4] Y ?_
       refine rp Y Y (p_move Y Y) ?_
       refine rp Y Y (p_move Y Y) ?_
       refine bindK H fun r'8 h9 H => ?_
       refine rp Y Y (p_callp Y Y Y Tryd.func44 Y Y (g_oracle_frame_ac h9) ⟨Y, Y, trivial⟩) ?_
       refine rp Y Y (p_asg Y Y) ?_
       refine rp Y Y (p_asg Y Y) ?_
       refine rz [(4, .y r'8), (5, .i (0 : Int))] [] Y Y Y ?_
       refine AW2_ret ?_
       have hz := some_elim H
       subst hz
       exact ⟨⟨res_tmp (.same _), res_tmp (.same _), trivial⟩, trivial⟩

/-! sum.Begin -/
noncomputable def g_sum_Begin : Option (GStream) :=
  letO ({ GStream.zero with H := #v[(1779033703 : UInt32), (3144134277 : UInt32), (1013904242 : UInt32), (2773480762 : UInt32), (1359893119 : UInt32), (2600822924 : UInt32), (528734635 : UInt32), (1541459225 : UInt32)] }) fun t0'1 => some t0'1
set_option maxHeartbeats 4000000 in
set_option maxRecDepth 100000 in
theorem g_sum_Begin_ac {r : GStream} (H : g_sum_Begin = some r) : ACp Tryd.prog 47 [] (.agg (GStream.cs r)) := by
 refine ACp_of (AC2_of_body (vs := [.g (GStream.cs r)]) Tryd.func47 Y Y (Nat.le_of_ble_eq_true Y) Y ?_) (fun _ => .same _)
 unfold g_sum_Begin at H
 refine as2 [] [] Y Y Y ?_
 refine sg [0] Y ?_
 refine r_op Y Y (MakeD.opD (u_alloc 0 Y in_70 one_70 zc_70) Y Y Y Y) ?_
 refine rz [(0, .q 0 (0))] [(0, .pure (GStream.cs GStream.zero))] Y Y Y ?_
 refine sg [0, 1, 2] Y ?_
 refine rp Y Y (u_blda Y in_67 one_67 Y Tryd.underlying67 in_66 Y Y) ?_
 refine rp Y Y (u_bld Y in_70 one_70 zc_70 pl_70 Y (af_cons Y (vmap_len (f := AV.u32) (#v[(1779033703 : UInt32), (3144134277 : UInt32), (1013904242 : UInt32), (2773480762 : UInt32), (1359893119 : UInt32), (2600822924 : UInt32), (528734635 : UInt32), (1541459225 : UInt32)])) (GStream.upd0 GStream.zero (#v[(1779033703 : UInt32), (3144134277 : UInt32), (1013904242 : UInt32), (2773480762 : UInt32), (1359893119 : UInt32), (2600822924 : UInt32), (528734635 : UInt32), (1541459225 : UInt32)])) Y)) ?_
 refine r_op Y Y (u_st Y Y Y Y Y in_70 (GStream.len ((GStream.w0 GStream.zero (#v[(1779033703 : UInt32), (3144134277 : UInt32), (1013904242 : UInt32), (2773480762 : UInt32), (1359893119 : UInt32), (2600822924 : UInt32), (528734635 : UInt32), (1541459225 : UInt32)])))) (nl (GStream.len GStream.zero)) (Upd.refl ((GStream.len ((GStream.w0 GStream.zero (#v[(1779033703 : UInt32), (3144134277 : UInt32), (1013904242 : UInt32), (2773480762 : UInt32), (1359893119 : UInt32), (2600822924 : UInt32), (528734635 : UInt32), (1541459225 : UInt32)])))).trans (GStream.len GStream.zero).symm))) ?_
 refine rz [(0, .q 0 (0))] [(0, .pure (GStream.cs ((GStream.w0 GStream.zero (#v[(1779033703 : UInt32), (3144134277 : UInt32), (1013904242 : UInt32), (2773480762 : UInt32), (1359893119 : UInt32), (2600822924 : UInt32), (528734635 : UInt32), (1541459225 : UInt32)])))))] Y Y Y ?_
 refine gen1 (fun t0'1 => (⟨[(0, .q 0 (0))], [(0, .pure (GStream.cs t0'1))], 3⟩ : TS)) H ?_
 intro t0'1 H
 refine AW2_ret ?_
 have hz := some_elim H
 subst hz
 exact ⟨⟨res_cella Tryd.underlying70 Y in_70.sz Y (Sub.le (Sub.refl _) (GStream.len t0'1)) (by decide) (Sub.take (Sub.refl _) (GStream.len t0'1)), trivial⟩, trivial⟩

/-! bits.RotateLeft32 -/
noncomputable def g_bits_RotateLeft32 (x0 : UInt32) (k1 : Int) : Option (UInt32) :=
  letO ((shl_u32 x0 (((UInt64.ofInt k1) &&& (31 : UInt64)).toNat)) ||| (shr_u32 x0 (((32 : UInt64) - ((UInt64.ofInt k1) &&& (31 : UInt64))).toNat))) fun t4'1 => some t4'1
set_option maxHeartbeats 4000000 in
set_option maxRecDepth 100000 in
theorem g_bits_RotateLeft32_ac {x0 : UInt32} {k1 : Int} {r : UInt32} (H : g_bits_RotateLeft32 x0 k1 = some r) : ACp Tryd.prog 56 [(AV.u32 x0), (AV.int k1)] (AV.u32 r) := by
 refine ACp_of (AC2_of_body (vs := [.p (AV.u32 r)]) Tryd.func56 Y Y (Nat.le_of_ble_eq_true Y) Y ?_) (fun _ => .same _)
 unfold g_bits_RotateLeft32 at H
 refine as2 [(0, .p (AV.u32 x0)), (1, .i k1)] [] Y Y Y ?_
 refine sg [0] Y ?_
 refine rp Y Y (p_asg Y Y) ?_
 refine rz [(0, .p (AV.u32 x0)), (1, .i k1)] [] Y Y Y ?_
 refine sg [0, 1, 2, 3] Y ?_
 refine rp Y Y (p_move Y Y) ?_
 refine rp Y Y (p_i_u64 Y Tryd.underlying3 Tryd.underlying85 Y) ?_
 refine rp Y Y (p_u64and (a := UInt64.ofInt k1) (b := (31 : UInt64)) Y Y Y) ?_
 refine rp Y Y (p_asg Y Y) ?_
 refine rz [(0, .p (AV.u32 x0)), (5, .p (AV.u64 ((UInt64.ofInt k1) &&& (31 : UInt64))))] [] Y Y Y ?_
 refine sg [0, 1, 2, 3, 4, 5, 6, 7, 8] Y ?_
 refine rp Y Y (p_move Y Y) ?_
 refine rp Y Y (p_move Y Y) ?_
 refine rp Y Y (p_u32shl (n := ((UInt64.ofInt k1) &&& (31 : UInt64)).toNat) Y Y Y Y) ?_
 refine rp Y Y (p_move Y Y) ?_
 refine rp Y Y (p_move Y Y) ?_
 refine rp Y Y (p_u64sub (a := (32 : UInt64)) (b := (UInt64.ofInt k1) &&& (31 : UInt64)) Y Y Y) ?_
 refine rp Y Y (p_u32shr (n := ((32 : UInt64) - ((UInt64.ofInt k1) &&& (31 : UInt64))).toNat) Y Y Y Y) ?_
 refine rp Y Y (p_u32or (a := shl_u32 x0 (((UInt64.ofInt k1) &&& (31 : UInt64)).toNat)) (b := shr_u32 x0 (((32 : UInt64) - ((UInt64.ofInt k1) &&& (31 : UInt64))).toNat)) Y Y Y) ?_
 refine rp Y Y (p_asg Y Y) ?_
 refine rz [(4, .p (AV.u32 ((shl_u32 x0 (((UInt64.ofInt k1) &&& (31 : UInt64)).toNat)) ||| (shr_u32 x0 (((32 : UInt64) - ((UInt64.ofInt k1) &&& (31 : UInt64))).toNat)))))] [] Y Y Y ?_
 refine gen1 (fun t4'1 => (⟨[(4, .p (AV.u32 t4'1))], [], 17⟩ : TS)) H ?_
 intro t4'1 H
 refine AW2_ret ?_
 have hz := some_elim H
 subst hz
 exact ⟨⟨res_tmp (.same _), trivial⟩, trivial⟩

/-! sum.turn -/
def g_sum_turn_r5 : List (List (Nat × Option Nat)) := [[(6, none)], [(6, none)], [(24, some 1)], [(3, none), (25, some 2)], [(26, some 3)], [(27, some 4)], [(28, some 5)], [(6, none)], [(30, some 7)], [(31, some 8)], [(3, none), (32, some 9)], [(33, some 10)], [(34, some 11)], [(35, some 12)], [(29, some 6), (36, some 13)], [(6, none)], [(38, some 15)], [(39, some 16)], [(3, none), (40, some 17)], [(41, some 18)], [(42, some 19)], [(43, some 20)], [(37, some 14), (44, some 21)], [(6, none)], [(46, some 23)], [(47, some 24)], [(3, none), (48, some 25)], [(49, some 26)], [(50, some 27)], [(45, some 22), (51, some 28)]]
def g_sum_turn_r5c : List (List Nat) := [[], [], [1], [1, 2], [1, 2, 3], [1, 2, 3, 4], [1, 2, 3, 4, 5], [], [7], [7, 8], [7, 8, 9], [7, 8, 9, 10], [7, 8, 9, 10, 11], [7, 8, 9, 10, 11, 12], [1, 2, 3, 4, 5, 6, 7, 8, 9, 10, 11, 12, 13], [], [15], [15, 16], [15, 16, 17], [15, 16, 17, 18], [15, 16, 17, 18, 19], [15, 16, 17, 18, 19, 20], [1, 2, 3, 4, 5, 6, 7, 8, 9, 10, 11, 12, 13, 14, 15, 16, 17, 18, 19, 20, 21], [], [23], [23, 24], [23, 24, 25], [23, 24, 25, 26], [23, 24, 25, 26, 27], [1, 2, 3, 4, 5, 6, 7, 8, 9, 10, 11, 12, 13, 14, 15, 16, 17, 18, 19, 20, 21, 22, 23, 24, 25, 26, 27, 28], [0, 1, 2, 3, 4, 5, 6, 7, 8, 9, 10, 11, 12, 13, 14, 15, 16, 17, 18, 19, 20, 21, 22, 23, 24, 25, 26, 27, 28, 29], [0, 1, 2, 3, 4, 5, 6, 7, 8, 9, 10, 11, 12, 13, 14, 15, 16, 17, 18, 19, 20, 21, 22, 23, 24, 25, 26, 27, 28, 29, 30]]
def g_sum_turn_r10 : List (List (Nat × Option Nat)) := [[(7, none)], [(59, some 0)], [(5, none), (60, some 1)], [(61, some 2)], [(7, none)], [(63, some 4)], [(5, none), (64, some 5)], [(65, some 6)], [(62, some 3)]]
def g_sum_turn_r10c : List (List Nat) := [[], [0], [0, 1], [0, 1, 2], [], [4], [4, 5], [4, 5, 6], [0, 1, 2, 3], [0, 1, 2, 3, 4, 5, 6, 7, 8]]
def g_sum_turn_r13 : List (List (Nat × Option Nat)) := [[(7, none)], [(7, none)], [(84, some 1)], [(5, none), (85, some 2)], [(86, some 3)], [(10, none)], [(87, some 4), (88, some 5)], [(7, none)], [(90, some 7)], [(5, none), (91, some 8)], [(92, some 9)], [(89, some 6), (93, some 10)], [(11, none)], [(94, some 11), (95, some 12)]]
def g_sum_turn_r13c : List (List Nat) := [[], [], [1], [1, 2], [1, 2, 3], [], [1, 2, 3, 4, 5], [], [7], [7, 8], [7, 8, 9], [1, 2, 3, 4, 5, 6, 7, 8, 9, 10], [], [1, 2, 3, 4, 5, 6, 7, 8, 9, 10, 11, 12], [0, 1, 2, 3, 4, 5, 6, 7, 8, 9, 10, 11, 12, 13], [0, 1, 2, 3, 4, 5, 6, 7, 8, 9, 10, 11, 12, 13, 14]]
def g_sum_turn_r18 : List (List (Nat × Option Nat)) := [[(12, none)], [(102, some 0)], [(12, none)], [(104, some 2)], [(103, some 1)]]
def g_sum_turn_r18c : List (List Nat) := [[], [0], [], [2], [0, 1], [0, 1, 2, 3, 4]]
def g_sum_turn_r20 : List (List (Nat × Option Nat)) := [[(12, none)], [(114, some 0)], [(16, none)], [(115, some 1), (116, some 2)], [(14, none)], [(12, none)], [(119, some 5)], [(118, some 4), (120, some 6)], [(14, none)], [(122, some 8)], [(12, none)], [(124, some 10)], [(123, some 9), (125, some 11)], [(121, some 7), (126, some 12)], [(117, some 3), (127, some 13)], [(13, none)], [(129, some 15)], [(130, some 16)], [(128, some 14), (131, some 17)], [(13, none)], [(5, none), (133, some 19)], [(134, some 20)]]
def g_sum_turn_r20c : List (List Nat) := [[], [0], [], [0, 1, 2], [], [], [5], [4, 5, 6], [], [8], [], [10], [8, 9, 10, 11], [4, 5, 6, 7, 8, 9, 10, 11, 12], [0, 1, 2, 3, 4, 5, 6, 7, 8, 9, 10, 11, 12, 13], [], [15], [15, 16], [0, 1, 2, 3, 4, 5, 6, 7, 8, 9, 10, 11, 12, 13, 14, 15, 16, 17], [], [19], [19, 20], [0, 1, 2, 3, 4, 5, 6, 7, 8, 9, 10, 11, 12, 13, 14, 15, 16, 17, 18, 19, 20, 21], [0, 1, 2, 3, 4, 5, 6, 7, 8, 9, 10, 11, 12, 13, 14, 15, 16, 17, 18, 19, 20, 21, 22]]
def g_sum_turn_r28 : List (List (Nat × Option Nat)) := [[(19, none)], [(12, none), (184, some 0)], [(185, some 1)], [(19, none)], [(2, none), (187, some 3)], [(188, some 4)]]
def g_sum_turn_r28c : List (List Nat) := [[], [0], [0, 1], [], [3], [3, 4], [0, 1, 2, 3, 4, 5], [0, 1, 2, 3, 4, 5, 6], [0, 1, 2, 3, 4, 5, 6, 7]]
noncomputable def g_sum_turn_l0 (b1 : Vector UInt8 64) : Int × (Vector UInt32 64) → Option ((Int × (Vector UInt32 64)) ⊕ (((Vector UInt32 64))))
  | (t20_0, w5_0) => (if t20_0 < (16 : Int) then if 0 ≤ w64 ((4 : Int) * t20_0) ∧ w64 ((4 : Int) * t20_0) < (64 : Int) then if 0 ≤ w64 ((w64 ((4 : Int) * t20_0)) + (1 : Int)) ∧ w64 ((w64 ((4 : Int) * t20_0)) + (1 : Int)) < (64 : Int) then if 0 ≤ w64 ((w64 ((4 : Int) * t20_0)) + (2 : Int)) ∧ w64 ((w64 ((4 : Int) * t20_0)) + (2 : Int)) < (64 : Int) then if 0 ≤ w64 ((w64 ((4 : Int) * t20_0)) + (3 : Int)) ∧ w64 ((w64 ((4 : Int) * t20_0)) + (3 : Int)) < (64 : Int) then if 0 ≤ t20_0 ∧ t20_0 < (64 : Int) then letO ((vwr w5_0 t20_0.toNat ((((shl_u32 ((vrd b1 ((w64 ((4 : Int) * t20_0)).toNat)).toUInt32) 24) ||| (shl_u32 ((vrd b1 ((w64 ((w64 ((4 : Int) * t20_0)) + (1 : Int))).toNat)).toUInt32) 16)) ||| (shl_u32 ((vrd b1 ((w64 ((w64 ((4 : Int) * t20_0)) + (2 : Int))).toNat)).toUInt32) 8)) ||| ((vrd b1 ((w64 ((w64 ((4 : Int) * t20_0)) + (3 : Int))).toNat)).toUInt32)))) fun w5'1 => some (.inl (w64 (t20_0 + (1 : Int)), w5'1)) else none else none else none else none else none else some (.inr w5_0))
noncomputable def g_sum_turn_l1 : Int × (Vector UInt32 64) → Option ((Int × (Vector UInt32 64)) ⊕ (((Vector UInt32 64))))
  | (i7_1, w5_1) => (if i7_1 < (64 : Int) then if 0 ≤ w64 (i7_1 - (15 : Int)) ∧ w64 (i7_1 - (15 : Int)) < (64 : Int) then if 0 ≤ w64 (i7_1 - (2 : Int)) ∧ w64 (i7_1 - (2 : Int)) < (64 : Int) then (g_bits_RotateLeft32 (vrd w5_1 ((w64 (i7_1 - (15 : Int))).toNat)) (-7 : Int)).bind fun r'6 => (g_bits_RotateLeft32 (vrd w5_1 ((w64 (i7_1 - (15 : Int))).toNat)) (-18 : Int)).bind fun r'7 => letO ((r'6 ^^^ r'7) ^^^ (shr_u32 (vrd w5_1 ((w64 (i7_1 - (15 : Int))).toNat)) 3)) fun s10'8 => (g_bits_RotateLeft32 (vrd w5_1 ((w64 (i7_1 - (2 : Int))).toNat)) (-17 : Int)).bind fun r'9 => (g_bits_RotateLeft32 (vrd w5_1 ((w64 (i7_1 - (2 : Int))).toNat)) (-19 : Int)).bind fun r'10 => letO ((r'9 ^^^ r'10) ^^^ (shr_u32 (vrd w5_1 ((w64 (i7_1 - (2 : Int))).toNat)) 10)) fun t11'11 => if 0 ≤ w64 (i7_1 - (16 : Int)) ∧ w64 (i7_1 - (16 : Int)) < (64 : Int) then if 0 ≤ w64 (i7_1 - (7 : Int)) ∧ w64 (i7_1 - (7 : Int)) < (64 : Int) then if 0 ≤ i7_1 ∧ i7_1 < (64 : Int) then letO ((vwr w5_1 i7_1.toNat ((((vrd w5_1 ((w64 (i7_1 - (16 : Int))).toNat)) + s10'8) + (vrd w5_1 ((w64 (i7_1 - (7 : Int))).toNat))) + t11'11))) fun w5'12 => some (.inl (w64 (i7_1 + (1 : Int)), w5'12)) else none else none else none else none else none else some (.inr w5_1))
noncomputable def g_sum_turn_l2 (y'16 : (Vector UInt32 64)) : Int × (Vector UInt32 8) → Option ((Int × (Vector UInt32 8)) ⊕ (((Vector UInt32 8))))
  | (t99_2, v12_2) => (if t99_2 < (64 : Int) then (g_bits_RotateLeft32 (vrd v12_2 4) (-6 : Int)).bind fun r'17 => (g_bits_RotateLeft32 (vrd v12_2 4) (-11 : Int)).bind fun r'18 => (g_bits_RotateLeft32 (vrd v12_2 4) (-25 : Int)).bind fun r'19 => if 0 ≤ t99_2 ∧ t99_2 < (64 : Int) then if 0 ≤ t99_2 ∧ t99_2 < (64 : Int) then letO (((((vrd v12_2 7) + ((r'17 ^^^ r'18) ^^^ r'19)) + (((vrd v12_2 4) &&& (vrd v12_2 5)) ^^^ ((~~~ (vrd v12_2 4)) &&& (vrd v12_2 6)))) + (lrd tab0 t99_2.toNat)) + (vrd y'16 t99_2.toNat)) fun t17'20 => (g_bits_RotateLeft32 (vrd v12_2 0) (-2 : Int)).bind fun r'21 => (g_bits_RotateLeft32 (vrd v12_2 0) (-13 : Int)).bind fun r'22 => (g_bits_RotateLeft32 (vrd v12_2 0) (-22 : Int)).bind fun r'23 => letO (((r'21 ^^^ r'22) ^^^ r'23) + ((((vrd v12_2 0) &&& (vrd v12_2 1)) ^^^ ((vrd v12_2 0) &&& (vrd v12_2 2))) ^^^ ((vrd v12_2 1) &&& (vrd v12_2 2)))) fun u18'24 => letO (#v[t17'20 + u18'24, (vrd v12_2 0), (vrd v12_2 1), (vrd v12_2 2), (vrd v12_2 3) + t17'20, (vrd v12_2 4), (vrd v12_2 5), (vrd v12_2 6)]) fun v12'25 => some (.inl (w64 (t99_2 + (1 : Int)), v12'25)) else none else none else some (.inr v12_2))
noncomputable def g_sum_turn_l3 (h0 : Vector UInt32 8) : Int × (Vector UInt32 8) → Option ((Int × (Vector UInt32 8)) ⊕ (((Vector UInt32 8))))
  | (t181_3, v12_3) => (if t181_3 < (8 : Int) then if 0 ≤ t181_3 ∧ t181_3 < (8 : Int) then if 0 ≤ t181_3 ∧ t181_3 < (8 : Int) then if 0 ≤ t181_3 ∧ t181_3 < (8 : Int) then letO ((vwr v12_3 t181_3.toNat ((vrd v12_3 t181_3.toNat) + (vrd h0 t181_3.toNat)))) fun v12'30 => some (.inl (w64 (t181_3 + (1 : Int)), v12'30)) else none else none else none else some (.inr v12_3))
noncomputable def g_sum_turn (h0 : Vector UInt32 8) (b1 : Vector UInt8 64) : Option ((Vector UInt32 8)) :=
  (loopO (g_sum_turn_l0 b1) ((0 : Int), (Vector.replicate 64 (0 : UInt32)))).bind fun y'5 => (loopO (g_sum_turn_l1) ((16 : Int), y'5)).bind fun y'16 => (loopO (g_sum_turn_l2 y'16) ((0 : Int), h0)).bind fun y'29 => (loopO (g_sum_turn_l3 h0) ((0 : Int), y'29)).bind fun y'34 => some y'34
set_option maxHeartbeats 4000000 in
set_option maxRecDepth 100000 in
theorem g_sum_turn_ac {h0 : Vector UInt32 8} {b1 : Vector UInt8 64} {r : (Vector UInt32 8)} (H : g_sum_turn h0 b1 = some r) : ACp Tryd.prog 54 [(.agg (h0.toList.map AV.u32)), (.agg (bcells b1.toList))] (.agg (r.toList.map AV.u32)) := by
 refine ACp_of (AC2_of_body (vs := [.g (r.toList.map AV.u32)]) Tryd.func54 Y Y (Nat.le_of_ble_eq_true Y) Y ?_) (fun _ => .same _)
 unfold g_sum_turn at H
 refine as2 [(0, .g (h0.toList.map AV.u32)), (1, .g (bcells b1.toList))] [] Y Y Y ?_
 refine sg [0, 1, 2] Y ?_
 refine r_op Y Y (MakeD.opD (n_box 2 Y Y) Y Y Y Y) ?_
 refine r_op Y Y (MakeD.opD (n_box 3 Y Y) Y Y Y Y) ?_
 refine r_op Y Y (MakeD.opD (u_alloc 4 Y in_67 one_67 zc_67) Y Y Y Y) ?_
 refine rz [(2, .q 2 (0)), (3, .q 3 (0)), (4, .q 4 (0))] [(2, .pure (h0.toList.map AV.u32)), (3, .pure (bcells b1.toList)), (4, .pure (((Vector.replicate 8 (0 : UInt32)).toList).map AV.u32))] Y Y Y ?_
 refine sg [0] Y ?_
 refine r_op Y Y (MakeD.opD (u_alloc 5 Y in_86 one_86 zc_86) Y Y Y Y) ?_
 refine rz [(2, .q 2 (0)), (3, .q 3 (0)), (4, .q 4 (0)), (5, .q 5 (0))] [(2, .pure (h0.toList.map AV.u32)), (3, .pure (bcells b1.toList)), (4, .pure (((Vector.replicate 8 (0 : UInt32)).toList).map AV.u32)), (5, .pure (((Vector.replicate 64 (0 : UInt32)).toList).map AV.u32))] Y Y Y ?_
 refine AW2_seq ?_
 refine sg [0] Y ?_
 refine rp Y Y (p_move Y Y) ?_
 refine rz [(2, .q 2 (0)), (3, .q 3 (0)), (4, .q 4 (0)), (5, .q 5 (0)), (20, .i (0 : Int))] [(2, .pure (h0.toList.map AV.u32)), (3, .pure (bcells b1.toList)), (4, .pure (((Vector.replicate 8 (0 : UInt32)).toList).map AV.u32)), (5, .pure (((Vector.replicate 64 (0 : UInt32)).toList).map AV.u32))] Y Y Y ?_
 refine AW2_block ?_
 refine as2 [(2, .q 2 (0)), (3, .q 3 (0)), (4, .q 4 (0)), (5, .q 5 (0)), (20, .i (0 : Int))] [(2, .pure (h0.toList.map AV.u32)), (3, .pure (bcells b1.toList)), (4, .pure (((Vector.replicate 8 (0 : UInt32)).toList).map AV.u32)), (5, .pure (((Vector.replicate 64 (0 : UInt32)).toList).map AV.u32))] Y Y Y ?_
 refine bindK H fun y'5 h7 H => ?_
 refine AW2_loopO (fun a'2 : Int × (Vector UInt32 64) => (⟨[(2, .q 2 (0)), (3, .q 3 (0)), (4, .q 4 (0)), (5, .q 5 (0)), (20, .i a'2.1)], [(2, .pure (h0.toList.map AV.u32)), (3, .pure (bcells b1.toList)), (4, .pure (((Vector.replicate 8 (0 : UInt32)).toList).map AV.u32)), (5, .pure (a'2.2.toList.map AV.u32))], 194⟩ : TS)) (fun (y'3 : ((Vector UInt32 64))) e s' => e = Go.Exit.exit 0 ∧ s' = (⟨[(2, .q 2 (0)), (4, .q 4 (0)), (5, .q 5 (0))], [(2, .pure (h0.toList.map AV.u32)), (4, .pure (((Vector.replicate 8 (0 : UInt32)).toList).map AV.u32)), (5, .pure (y'3.toList.map AV.u32))], 194⟩ : TS)) h7 Y (fun a x hx => ?_) (fun e s' hs => ?_)
 ·clear H
  obtain ⟨t20_0, w5_0⟩ := a
  have H := hx
  clear hx
  unfold g_sum_turn_l0 at H
  refine sg [0] Y ?_
  refine rp Y Y (p_bin Y Y Y Y) ?_
  refine rz [(2, .q 2 (0)), (3, .q 3 (0)), (4, .q 4 (0)), (5, .q 5 (0)), (20, .i t20_0), (21, .b (decide (t20_0 < (16 : Int))))] [(2, .pure (h0.toList.map AV.u32)), (3, .pure (bcells b1.toList)), (4, .pure (((Vector.replicate 8 (0 : UInt32)).toList).map AV.u32)), (5, .pure (w5_0.toList.map AV.u32))] Y Y Y ?_
  refine AW2_seq ?_
  refine AW2_if (p := t20_0 < (16 : Int)) Y (fun h1 => ?_) (fun h1 => ?_)
  ·replace H := ite_then h1 H
   refine as2 [(2, .q 2 (0)), (3, .q 3 (0)), (4, .q 4 (0)), (5, .q 5 (0)), (20, .i t20_0)] [(2, .pure (h0.toList.map AV.u32)), (3, .pure (bcells b1.toList)), (4, .pure (((Vector.replicate 8 (0 : UInt32)).toList).map AV.u32)), (5, .pure (w5_0.toList.map AV.u32))] Y Y Y ?_
   refine AW2_skip ?_
   refine AW2_seq ?_
   refine AW2_block ?_
   refine sg [0, 1] Y ?_
   refine rp Y Y (p_move Y Y) ?_
   refine rp Y Y (p_asg Y Y) ?_
   refine rz [(2, .q 2 (0)), (3, .q 3 (0)), (4, .q 4 (0)), (5, .q 5 (0)), (6, .i t20_0), (20, .i t20_0)] [(2, .pure (h0.toList.map AV.u32)), (3, .pure (bcells b1.toList)), (4, .pure (((Vector.replicate 8 (0 : UInt32)).toList).map AV.u32)), (5, .pure (w5_0.toList.map AV.u32))] Y Y Y ?_
   refine chkK H fun h2 H => ?_
   refine chkK H fun h3 H => ?_
   refine chkK H fun h4 H => ?_
   refine chkK H fun h5 H => ?_
   refine chkK H fun h6 H => ?_
   refine AW2_ghoQ ?_
   refine AW2_draw 30 [30, 31] (fun k => ([.i t20_0, .i t20_0, .i (w64 ((4 : Int) * t20_0)), .q 3 (0 + ((w64 ((4 : Int) * t20_0)).toNat) * 1), .p (AV.b8 (vrd b1 ((w64 ((4 : Int) * t20_0)).toNat))), .p (AV.u32 ((vrd b1 ((w64 ((4 : Int) * t20_0)).toNat)).toUInt32)), .p (AV.u32 (shl_u32 ((vrd b1 ((w64 ((4 : Int) * t20_0)).toNat)).toUInt32) 24)), .i t20_0, .i (w64 ((4 : Int) * t20_0)), .i (w64 ((w64 ((4 : Int) * t20_0)) + (1 : Int))), .q 3 (0 + ((w64 ((w64 ((4 : Int) * t20_0)) + (1 : Int))).toNat) * 1), .p (AV.b8 (vrd b1 ((w64 ((w64 ((4 : Int) * t20_0)) + (1 : Int))).toNat))), .p (AV.u32 ((vrd b1 ((w64 ((w64 ((4 : Int) * t20_0)) + (1 : Int))).toNat)).toUInt32)), .p (AV.u32 (shl_u32 ((vrd b1 ((w64 ((w64 ((4 : Int) * t20_0)) + (1 : Int))).toNat)).toUInt32) 16)), .p (AV.u32 ((shl_u32 ((vrd b1 ((w64 ((4 : Int) * t20_0)).toNat)).toUInt32) 24) ||| (shl_u32 ((vrd b1 ((w64 ((w64 ((4 : Int) * t20_0)) + (1 : Int))).toNat)).toUInt32) 16))), .i t20_0, .i (w64 ((4 : Int) * t20_0)), .i (w64 ((w64 ((4 : Int) * t20_0)) + (2 : Int))), .q 3 (0 + ((w64 ((w64 ((4 : Int) * t20_0)) + (2 : Int))).toNat) * 1), .p (AV.b8 (vrd b1 ((w64 ((w64 ((4 : Int) * t20_0)) + (2 : Int))).toNat))), .p (AV.u32 ((vrd b1 ((w64 ((w64 ((4 : Int) * t20_0)) + (2 : Int))).toNat)).toUInt32)), .p (AV.u32 (shl_u32 ((vrd b1 ((w64 ((w64 ((4 : Int) * t20_0)) + (2 : Int))).toNat)).toUInt32) 8)), .p (AV.u32 (((shl_u32 ((vrd b1 ((w64 ((4 : Int) * t20_0)).toNat)).toUInt32) 24) ||| (shl_u32 ((vrd b1 ((w64 ((w64 ((4 : Int) * t20_0)) + (1 : Int))).toNat)).toUInt32) 16)) ||| (shl_u32 ((vrd b1 ((w64 ((w64 ((4 : Int) * t20_0)) + (2 : Int))).toNat)).toUInt32) 8))), .i t20_0, .i (w64 ((4 : Int) * t20_0)), .i (w64 ((w64 ((4 : Int) * t20_0)) + (3 : Int))), .q 3 (0 + ((w64 ((w64 ((4 : Int) * t20_0)) + (3 : Int))).toNat) * 1), .p (AV.b8 (vrd b1 ((w64 ((w64 ((4 : Int) * t20_0)) + (3 : Int))).toNat))), .p (AV.u32 ((vrd b1 ((w64 ((w64 ((4 : Int) * t20_0)) + (3 : Int))).toNat)).toUInt32)), .p (AV.u32 ((((shl_u32 ((vrd b1 ((w64 ((4 : Int) * t20_0)).toNat)).toUInt32) 24) ||| (shl_u32 ((vrd b1 ((w64 ((w64 ((4 : Int) * t20_0)) + (1 : Int))).toNat)).toUInt32) 16)) ||| (shl_u32 ((vrd b1 ((w64 ((w64 ((4 : Int) * t20_0)) + (2 : Int))).toNat)).toUInt32) 8)) ||| ((vrd b1 ((w64 ((w64 ((4 : Int) * t20_0)) + (3 : Int))).toNat)).toUInt32)))] : List TV).getD k TV.any) (fun k => g_sum_turn_r5.getD k []) [(2, none), (3, none), (4, none), (5, none), (20, none), (23, some 0), (52, some 29)] [] (fun k => g_sum_turn_r5c.getD k []) mixed (by kernel_rfl) Y Y (a_op (g_x Y (x_p Y (p_move Y Y) Y)) (a_op (g_x Y (x_p Y (p_move Y Y) Y)) (a_op (g_x Y (x_p Y (p_bin Y Y Y Y) Y)) (a_op (g_x Y (x_p Y (u_ixp Y Y Tryd.underlying68 in_5 Y Y (nl ((bcells_length _).trans (vlen b1))) Y (ixe h2) (ixn h2)) Y)) (a_op (g_x Y (x_p Y (u_ld Y Y Tryd.underlying5 Y Y ((Sub.refl _).trans (Sub.vmap (ixn h2)))) Y)) (a_op (g_x Y (x_p Y (p_u8_u32 (a := (vrd b1 ((w64 ((4 : Int) * t20_0)).toNat))) Y Tryd.underlying5 Tryd.underlying66 Y) Y)) (a_op (g_x Y (x_p Y (p_u32shl (n := 24) Y Y Y Y) Y)) (a_op (g_x Y (x_p Y (p_move Y Y) Y)) (a_op (g_x Y (x_p Y (p_bin Y Y Y Y) Y)) (a_op (g_x Y (x_p Y (p_bin Y Y Y Y) Y)) (a_op (g_x Y (x_p Y (u_ixp Y Y Tryd.underlying68 in_5 Y Y (nl ((bcells_length _).trans (vlen b1))) Y (ixe h3) (ixn h3)) Y)) (a_op (g_x Y (x_p Y (u_ld Y Y Tryd.underlying5 Y Y ((Sub.refl _).trans (Sub.vmap (ixn h3)))) Y)) (a_op (g_x Y (x_p Y (p_u8_u32 (a := (vrd b1 ((w64 ((w64 ((4 : Int) * t20_0)) + (1 : Int))).toNat))) Y Tryd.underlying5 Tryd.underlying66 Y) Y)) (a_op (g_x Y (x_p Y (p_u32shl (n := 16) Y Y Y Y) Y)) (a_op (g_x Y (x_p Y (p_u32or (a := shl_u32 ((vrd b1 ((w64 ((4 : Int) * t20_0)).toNat)).toUInt32) 24) (b := shl_u32 ((vrd b1 ((w64 ((w64 ((4 : Int) * t20_0)) + (1 : Int))).toNat)).toUInt32) 16) Y Y Y) Y)) (a_op (g_x Y (x_p Y (p_move Y Y) Y)) (a_op (g_x Y (x_p Y (p_bin Y Y Y Y) Y)) (a_op (g_x Y (x_p Y (p_bin Y Y Y Y) Y)) (a_op (g_x Y (x_p Y (u_ixp Y Y Tryd.underlying68 in_5 Y Y (nl ((bcells_length _).trans (vlen b1))) Y (ixe h4) (ixn h4)) Y)) (a_op (g_x Y (x_p Y (u_ld Y Y Tryd.underlying5 Y Y ((Sub.refl _).trans (Sub.vmap (ixn h4)))) Y)) (a_op (g_x Y (x_p Y (p_u8_u32 (a := (vrd b1 ((w64 ((w64 ((4 : Int) * t20_0)) + (2 : Int))).toNat))) Y Tryd.underlying5 Tryd.underlying66 Y) Y)) (a_op (g_x Y (x_p Y (p_u32shl (n := 8) Y Y Y Y) Y)) (a_op (g_x Y (x_p Y (p_u32or (a := (shl_u32 ((vrd b1 ((w64 ((4 : Int) * t20_0)).toNat)).toUInt32) 24) ||| (shl_u32 ((vrd b1 ((w64 ((w64 ((4 : Int) * t20_0)) + (1 : Int))).toNat)).toUInt32) 16)) (b := shl_u32 ((vrd b1 ((w64 ((w64 ((4 : Int) * t20_0)) + (2 : Int))).toNat)).toUInt32) 8) Y Y Y) Y)) (a_op (g_x Y (x_p Y (p_move Y Y) Y)) (a_op (g_x Y (x_p Y (p_bin Y Y Y Y) Y)) (a_op (g_x Y (x_p Y (p_bin Y Y Y Y) Y)) (a_op (g_x Y (x_p Y (u_ixp Y Y Tryd.underlying68 in_5 Y Y (nl ((bcells_length _).trans (vlen b1))) Y (ixe h5) (ixn h5)) Y)) (a_op (g_x Y (x_p Y (u_ld Y Y Tryd.underlying5 Y Y ((Sub.refl _).trans (Sub.vmap (ixn h5)))) Y)) (a_op (g_x Y (x_p Y (p_u8_u32 (a := (vrd b1 ((w64 ((w64 ((4 : Int) * t20_0)) + (3 : Int))).toNat))) Y Tryd.underlying5 Tryd.underlying66 Y) Y)) (a_op (g_x Y (x_p Y (p_u32or (a := ((shl_u32 ((vrd b1 ((w64 ((4 : Int) * t20_0)).toNat)).toUInt32) 24) ||| (shl_u32 ((vrd b1 ((w64 ((w64 ((4 : Int) * t20_0)) + (1 : Int))).toNat)).toUInt32) 16)) ||| (shl_u32 ((vrd b1 ((w64 ((w64 ((4 : Int) * t20_0)) + (2 : Int))).toNat)).toUInt32) 8)) (b := (vrd b1 ((w64 ((w64 ((4 : Int) * t20_0)) + (3 : Int))).toNat)).toUInt32) Y Y Y) Y)) (a_nil))))))))))))))))))))))))))))))) ?_
   refine t_op Y Y (PureD.opD (u_ixp Y Y Tryd.underlying86 in_66 Y Y (nl (vmap_len (f := AV.u32) w5_0)) Y (ixe h6) (ixn h6))) ?_
   refine t_op Y Y (u_st Y Y Y Y Y in_66 Y (nl (vmap_len (f := AV.u32) w5_0)) (Upd.trans (Sub.refl _) (Upd.vmap (ixn h6)) (Upd.refl ((vmap_len (f := AV.u32) (vwr w5_0 t20_0.toNat ((((shl_u32 ((vrd b1 ((w64 ((4 : Int) * t20_0)).toNat)).toUInt32) 24) ||| (shl_u32 ((vrd b1 ((w64 ((w64 ((4 : Int) * t20_0)) + (1 : Int))).toNat)).toUInt32) 16)) ||| (shl_u32 ((vrd b1 ((w64 ((w64 ((4 : Int) * t20_0)) + (2 : Int))).toNat)).toUInt32) 8)) ||| ((vrd b1 ((w64 ((w64 ((4 : Int) * t20_0)) + (3 : Int))).toNat)).toUInt32)))).trans (vmap_len (f := AV.u32) w5_0).symm)))) ?_
   refine t_gho (Gho_st (L := [(2, .q 2 (0)), (3, .q 3 (0)), (4, .q 4 (0)), (5, .q 5 (0)), (20, .i t20_0)]) (H := [(2, .pure (h0.toList.map AV.u32)), (3, .pure (bcells b1.toList)), (4, .pure (((Vector.replicate 8 (0 : UInt32)).toList).map AV.u32)), (5, .pure (((vwr w5_0 t20_0.toNat ((((shl_u32 ((vrd b1 ((w64 ((4 : Int) * t20_0)).toNat)).toUInt32) 24) ||| (shl_u32 ((vrd b1 ((w64 ((w64 ((4 : Int) * t20_0)) + (1 : Int))).toNat)).toUInt32) 16)) ||| (shl_u32 ((vrd b1 ((w64 ((w64 ((4 : Int) * t20_0)) + (2 : Int))).toNat)).toUInt32) 8)) ||| ((vrd b1 ((w64 ((w64 ((4 : Int) * t20_0)) + (3 : Int))).toNat)).toUInt32))).toList).map AV.u32))]) (N := 194) Y ⟨TLes.same _, TLes.same _, TLes.same _, TLes.same _, TLes.same _, trivial⟩ ⟨Y, Y, Y, Y, trivial⟩) ?_
   refine gen1 (fun w5'1 => (⟨[(2, .q 2 (0)), (3, .q 3 (0)), (4, .q 4 (0)), (5, .q 5 (0)), (20, .i t20_0)], [(2, .pure (h0.toList.map AV.u32)), (3, .pure (bcells b1.toList)), (4, .pure (((Vector.replicate 8 (0 : UInt32)).toList).map AV.u32)), (5, .pure (w5'1.toList.map AV.u32))], 194⟩ : TS)) H ?_
   intro w5'1 H
   refine AW2_reg [0, 1] Y ?_
   refine rp Y Y (p_bin Y Y Y Y) ?_
   refine rp Y Y (p_move Y Y) ?_
   refine rz [(2, .q 2 (0)), (3, .q 3 (0)), (4, .q 4 (0)), (5, .q 5 (0)), (20, .i (w64 (t20_0 + (1 : Int))))] [(2, .pure (h0.toList.map AV.u32)), (3, .pure (bcells b1.toList)), (4, .pure (((Vector.replicate 8 (0 : UInt32)).toList).map AV.u32)), (5, .pure (w5'1.toList.map AV.u32))] Y Y Y ?_
   have hz := some_elim H
   subst hz
   exact ⟨Y, Y⟩
  ·replace H := ite_else h1 H
   refine as2 [(2, .q 2 (0)), (4, .q 4 (0)), (5, .q 5 (0))] [(2, .pure (h0.toList.map AV.u32)), (4, .pure (((Vector.replicate 8 (0 : UInt32)).toList).map AV.u32)), (5, .pure (w5_0.toList.map AV.u32))] Y Y Y ?_
   refine AW2_exit ?_
   refine thenQ2_exit ?_
   have hz := some_elim H
   subst hz
   exact ⟨Y, Y⟩
 ·obtain ⟨rfl, rfl⟩ := hs
  refine ⟨by simp, ?_⟩
  refine blockQ2_exit ?_
  refine AW2_seq ?_
  refine sg [0] Y ?_
  refine rp Y Y (p_asg Y Y) ?_
  refine rz [(2, .q 2 (0)), (4, .q 4 (0)), (5, .q 5 (0)), (7, .i (16 : Int))] [(2, .pure (h0.toList.map AV.u32)), (4, .pure (((Vector.replicate 8 (0 : UInt32)).toList).map AV.u32)), (5, .pure (y'5.toList.map AV.u32))] Y Y Y ?_
  refine AW2_block ?_
  refine as2 [(2, .q 2 (0)), (4, .q 4 (0)), (5, .q 5 (0)), (7, .i (16 : Int))] [(2, .pure (h0.toList.map AV.u32)), (4, .pure (((Vector.replicate 8 (0 : UInt32)).toList).map AV.u32)), (5, .pure (y'5.toList.map AV.u32))] Y Y Y ?_
  refine bindK H fun y'16 h18 H => ?_
  refine AW2_loopO (fun a'13 : Int × (Vector UInt32 64) => (⟨[(2, .q 2 (0)), (4, .q 4 (0)), (5, .q 5 (0)), (7, .i a'13.1)], [(2, .pure (h0.toList.map AV.u32)), (4, .pure (((Vector.replicate 8 (0 : UInt32)).toList).map AV.u32)), (5, .pure (a'13.2.toList.map AV.u32))], 194⟩ : TS)) (fun (y'14 : ((Vector UInt32 64))) e s' => e = Go.Exit.exit 2 ∧ s' = (⟨[(2, .q 2 (0)), (4, .q 4 (0)), (5, .q 5 (0))], [(2, .pure (h0.toList.map AV.u32)), (4, .pure (((Vector.replicate 8 (0 : UInt32)).toList).map AV.u32)), (5, .pure (y'14.toList.map AV.u32))], 194⟩ : TS)) h18 Y (fun a x hx => ?_) (fun e s' hs => ?_)
  ·clear H
   obtain ⟨i7_1, w5_1⟩ := a
   have H := hx
   clear hx
   unfold g_sum_turn_l1 at H
   refine AW2_seq ?_
   refine sg [0, 1] Y ?_
   refine rp Y Y (p_move Y Y) ?_
   refine rp Y Y (p_bin Y Y Y Y) ?_
   refine rz [(2, .q 2 (0)), (4, .q 4 (0)), (5, .q 5 (0)), (7, .i i7_1), (56, .b (decide (i7_1 < (64 : Int))))] [(2, .pure (h0.toList.map AV.u32)), (4, .pure (((Vector.replicate 8 (0 : UInt32)).toList).map AV.u32)), (5, .pure (w5_1.toList.map AV.u32))] Y Y Y ?_
   refine AW2_if (p := i7_1 < (64 : Int)) Y (fun h8 => ?_) (fun h8 => ?_)
   ·replace H := ite_then h8 H
    refine as2 [(2, .q 2 (0)), (4, .q 4 (0)), (5, .q 5 (0)), (7, .i i7_1)] [(2, .pure (h0.toList.map AV.u32)), (4, .pure (((Vector.replicate 8 (0 : UInt32)).toList).map AV.u32)), (5, .pure (w5_1.toList.map AV.u32))] Y Y Y ?_
    refine AW2_skip ?_
    refine AW2_seq ?_
    refine AW2_block ?_
    refine AW2_seq ?_
    refine chkK H fun h9 H => ?_
    refine chkK H fun h10 H => ?_
    refine AW2_ghoQ ?_
    refine AW2_draw 9 [9] (fun k => ([.i i7_1, .i (w64 (i7_1 - (15 : Int))), .q 5 (0 + ((w64 (i7_1 - (15 : Int))).toNat) * 1), .p (AV.u32 (vrd w5_1 ((w64 (i7_1 - (15 : Int))).toNat))), .i i7_1, .i (w64 (i7_1 - (2 : Int))), .q 5 (0 + ((w64 (i7_1 - (2 : Int))).toNat) * 1), .p (AV.u32 (vrd w5_1 ((w64 (i7_1 - (2 : Int))).toNat))), .p (AV.u32 (vrd w5_1 ((w64 (i7_1 - (15 : Int))).toNat)))] : List TV).getD k TV.any) (fun k => g_sum_turn_r10.getD k []) [(2, none), (4, none), (5, none), (7, none), (8, some 8), (66, some 7)] [] (fun k => g_sum_turn_r10c.getD k []) mixed (by kernel_rfl) Y Y (a_op (g_x Y (x_p Y (p_move Y Y) Y)) (a_op (g_x Y (x_p Y (p_bin Y Y Y Y) Y)) (a_op (g_x Y (x_p Y (u_ixp Y Y Tryd.underlying86 in_66 Y Y (nl (vmap_len (f := AV.u32) w5_1)) Y (ixe h9) (ixn h9)) Y)) (a_op (g_x Y (x_p Y (u_ld Y Y Tryd.underlying66 Y Y ((Sub.refl _).trans (Sub.vmap (ixn h9)))) Y)) (a_op (g_x Y (x_p Y (p_move Y Y) Y)) (a_op (g_x Y (x_p Y (p_bin Y Y Y Y) Y)) (a_op (g_x Y (x_p Y (u_ixp Y Y Tryd.underlying86 in_66 Y Y (nl (vmap_len (f := AV.u32) w5_1)) Y (ixe h10) (ixn h10)) Y)) (a_op (g_x Y (x_p Y (u_ld Y Y Tryd.underlying66 Y Y ((Sub.refl _).trans (Sub.vmap (ixn h10)))) Y)) (a_op (g_x Y (x_p Y (p_asg Y Y) Y)) (a_nil)))))))))) ?_
    refine t_op Y Y (PureD.opD (p_asg Y Y)) ?_
    refine t_gho (Gho_st (L := [(2, .q 2 (0)), (4, .q 4 (0)), (5, .q 5 (0)), (7, .i i7_1), (8, .p (AV.u32 (vrd w5_1 ((w64 (i7_1 - (15 : Int))).toNat)))), (9, .p (AV.u32 (vrd w5_1 ((w64 (i7_1 - (2 : Int))).toNat))))]) (H := [(2, .pure (h0.toList.map AV.u32)), (4, .pure (((Vector.replicate 8 (0 : UInt32)).toList).map AV.u32)), (5, .pure (w5_1.toList.map AV.u32))]) (N := 194) Y ⟨TLes.same _, TLes.same _, TLes.same _, TLes.same _, TLes.same _, TLes.same _, trivial⟩ ⟨Y, Y, Y, trivial⟩) ?_
    refine sg [0, 1, 2, 3, 4, 5, 6, 7, 8] Y ?_
    refine rp Y Y (p_move Y Y) ?_
    refine bindK H fun r'6 h11 H => ?_
    refine rp Y Y (p_callp Y Y Y Tryd.func56 Y Y (g_bits_RotateLeft32_ac h11) ⟨Y, Y, trivial⟩) ?_
    refine rp Y Y (p_move Y Y) ?_
    refine bindK H fun r'7 h12 H => ?_
    refine rp Y Y (p_callp Y Y Y Tryd.func56 Y Y (g_bits_RotateLeft32_ac h12) ⟨Y, Y, trivial⟩) ?_
    refine rp Y Y (p_u32xor (a := r'6) (b := r'7) Y Y Y) ?_
    refine rp Y Y (p_move Y Y) ?_
    refine rp Y Y (p_u32shr (n := 3) Y Y Y Y) ?_
    refine rp Y Y (p_u32xor (a := r'6 ^^^ r'7) (b := shr_u32 (vrd w5_1 ((w64 (i7_1 - (15 : Int))).toNat)) 3) Y Y Y) ?_
    refine rp Y Y (p_asg Y Y) ?_
    refine rz [(2, .q 2 (0)), (4, .q 4 (0)), (5, .q 5 (0)), (7, .i i7_1), (9, .p (AV.u32 (vrd w5_1 ((w64 (i7_1 - (2 : Int))).toNat)))), (10, .p (AV.u32 ((r'6 ^^^ r'7) ^^^ (shr_u32 (vrd w5_1 ((w64 (i7_1 - (15 : Int))).toNat)) 3))))] [(2, .pure (h0.toList.map AV.u32)), (4, .pure (((Vector.replicate 8 (0 : UInt32)).toList).map AV.u32)), (5, .pure (w5_1.toList.map AV.u32))] Y Y Y ?_
    refine gen1 (fun s10'8 => (⟨[(2, .q 2 (0)), (4, .q 4 (0)), (5, .q 5 (0)), (7, .i i7_1), (9, .p (AV.u32 (vrd w5_1 ((w64 (i7_1 - (2 : Int))).toNat)))), (10, .p (AV.u32 s10'8))], [(2, .pure (h0.toList.map AV.u32)), (4, .pure (((Vector.replicate 8 (0 : UInt32)).toList).map AV.u32)), (5, .pure (w5_1.toList.map AV.u32))], 194⟩ : TS)) H ?_
    intro s10'8 H
    refine sg [0, 1, 2, 3, 4, 5, 6, 7, 8] Y ?_
    refine rp Y Y (p_move Y Y) ?_
    refine bindK H fun r'9 h13 H => ?_
    refine rp Y Y (p_callp Y Y Y Tryd.func56 Y Y (g_bits_RotateLeft32_ac h13) ⟨Y, Y, trivial⟩) ?_
    refine rp Y Y (p_move Y Y) ?_
    refine bindK H fun r'10 h14 H => ?_
    refine rp Y Y (p_callp Y Y Y Tryd.func56 Y Y (g_bits_RotateLeft32_ac h14) ⟨Y, Y, trivial⟩) ?_
    refine rp Y Y (p_u32xor (a := r'9) (b := r'10) Y Y Y) ?_
    refine rp Y Y (p_move Y Y) ?_
    refine rp Y Y (p_u32shr (n := 10) Y Y Y Y) ?_
    refine rp Y Y (p_u32xor (a := r'9 ^^^ r'10) (b := shr_u32 (vrd w5_1 ((w64 (i7_1 - (2 : Int))).toNat)) 10) Y Y Y) ?_
    refine rp Y Y (p_asg Y Y) ?_
    refine rz [(2, .q 2 (0)), (4, .q 4 (0)), (5, .q 5 (0)), (7, .i i7_1), (10, .p (AV.u32 s10'8)), (11, .p (AV.u32 ((r'9 ^^^ r'10) ^^^ (shr_u32 (vrd w5_1 ((w64 (i7_1 - (2 : Int))).toNat)) 10))))] [(2, .pure (h0.toList.map AV.u32)), (4, .pure (((Vector.replicate 8 (0 : UInt32)).toList).map AV.u32)), (5, .pure (w5_1.toList.map AV.u32))] Y Y Y ?_
    refine gen1 (fun t11'11 => (⟨[(2, .q 2 (0)), (4, .q 4 (0)), (5, .q 5 (0)), (7, .i i7_1), (10, .p (AV.u32 s10'8)), (11, .p (AV.u32 t11'11))], [(2, .pure (h0.toList.map AV.u32)), (4, .pure (((Vector.replicate 8 (0 : UInt32)).toList).map AV.u32)), (5, .pure (w5_1.toList.map AV.u32))], 194⟩ : TS)) H ?_
    intro t11'11 H
    refine chkK H fun h15 H => ?_
    refine chkK H fun h16 H => ?_
    refine chkK H fun h17 H => ?_
    refine AW2_ghoQ ?_
    refine AW2_draw 14 [14, 15] (fun k => ([.i i7_1, .i i7_1, .i (w64 (i7_1 - (16 : Int))), .q 5 (0 + ((w64 (i7_1 - (16 : Int))).toNat) * 1), .p (AV.u32 (vrd w5_1 ((w64 (i7_1 - (16 : Int))).toNat))), .p (AV.u32 s10'8), .p (AV.u32 ((vrd w5_1 ((w64 (i7_1 - (16 : Int))).toNat)) + s10'8)), .i i7_1, .i (w64 (i7_1 - (7 : Int))), .q 5 (0 + ((w64 (i7_1 - (7 : Int))).toNat) * 1), .p (AV.u32 (vrd w5_1 ((w64 (i7_1 - (7 : Int))).toNat))), .p (AV.u32 (((vrd w5_1 ((w64 (i7_1 - (16 : Int))).toNat)) + s10'8) + (vrd w5_1 ((w64 (i7_1 - (7 : Int))).toNat)))), .p (AV.u32 t11'11), .p (AV.u32 ((((vrd w5_1 ((w64 (i7_1 - (16 : Int))).toNat)) + s10'8) + (vrd w5_1 ((w64 (i7_1 - (7 : Int))).toNat))) + t11'11))] : List TV).getD k TV.any) (fun k => g_sum_turn_r13.getD k []) [(2, none), (4, none), (5, none), (7, none), (83, some 0), (96, some 13)] [] (fun k => g_sum_turn_r13c.getD k []) mixed (by kernel_rfl) Y Y (a_op (g_x Y (x_p Y (p_move Y Y) Y)) (a_op (g_x Y (x_p Y (p_move Y Y) Y)) (a_op (g_x Y (x_p Y (p_bin Y Y Y Y) Y)) (a_op (g_x Y (x_p Y (u_ixp Y Y Tryd.underlying86 in_66 Y Y (nl (vmap_len (f := AV.u32) w5_1)) Y (ixe h15) (ixn h15)) Y)) (a_op (g_x Y (x_p Y (u_ld Y Y Tryd.underlying66 Y Y ((Sub.refl _).trans (Sub.vmap (ixn h15)))) Y)) (a_op (g_x Y (x_p Y (p_move Y Y) Y)) (a_op (g_x Y (x_p Y (p_u32add (a := (vrd w5_1 ((w64 (i7_1 - (16 : Int))).toNat))) (b := s10'8) Y Y Y) Y)) (a_op (g_x Y (x_p Y (p_move Y Y) Y)) (a_op (g_x Y (x_p Y (p_bin Y Y Y Y) Y)) (a_op (g_x Y (x_p Y (u_ixp Y Y Tryd.underlying86 in_66 Y Y (nl (vmap_len (f := AV.u32) w5_1)) Y (ixe h16) (ixn h16)) Y)) (a_op (g_x Y (x_p Y (u_ld Y Y Tryd.underlying66 Y Y ((Sub.refl _).trans (Sub.vmap (ixn h16)))) Y)) (a_op (g_x Y (x_p Y (p_u32add (a := (vrd w5_1 ((w64 (i7_1 - (16 : Int))).toNat)) + s10'8) (b := (vrd w5_1 ((w64 (i7_1 - (7 : Int))).toNat))) Y Y Y) Y)) (a_op (g_x Y (x_p Y (p_move Y Y) Y)) (a_op (g_x Y (x_p Y (p_u32add (a := ((vrd w5_1 ((w64 (i7_1 - (16 : Int))).toNat)) + s10'8) + (vrd w5_1 ((w64 (i7_1 - (7 : Int))).toNat))) (b := t11'11) Y Y Y) Y)) (a_nil))))))))))))))) ?_
    refine t_op Y Y (PureD.opD (u_ixp Y Y Tryd.underlying86 in_66 Y Y (nl (vmap_len (f := AV.u32) w5_1)) Y (ixe h17) (ixn h17))) ?_
    refine t_op Y Y (u_st Y Y Y Y Y in_66 Y (nl (vmap_len (f := AV.u32) w5_1)) (Upd.trans (Sub.refl _) (Upd.vmap (ixn h17)) (Upd.refl ((vmap_len (f := AV.u32) (vwr w5_1 i7_1.toNat ((((vrd w5_1 ((w64 (i7_1 - (16 : Int))).toNat)) + s10'8) + (vrd w5_1 ((w64 (i7_1 - (7 : Int))).toNat))) + t11'11))).trans (vmap_len (f := AV.u32) w5_1).symm)))) ?_
    refine t_gho (Gho_st (L := [(2, .q 2 (0)), (4, .q 4 (0)), (5, .q 5 (0)), (7, .i i7_1)]) (H := [(2, .pure (h0.toList.map AV.u32)), (4, .pure (((Vector.replicate 8 (0 : UInt32)).toList).map AV.u32)), (5, .pure (((vwr w5_1 i7_1.toNat ((((vrd w5_1 ((w64 (i7_1 - (16 : Int))).toNat)) + s10'8) + (vrd w5_1 ((w64 (i7_1 - (7 : Int))).toNat))) + t11'11)).toList).map AV.u32))]) (N := 194) Y ⟨TLes.same _, TLes.same _, TLes.same _, TLes.same _, trivial⟩ ⟨Y, Y, Y, trivial⟩) ?_
    refine gen1 (fun w5'12 => (⟨[(2, .q 2 (0)), (4, .q 4 (0)), (5, .q 5 (0)), (7, .i i7_1)], [(2, .pure (h0.toList.map AV.u32)), (4, .pure (((Vector.replicate 8 (0 : UInt32)).toList).map AV.u32)), (5, .pure (w5'12.toList.map AV.u32))], 194⟩ : TS)) H ?_
    intro w5'12 H
    refine AW2_reg [0, 1, 2] Y ?_
    refine rp Y Y (p_move Y Y) ?_
    refine rp Y Y (p_bin Y Y Y Y) ?_
    refine rp Y Y (p_asg Y Y) ?_
    refine rz [(2, .q 2 (0)), (4, .q 4 (0)), (5, .q 5 (0)), (7, .i (w64 (i7_1 + (1 : Int))))] [(2, .pure (h0.toList.map AV.u32)), (4, .pure (((Vector.replicate 8 (0 : UInt32)).toList).map AV.u32)), (5, .pure (w5'12.toList.map AV.u32))] Y Y Y ?_
    have hz := some_elim H
    subst hz
    exact ⟨Y, Y⟩
   ·replace H := ite_else h8 H
    refine as2 [(2, .q 2 (0)), (4, .q 4 (0)), (5, .q 5 (0))] [(2, .pure (h0.toList.map AV.u32)), (4, .pure (((Vector.replicate 8 (0 : UInt32)).toList).map AV.u32)), (5, .pure (w5_1.toList.map AV.u32))] Y Y Y ?_
    refine AW2_exit ?_
    refine thenQ2_exit ?_
    have hz := some_elim H
    subst hz
    exact ⟨Y, Y⟩
  ·obtain ⟨rfl, rfl⟩ := hs
   refine ⟨by simp, ?_⟩
   refine blockQ2_exit ?_
   refine sg [0, 1, 2] Y ?_
   refine rp Y Y (u_lda Y Y Tryd.underlying67 Y in_67 Y (Nat.succ_pos _) (Sub.refl _) (vmap_len (f := AV.u32) h0)) ?_
   refine r_op Y Y (MakeD.opD (u_alloc 12 Y in_67 one_67 zc_67) Y Y Y Y) ?_
   refine r_op Y Y (u_st Y Y Y Y Y in_67 (vmap_len (f := AV.u32) h0) (nl (vmap_len (f := AV.u32) (Vector.replicate 8 (0 : UInt32)))) (Upd.refl ((vmap_len (f := AV.u32) h0).trans (vmap_len (f := AV.u32) (Vector.replicate 8 (0 : UInt32))).symm))) ?_
   refine rz [(2, .q 2 (0)), (4, .q 4 (0)), (5, .q 5 (0)), (12, .q 12 (0))] [(2, .pure (h0.toList.map AV.u32)), (4, .pure (((Vector.replicate 8 (0 : UInt32)).toList).map AV.u32)), (5, .pure (y'16.toList.map AV.u32)), (12, .pure (h0.toList.map AV.u32))] Y Y Y ?_
   refine AW2_seq ?_
   refine sg [0] Y ?_
   refine rp Y Y (p_move Y Y) ?_
   refine rz [(2, .q 2 (0)), (4, .q 4 (0)), (5, .q 5 (0)), (12, .q 12 (0)), (99, .i (0 : Int))] [(2, .pure (h0.toList.map AV.u32)), (4, .pure (((Vector.replicate 8 (0 : UInt32)).toList).map AV.u32)), (5, .pure (y'16.toList.map AV.u32)), (12, .pure (h0.toList.map AV.u32))] Y Y Y ?_
   refine AW2_block ?_
   refine as2 [(2, .q 2 (0)), (4, .q 4 (0)), (5, .q 5 (0)), (12, .q 12 (0)), (99, .i (0 : Int))] [(2, .pure (h0.toList.map AV.u32)), (4, .pure (((Vector.replicate 8 (0 : UInt32)).toList).map AV.u32)), (5, .pure (y'16.toList.map AV.u32)), (12, .pure (h0.toList.map AV.u32))] Y Y Y ?_
   refine bindK H fun y'29 h28 H => ?_
   refine AW2_loopO (fun a'26 : Int × (Vector UInt32 8) => (⟨[(2, .q 2 (0)), (4, .q 4 (0)), (5, .q 5 (0)), (12, .q 12 (0)), (99, .i a'26.1)], [(2, .pure (h0.toList.map AV.u32)), (4, .pure (((Vector.replicate 8 (0 : UInt32)).toList).map AV.u32)), (5, .pure (y'16.toList.map AV.u32)), (12, .pure (a'26.2.toList.map AV.u32))], 194⟩ : TS)) (fun (y'27 : ((Vector UInt32 8))) e s' => e = Go.Exit.exit 4 ∧ s' = (⟨[(2, .q 2 (0)), (4, .q 4 (0)), (12, .q 12 (0))], [(2, .pure (h0.toList.map AV.u32)), (4, .pure (((Vector.replicate 8 (0 : UInt32)).toList).map AV.u32)), (12, .pure (y'27.toList.map AV.u32))], 194⟩ : TS)) h28 Y (fun a x hx => ?_) (fun e s' hs => ?_)
   ·clear H
    obtain ⟨t99_2, v12_2⟩ := a
    have H := hx
    clear hx
    unfold g_sum_turn_l2 at H
    refine sg [0] Y ?_
    refine rp Y Y (p_bin Y Y Y Y) ?_
    refine rz [(2, .q 2 (0)), (4, .q 4 (0)), (5, .q 5 (0)), (12, .q 12 (0)), (99, .i t99_2), (100, .b (decide (t99_2 < (64 : Int))))] [(2, .pure (h0.toList.map AV.u32)), (4, .pure (((Vector.replicate 8 (0 : UInt32)).toList).map AV.u32)), (5, .pure (y'16.toList.map AV.u32)), (12, .pure (v12_2.toList.map AV.u32))] Y Y Y ?_
    refine AW2_seq ?_
    refine AW2_if (p := t99_2 < (64 : Int)) Y (fun h19 => ?_) (fun h19 => ?_)
    ·replace H := ite_then h19 H
     refine as2 [(2, .q 2 (0)), (4, .q 4 (0)), (5, .q 5 (0)), (12, .q 12 (0)), (99, .i t99_2)] [(2, .pure (h0.toList.map AV.u32)), (4, .pure (((Vector.replicate 8 (0 : UInt32)).toList).map AV.u32)), (5, .pure (y'16.toList.map AV.u32)), (12, .pure (v12_2.toList.map AV.u32))] Y Y Y ?_
     refine AW2_skip ?_
     refine AW2_seq ?_
     refine AW2_block ?_
     refine sg [0, 1] Y ?_
     refine rp Y Y (p_move Y Y) ?_
     refine rp Y Y (p_asg Y Y) ?_
     refine rz [(2, .q 2 (0)), (4, .q 4 (0)), (5, .q 5 (0)), (12, .q 12 (0)), (13, .i t99_2), (99, .i t99_2)] [(2, .pure (h0.toList.map AV.u32)), (4, .pure (((Vector.replicate 8 (0 : UInt32)).toList).map AV.u32)), (5, .pure (y'16.toList.map AV.u32)), (12, .pure (v12_2.toList.map AV.u32))] Y Y Y ?_
     refine AW2_seq ?_
     refine AW2_ghoQ ?_
     refine AW2_draw 5 [5] (fun k => ([.q 12 (0 + 4 * 1), .p (AV.u32 (vrd v12_2 4)), .q 12 (0 + 0 * 1), .p (AV.u32 (vrd v12_2 0)), .p (AV.u32 (vrd v12_2 4))] : List TV).getD k TV.any) (fun k => g_sum_turn_r18.getD k []) [(2, none), (4, none), (5, none), (12, none), (13, none), (14, some 4), (99, none), (105, some 3)] [] (fun k => g_sum_turn_r18c.getD k []) mixed (by kernel_rfl) Y Y (a_op (g_x Y (x_p Y (u_ixp Y Y Tryd.underlying67 in_66 Y Y (nl (vmap_len (f := AV.u32) v12_2)) Y Y (by decide)) Y)) (a_op (g_x Y (x_p Y (u_ld Y Y Tryd.underlying66 Y Y ((Sub.refl _).trans (Sub.vmap (by decide)))) Y)) (a_op (g_x Y (x_p Y (u_ixp Y Y Tryd.underlying67 in_66 Y Y (nl (vmap_len (f := AV.u32) v12_2)) Y Y (by decide)) Y)) (a_op (g_x Y (x_p Y (u_ld Y Y Tryd.underlying66 Y Y ((Sub.refl _).trans (Sub.vmap (by decide)))) Y)) (a_op (g_x Y (x_p Y (p_asg Y Y) Y)) (a_nil)))))) ?_
     refine t_op Y Y (PureD.opD (p_asg Y Y)) ?_
     refine t_gho (Gho_st (L := [(2, .q 2 (0)), (4, .q 4 (0)), (5, .q 5 (0)), (12, .q 12 (0)), (13, .i t99_2), (14, .p (AV.u32 (vrd v12_2 4))), (15, .p (AV.u32 (vrd v12_2 0))), (99, .i t99_2)]) (H := [(2, .pure (h0.toList.map AV.u32)), (4, .pure (((Vector.replicate 8 (0 : UInt32)).toList).map AV.u32)), (5, .pure (y'16.toList.map AV.u32)), (12, .pure (v12_2.toList.map AV.u32))]) (N := 194) Y ⟨TLes.same _, TLes.same _, TLes.same _, TLes.same _, TLes.same _, TLes.same _, TLes.same _, TLes.same _, trivial⟩ ⟨Y, Y, Y, Y, trivial⟩) ?_
     refine sg [0, 1, 2, 3, 4, 5, 6, 7, 8] Y ?_
     refine rp Y Y (p_move Y Y) ?_
     refine bindK H fun r'17 h20 H => ?_
     refine rp Y Y (p_callp Y Y Y Tryd.func56 Y Y (g_bits_RotateLeft32_ac h20) ⟨Y, Y, trivial⟩) ?_
     refine rp Y Y (p_move Y Y) ?_
     refine bindK H fun r'18 h21 H => ?_
     refine rp Y Y (p_callp Y Y Y Tryd.func56 Y Y (g_bits_RotateLeft32_ac h21) ⟨Y, Y, trivial⟩) ?_
     refine rp Y Y (p_u32xor (a := r'17) (b := r'18) Y Y Y) ?_
     refine rp Y Y (p_move Y Y) ?_
     refine bindK H fun r'19 h22 H => ?_
     refine rp Y Y (p_callp Y Y Y Tryd.func56 Y Y (g_bits_RotateLeft32_ac h22) ⟨Y, Y, trivial⟩) ?_
     refine rp Y Y (p_u32xor (a := r'17 ^^^ r'18) (b := r'19) Y Y Y) ?_
     refine rp Y Y (p_asg Y Y) ?_
     refine rz [(2, .q 2 (0)), (4, .q 4 (0)), (5, .q 5 (0)), (12, .q 12 (0)), (13, .i t99_2), (14, .p (AV.u32 (vrd v12_2 4))), (15, .p (AV.u32 (vrd v12_2 0))), (16, .p (AV.u32 ((r'17 ^^^ r'18) ^^^ r'19))), (99, .i t99_2)] [(2, .pure (h0.toList.map AV.u32)), (4, .pure (((Vector.replicate 8 (0 : UInt32)).toList).map AV.u32)), (5, .pure (y'16.toList.map AV.u32)), (12, .pure (v12_2.toList.map AV.u32))] Y Y Y ?_
     refine AW2_seq ?_
     refine chkK H fun h23 H => ?_
     refine chkK H fun h24 H => ?_
     refine AW2_ghoQ ?_
     refine AW2_draw 22 [22, 23] (fun k => ([.q 12 (0 + 7 * 1), .p (AV.u32 (vrd v12_2 7)), .p (AV.u32 ((r'17 ^^^ r'18) ^^^ r'19)), .p (AV.u32 ((vrd v12_2 7) + ((r'17 ^^^ r'18) ^^^ r'19))), .p (AV.u32 (vrd v12_2 4)), .q 12 (0 + 5 * 1), .p (AV.u32 (vrd v12_2 5)), .p (AV.u32 ((vrd v12_2 4) &&& (vrd v12_2 5))), .p (AV.u32 (vrd v12_2 4)), .p (AV.u32 (~~~ (vrd v12_2 4))), .q 12 (0 + 6 * 1), .p (AV.u32 (vrd v12_2 6)), .p (AV.u32 ((~~~ (vrd v12_2 4)) &&& (vrd v12_2 6))), .p (AV.u32 (((vrd v12_2 4) &&& (vrd v12_2 5)) ^^^ ((~~~ (vrd v12_2 4)) &&& (vrd v12_2 6)))), .p (AV.u32 (((vrd v12_2 7) + ((r'17 ^^^ r'18) ^^^ r'19)) + (((vrd v12_2 4) &&& (vrd v12_2 5)) ^^^ ((~~~ (vrd v12_2 4)) &&& (vrd v12_2 6))))), .i t99_2, .p (.rptr (tab0.map AV.u32) (0 + t99_2.toNat * 1)), .p (AV.u32 (lrd tab0 t99_2.toNat)), .p (AV.u32 ((((vrd v12_2 7) + ((r'17 ^^^ r'18) ^^^ r'19)) + (((vrd v12_2 4) &&& (vrd v12_2 5)) ^^^ ((~~~ (vrd v12_2 4)) &&& (vrd v12_2 6)))) + (lrd tab0 t99_2.toNat))), .i t99_2, .q 5 (0 + t99_2.toNat * 1), .p (AV.u32 (vrd y'16 t99_2.toNat))] : List TV).getD k TV.any) (fun k => g_sum_turn_r20.getD k []) [(2, none), (4, none), (5, none), (12, none), (14, none), (15, none), (99, none), (132, some 18), (135, some 21)] [] (fun k => g_sum_turn_r20c.getD k []) mixed (by kernel_rfl) Y Y (a_op (g_x Y (x_p Y (u_ixp Y Y Tryd.underlying67 in_66 Y Y (nl (vmap_len (f := AV.u32) v12_2)) Y Y (by decide)) Y)) (a_op (g_x Y (x_p Y (u_ld Y Y Tryd.underlying66 Y Y ((Sub.refl _).trans (Sub.vmap (by decide)))) Y)) (a_op (g_x Y (x_p Y (p_move Y Y) Y)) (a_op (g_x Y (x_p Y (p_u32add (a := (vrd v12_2 7)) (b := (r'17 ^^^ r'18) ^^^ r'19) Y Y Y) Y)) (a_op (g_x Y (x_p Y (p_move Y Y) Y)) (a_op (g_x Y (x_p Y (u_ixp Y Y Tryd.underlying67 in_66 Y Y (nl (vmap_len (f := AV.u32) v12_2)) Y Y (by decide)) Y)) (a_op (g_x Y (x_p Y (u_ld Y Y Tryd.underlying66 Y Y ((Sub.refl _).trans (Sub.vmap (by decide)))) Y)) (a_op (g_x Y (x_p Y (p_u32and (a := (vrd v12_2 4)) (b := (vrd v12_2 5)) Y Y Y) Y)) (a_op (g_x Y (x_p Y (p_move Y Y) Y)) (a_op (g_x Y (x_p Y (p_u32cpl Y Y) Y)) (a_op (g_x Y (x_p Y (u_ixp Y Y Tryd.underlying67 in_66 Y Y (nl (vmap_len (f := AV.u32) v12_2)) Y Y (by decide)) Y)) (a_op (g_x Y (x_p Y (u_ld Y Y Tryd.underlying66 Y Y ((Sub.refl _).trans (Sub.vmap (by decide)))) Y)) (a_op (g_x Y (x_p Y (p_u32and (a := ~~~ (vrd v12_2 4)) (b := (vrd v12_2 6)) Y Y Y) Y)) (a_op (g_x Y (x_p Y (p_u32xor (a := (vrd v12_2 4) &&& (vrd v12_2 5)) (b := (~~~ (vrd v12_2 4)) &&& (vrd v12_2 6)) Y Y Y) Y)) (a_op (g_x Y (x_p Y (p_u32add (a := (vrd v12_2 7) + ((r'17 ^^^ r'18) ^^^ r'19)) (b := ((vrd v12_2 4) &&& (vrd v12_2 5)) ^^^ ((~~~ (vrd v12_2 4)) &&& (vrd v12_2 6))) Y Y Y) Y)) (a_op (g_x Y (x_p Y (p_move Y Y) Y)) (a_op (g_x Y (x_p Y (u_ixq Y Y Tryd.underlying86 in_66 tab0_rd Y (ixe h23) (ixn h23)) Y)) (a_op (g_x Y (x_p Y (u_ld Y Y Tryd.underlying66 Y Y ((Sub.refl _).trans (Sub.map default (ixn h23)))) Y)) (a_op (g_x Y (x_p Y (p_u32add (a := ((vrd v12_2 7) + ((r'17 ^^^ r'18) ^^^ r'19)) + (((vrd v12_2 4) &&& (vrd v12_2 5)) ^^^ ((~~~ (vrd v12_2 4)) &&& (vrd v12_2 6)))) (b := (lrd tab0 t99_2.toNat)) Y Y Y) Y)) (a_op (g_x Y (x_p Y (p_move Y Y) Y)) (a_op (g_x Y (x_p Y (u_ixp Y Y Tryd.underlying86 in_66 Y Y (nl (vmap_len (f := AV.u32) y'16)) Y (ixe h24) (ixn h24)) Y)) (a_op (g_x Y (x_p Y (u_ld Y Y Tryd.underlying66 Y Y ((Sub.refl _).trans (Sub.vmap (ixn h24)))) Y)) (a_nil))))))))))))))))))))))) ?_
     refine t_op Y Y (PureD.opD (p_u32add (a := (((vrd v12_2 7) + ((r'17 ^^^ r'18) ^^^ r'19)) + (((vrd v12_2 4) &&& (vrd v12_2 5)) ^^^ ((~~~ (vrd v12_2 4)) &&& (vrd v12_2 6)))) + (lrd tab0 t99_2.toNat)) (b := (vrd y'16 t99_2.toNat)) Y Y Y)) ?_
     refine t_op Y Y (PureD.opD (p_asg Y Y)) ?_
     refine t_gho (Gho_st (L := [(2, .q 2 (0)), (4, .q 4 (0)), (5, .q 5 (0)), (12, .q 12 (0)), (14, .p (AV.u32 (vrd v12_2 4))), (15, .p (AV.u32 (vrd v12_2 0))), (17, .p (AV.u32 (((((vrd v12_2 7) + ((r'17 ^^^ r'18) ^^^ r'19)) + (((vrd v12_2 4) &&& (vrd v12_2 5)) ^^^ ((~~~ (vrd v12_2 4)) &&& (vrd v12_2 6)))) + (lrd tab0 t99_2.toNat)) + (vrd y'16 t99_2.toNat)))), (99, .i t99_2)]) (H := [(2, .pure (h0.toList.map AV.u32)), (4, .pure (((Vector.replicate 8 (0 : UInt32)).toList).map AV.u32)), (5, .pure (y'16.toList.map AV.u32)), (12, .pure (v12_2.toList.map AV.u32))]) (N := 194) Y ⟨TLes.same _, TLes.same _, TLes.same _, TLes.same _, TLes.same _, TLes.same _, TLes.same _, TLes.same _, trivial⟩ ⟨Y, Y, Y, Y, trivial⟩) ?_
     refine gen1 (fun t17'20 => (⟨[(2, .q 2 (0)), (4, .q 4 (0)), (5, .q 5 (0)), (12, .q 12 (0)), (14, .p (AV.u32 (vrd v12_2 4))), (15, .p (AV.u32 (vrd v12_2 0))), (17, .p (AV.u32 t17'20)), (99, .i t99_2)], [(2, .pure (h0.toList.map AV.u32)), (4, .pure (((Vector.replicate 8 (0 : UInt32)).toList).map AV.u32)), (5, .pure (y'16.toList.map AV.u32)), (12, .pure (v12_2.toList.map AV.u32))], 194⟩ : TS)) H ?_
     intro t17'20 H
     refine sg [0, 1, 2, 3, 4, 5, 6, 7, 8] Y ?_
     refine rp Y Y (p_move Y Y) ?_
     refine bindK H fun r'21 h25 H => ?_
     refine rp Y Y (p_callp Y Y Y Tryd.func56 Y Y (g_bits_RotateLeft32_ac h25) ⟨Y, Y, trivial⟩) ?_
     refine rp Y Y (p_move Y Y) ?_
     refine bindK H fun r'22 h26 H => ?_
     refine rp Y Y (p_callp Y Y Y Tryd.func56 Y Y (g_bits_RotateLeft32_ac h26) ⟨Y, Y, trivial⟩) ?_
     refine rp Y Y (p_u32xor (a := r'21) (b := r'22) Y Y Y) ?_
     refine rp Y Y (p_move Y Y) ?_
     refine bindK H fun r'23 h27 H => ?_
     refine rp Y Y (p_callp Y Y Y Tryd.func56 Y Y (g_bits_RotateLeft32_ac h27) ⟨Y, Y, trivial⟩) ?_
     refine rp Y Y (p_u32xor (a := r'21 ^^^ r'22) (b := r'23) Y Y Y) ?_
     refine rp Y Y (p_asg Y Y) ?_
     refine rz [(2, .q 2 (0)), (4, .q 4 (0)), (5, .q 5 (0)), (12, .q 12 (0)), (14, .p (AV.u32 (vrd v12_2 4))), (15, .p (AV.u32 (vrd v12_2 0))), (17, .p (AV.u32 t17'20)), (18, .p (AV.u32 ((r'21 ^^^ r'22) ^^^ r'23))), (99, .i t99_2)] [(2, .pure (h0.toList.map AV.u32)), (4, .pure (((Vector.replicate 8 (0 : UInt32)).toList).map AV.u32)), (5, .pure (y'16.toList.map AV.u32)), (12, .pure (v12_2.toList.map AV.u32))] Y Y Y ?_
     refine sg [0, 1, 2, 3, 4, 5, 6, 7, 8, 9, 10, 11, 12, 13, 14, 15, 16, 17] Y ?_
     refine rp Y Y (p_move Y Y) ?_
     refine rp Y Y (p_move Y Y) ?_
     refine rp Y Y (u_ixp Y Y Tryd.underlying67 in_66 Y Y (nl (vmap_len (f := AV.u32) v12_2)) Y Y (by decide)) ?_
     refine rp Y Y (u_ld Y Y Tryd.underlying66 Y Y ((Sub.refl _).trans (Sub.vmap (by decide)))) ?_
     refine rp Y Y (p_u32and (a := (vrd v12_2 0)) (b := (vrd v12_2 1)) Y Y Y) ?_
     refine rp Y Y (p_move Y Y) ?_
     refine rp Y Y (u_ixp Y Y Tryd.underlying67 in_66 Y Y (nl (vmap_len (f := AV.u32) v12_2)) Y Y (by decide)) ?_
     refine rp Y Y (u_ld Y Y Tryd.underlying66 Y Y ((Sub.refl _).trans (Sub.vmap (by decide)))) ?_
     refine rp Y Y (p_u32and (a := (vrd v12_2 0)) (b := (vrd v12_2 2)) Y Y Y) ?_
     refine rp Y Y (p_u32xor (a := (vrd v12_2 0) &&& (vrd v12_2 1)) (b := (vrd v12_2 0) &&& (vrd v12_2 2)) Y Y Y) ?_
     refine rp Y Y (u_ixp Y Y Tryd.underlying67 in_66 Y Y (nl (vmap_len (f := AV.u32) v12_2)) Y Y (by decide)) ?_
     refine rp Y Y (u_ld Y Y Tryd.underlying66 Y Y ((Sub.refl _).trans (Sub.vmap (by decide)))) ?_
     refine rp Y Y (u_ixp Y Y Tryd.underlying67 in_66 Y Y (nl (vmap_len (f := AV.u32) v12_2)) Y Y (by decide)) ?_
     refine rp Y Y (u_ld Y Y Tryd.underlying66 Y Y ((Sub.refl _).trans (Sub.vmap (by decide)))) ?_
     refine rp Y Y (p_u32and (a := (vrd v12_2 1)) (b := (vrd v12_2 2)) Y Y Y) ?_
     refine rp Y Y (p_u32xor (a := ((vrd v12_2 0) &&& (vrd v12_2 1)) ^^^ ((vrd v12_2 0) &&& (vrd v12_2 2))) (b := (vrd v12_2 1) &&& (vrd v12_2 2)) Y Y Y) ?_
     refine rp Y Y (p_u32add (a := (r'21 ^^^ r'22) ^^^ r'23) (b := (((vrd v12_2 0) &&& (vrd v12_2 1)) ^^^ ((vrd v12_2 0) &&& (vrd v12_2 2))) ^^^ ((vrd v12_2 1) &&& (vrd v12_2 2))) Y Y Y) ?_
     refine rp Y Y (p_asg Y Y) ?_
     refine rz [(2, .q 2 (0)), (4, .q 4 (0)), (5, .q 5 (0)), (12, .q 12 (0)), (14, .p (AV.u32 (vrd v12_2 4))), (15, .p (AV.u32 (vrd v12_2 0))), (17, .p (AV.u32 t17'20)), (18, .p (AV.u32 (((r'21 ^^^ r'22) ^^^ r'23) + ((((vrd v12_2 0) &&& (vrd v12_2 1)) ^^^ ((vrd v12_2 0) &&& (vrd v12_2 2))) ^^^ ((vrd v12_2 1) &&& (vrd v12_2 2)))))), (99, .i t99_2)] [(2, .pure (h0.toList.map AV.u32)), (4, .pure (((Vector.replicate 8 (0 : UInt32)).toList).map AV.u32)), (5, .pure (y'16.toList.map AV.u32)), (12, .pure (v12_2.toList.map AV.u32))] Y Y Y ?_
     refine gen1 (fun u18'24 => (⟨[(2, .q 2 (0)), (4, .q 4 (0)), (5, .q 5 (0)), (12, .q 12 (0)), (14, .p (AV.u32 (vrd v12_2 4))), (15, .p (AV.u32 (vrd v12_2 0))), (17, .p (AV.u32 t17'20)), (18, .p (AV.u32 u18'24)), (99, .i t99_2)], [(2, .pure (h0.toList.map AV.u32)), (4, .pure (((Vector.replicate 8 (0 : UInt32)).toList).map AV.u32)), (5, .pure (y'16.toList.map AV.u32)), (12, .pure (v12_2.toList.map AV.u32))], 194⟩ : TS)) H ?_
     intro u18'24 H
     refine AW2_reg [0, 1, 2, 3, 4, 5, 6, 7, 8, 9, 10, 11, 12, 13, 14, 15, 16, 17, 18] Y ?_
     refine rp Y Y (p_move Y Y) ?_
     refine rp Y Y (p_move Y Y) ?_
     refine rp Y Y (p_u32add (a := t17'20) (b := u18'24) Y Y Y) ?_
     refine rp Y Y (p_move Y Y) ?_
     refine rp Y Y (u_ixp Y Y Tryd.underlying67 in_66 Y Y (nl (vmap_len (f := AV.u32) v12_2)) Y Y (by decide)) ?_
     refine rp Y Y (u_ld Y Y Tryd.underlying66 Y Y ((Sub.refl _).trans (Sub.vmap (by decide)))) ?_
     refine rp Y Y (u_ixp Y Y Tryd.underlying67 in_66 Y Y (nl (vmap_len (f := AV.u32) v12_2)) Y Y (by decide)) ?_
     refine rp Y Y (u_ld Y Y Tryd.underlying66 Y Y ((Sub.refl _).trans (Sub.vmap (by decide)))) ?_
     refine rp Y Y (u_ixp Y Y Tryd.underlying67 in_66 Y Y (nl (vmap_len (f := AV.u32) v12_2)) Y Y (by decide)) ?_
     refine rp Y Y (u_ld Y Y Tryd.underlying66 Y Y ((Sub.refl _).trans (Sub.vmap (by decide)))) ?_
     refine rp Y Y (p_move Y Y) ?_
     refine rp Y Y (p_u32add (a := (vrd v12_2 3)) (b := t17'20) Y Y Y) ?_
     refine rp Y Y (p_move Y Y) ?_
     refine rp Y Y (u_ixp Y Y Tryd.underlying67 in_66 Y Y (nl (vmap_len (f := AV.u32) v12_2)) Y Y (by decide)) ?_
     refine rp Y Y (u_ld Y Y Tryd.underlying66 Y Y ((Sub.refl _).trans (Sub.vmap (by decide)))) ?_
     refine rp Y Y (u_ixp Y Y Tryd.underlying67 in_66 Y Y (nl (vmap_len (f := AV.u32) v12_2)) Y Y (by decide)) ?_
     refine rp Y Y (u_ld Y Y Tryd.underlying66 Y Y ((Sub.refl _).trans (Sub.vmap (by decide)))) ?_
     refine rp Y Y (u_blda Y in_67 one_67 Y Tryd.underlying67 in_66 Y Y) ?_
     refine r_op Y Y (u_st Y Y Y Y Y in_67 (vmap_len (f := AV.u32) (#v[t17'20 + u18'24, (vrd v12_2 0), (vrd v12_2 1), (vrd v12_2 2), (vrd v12_2 3) + t17'20, (vrd v12_2 4), (vrd v12_2 5), (vrd v12_2 6)])) (nl (vmap_len (f := AV.u32) v12_2)) (Upd.refl ((vmap_len (f := AV.u32) (#v[t17'20 + u18'24, (vrd v12_2 0), (vrd v12_2 1), (vrd v12_2 2), (vrd v12_2 3) + t17'20, (vrd v12_2 4), (vrd v12_2 5), (vrd v12_2 6)])).trans (vmap_len (f := AV.u32) v12_2).symm))) ?_
     refine rz [(2, .q 2 (0)), (4, .q 4 (0)), (5, .q 5 (0)), (12, .q 12 (0)), (99, .i t99_2)] [(2, .pure (h0.toList.map AV.u32)), (4, .pure (((Vector.replicate 8 (0 : UInt32)).toList).map AV.u32)), (5, .pure (y'16.toList.map AV.u32)), (12, .pure (((#v[t17'20 + u18'24, (vrd v12_2 0), (vrd v12_2 1), (vrd v12_2 2), (vrd v12_2 3) + t17'20, (vrd v12_2 4), (vrd v12_2 5), (vrd v12_2 6)]).toList).map AV.u32))] Y Y Y ?_
     refine gen1 (fun v12'25 => (⟨[(2, .q 2 (0)), (4, .q 4 (0)), (5, .q 5 (0)), (12, .q 12 (0)), (99, .i t99_2)], [(2, .pure (h0.toList.map AV.u32)), (4, .pure (((Vector.replicate 8 (0 : UInt32)).toList).map AV.u32)), (5, .pure (y'16.toList.map AV.u32)), (12, .pure (v12'25.toList.map AV.u32))], 194⟩ : TS)) H ?_
     intro v12'25 H
     refine AW2_reg [0, 1] Y ?_
     refine rp Y Y (p_bin Y Y Y Y) ?_
     refine rp Y Y (p_move Y Y) ?_
     refine rz [(2, .q 2 (0)), (4, .q 4 (0)), (5, .q 5 (0)), (12, .q 12 (0)), (99, .i (w64 (t99_2 + (1 : Int))))] [(2, .pure (h0.toList.map AV.u32)), (4, .pure (((Vector.replicate 8 (0 : UInt32)).toList).map AV.u32)), (5, .pure (y'16.toList.map AV.u32)), (12, .pure (v12'25.toList.map AV.u32))] Y Y Y ?_
     have hz := some_elim H
     subst hz
     exact ⟨Y, Y⟩
    ·replace H := ite_else h19 H
     refine as2 [(2, .q 2 (0)), (4, .q 4 (0)), (12, .q 12 (0))] [(2, .pure (h0.toList.map AV.u32)), (4, .pure (((Vector.replicate 8 (0 : UInt32)).toList).map AV.u32)), (12, .pure (v12_2.toList.map AV.u32))] Y Y Y ?_
     refine AW2_exit ?_
     refine thenQ2_exit ?_
     have hz := some_elim H
     subst hz
     exact ⟨Y, Y⟩
   ·obtain ⟨rfl, rfl⟩ := hs
    refine ⟨by simp, ?_⟩
    refine blockQ2_exit ?_
    refine AW2_seq ?_
    refine sg [0] Y ?_
    refine rp Y Y (p_move Y Y) ?_
    refine rz [(2, .q 2 (0)), (4, .q 4 (0)), (12, .q 12 (0)), (181, .i (0 : Int))] [(2, .pure (h0.toList.map AV.u32)), (4, .pure (((Vector.replicate 8 (0 : UInt32)).toList).map AV.u32)), (12, .pure (y'29.toList.map AV.u32))] Y Y Y ?_
    refine AW2_block ?_
    refine as2 [(2, .q 2 (0)), (4, .q 4 (0)), (12, .q 12 (0)), (181, .i (0 : Int))] [(2, .pure (h0.toList.map AV.u32)), (4, .pure (((Vector.replicate 8 (0 : UInt32)).toList).map AV.u32)), (12, .pure (y'29.toList.map AV.u32))] Y Y Y ?_
    refine bindK H fun y'34 h33 H => ?_
    refine AW2_loopO (fun a'31 : Int × (Vector UInt32 8) => (⟨[(2, .q 2 (0)), (4, .q 4 (0)), (12, .q 12 (0)), (181, .i a'31.1)], [(2, .pure (h0.toList.map AV.u32)), (4, .pure (((Vector.replicate 8 (0 : UInt32)).toList).map AV.u32)), (12, .pure (a'31.2.toList.map AV.u32))], 194⟩ : TS)) (fun (y'32 : ((Vector UInt32 8))) e s' => e = Go.Exit.exit 6 ∧ s' = (⟨[(4, .q 4 (0)), (12, .q 12 (0))], [(4, .pure (((Vector.replicate 8 (0 : UInt32)).toList).map AV.u32)), (12, .pure (y'32.toList.map AV.u32))], 194⟩ : TS)) h33 Y (fun a x hx => ?_) (fun e s' hs => ?_)
    ·clear H
     obtain ⟨t181_3, v12_3⟩ := a
     have H := hx
     clear hx
     unfold g_sum_turn_l3 at H
     refine sg [0] Y ?_
     refine rp Y Y (p_bin Y Y Y Y) ?_
     refine rz [(2, .q 2 (0)), (4, .q 4 (0)), (12, .q 12 (0)), (181, .i t181_3), (182, .b (decide (t181_3 < (8 : Int))))] [(2, .pure (h0.toList.map AV.u32)), (4, .pure (((Vector.replicate 8 (0 : UInt32)).toList).map AV.u32)), (12, .pure (v12_3.toList.map AV.u32))] Y Y Y ?_
     refine AW2_seq ?_
     refine AW2_if (p := t181_3 < (8 : Int)) Y (fun h29 => ?_) (fun h29 => ?_)
     ·replace H := ite_then h29 H
      refine as2 [(2, .q 2 (0)), (4, .q 4 (0)), (12, .q 12 (0)), (181, .i t181_3)] [(2, .pure (h0.toList.map AV.u32)), (4, .pure (((Vector.replicate 8 (0 : UInt32)).toList).map AV.u32)), (12, .pure (v12_3.toList.map AV.u32))] Y Y Y ?_
      refine AW2_skip ?_
      refine AW2_seq ?_
      refine AW2_block ?_
      refine sg [0, 1] Y ?_
      refine rp Y Y (p_move Y Y) ?_
      refine rp Y Y (p_asg Y Y) ?_
      refine rz [(2, .q 2 (0)), (4, .q 4 (0)), (12, .q 12 (0)), (19, .i t181_3), (181, .i t181_3)] [(2, .pure (h0.toList.map AV.u32)), (4, .pure (((Vector.replicate 8 (0 : UInt32)).toList).map AV.u32)), (12, .pure (v12_3.toList.map AV.u32))] Y Y Y ?_
      refine chkK H fun h30 H => ?_
      refine chkK H fun h31 H => ?_
      refine chkK H fun h32 H => ?_
      refine AW2_ghoQ ?_
      refine AW2_draw 6 [6, 7, 8] (fun k => ([.i t181_3, .q 12 (0 + t181_3.toNat * 1), .p (AV.u32 (vrd v12_3 t181_3.toNat)), .i t181_3, .q 2 (0 + t181_3.toNat * 1), .p (AV.u32 (vrd h0 t181_3.toNat))] : List TV).getD k TV.any) (fun k => g_sum_turn_r28.getD k []) [(2, none), (4, none), (12, none), (181, none), (184, some 0), (186, some 2), (189, some 5)] [] (fun k => g_sum_turn_r28c.getD k []) mixed (by kernel_rfl) Y Y (a_op (g_x Y (x_p Y (p_move Y Y) Y)) (a_op (g_x Y (x_p Y (u_ixp Y Y Tryd.underlying67 in_66 Y Y (nl (vmap_len (f := AV.u32) v12_3)) Y (ixe h30) (ixn h30)) Y)) (a_op (g_x Y (x_p Y (u_ld Y Y Tryd.underlying66 Y Y ((Sub.refl _).trans (Sub.vmap (ixn h30)))) Y)) (a_op (g_x Y (x_p Y (p_move Y Y) Y)) (a_op (g_x Y (x_p Y (u_ixp Y Y Tryd.underlying67 in_66 Y Y (nl (vmap_len (f := AV.u32) h0)) Y (ixe h31) (ixn h31)) Y)) (a_op (g_x Y (x_p Y (u_ld Y Y Tryd.underlying66 Y Y ((Sub.refl _).trans (Sub.vmap (ixn h31)))) Y)) (a_nil))))))) ?_
      refine t_op Y Y (PureD.opD (p_u32add (a := (vrd v12_3 t181_3.toNat)) (b := (vrd h0 t181_3.toNat)) Y Y Y)) ?_
      refine t_op Y Y (PureD.opD (u_ixp Y Y Tryd.underlying67 in_66 Y Y (nl (vmap_len (f := AV.u32) v12_3)) Y (ixe h32) (ixn h32))) ?_
      refine t_op Y Y (u_st Y Y Y Y Y in_66 Y (nl (vmap_len (f := AV.u32) v12_3)) (Upd.trans (Sub.refl _) (Upd.vmap (ixn h32)) (Upd.refl ((vmap_len (f := AV.u32) (vwr v12_3 t181_3.toNat ((vrd v12_3 t181_3.toNat) + (vrd h0 t181_3.toNat)))).trans (vmap_len (f := AV.u32) v12_3).symm)))) ?_
      refine t_gho (Gho_st (L := [(2, .q 2 (0)), (4, .q 4 (0)), (12, .q 12 (0)), (181, .i t181_3)]) (H := [(2, .pure (h0.toList.map AV.u32)), (4, .pure (((Vector.replicate 8 (0 : UInt32)).toList).map AV.u32)), (12, .pure (((vwr v12_3 t181_3.toNat ((vrd v12_3 t181_3.toNat) + (vrd h0 t181_3.toNat))).toList).map AV.u32))]) (N := 194) Y ⟨TLes.same _, TLes.same _, TLes.same _, TLes.same _, trivial⟩ ⟨Y, Y, Y, trivial⟩) ?_
      refine gen1 (fun v12'30 => (⟨[(2, .q 2 (0)), (4, .q 4 (0)), (12, .q 12 (0)), (181, .i t181_3)], [(2, .pure (h0.toList.map AV.u32)), (4, .pure (((Vector.replicate 8 (0 : UInt32)).toList).map AV.u32)), (12, .pure (v12'30.toList.map AV.u32))], 194⟩ : TS)) H ?_
      intro v12'30 H
      refine AW2_reg [0, 1] Y ?_
      refine rp Y Y (p_bin Y Y Y Y) ?_
      refine rp Y Y (p_move Y Y) ?_
      refine rz [(2, .q 2 (0)), (4, .q 4 (0)), (12, .q 12 (0)), (181, .i (w64 (t181_3 + (1 : Int))))] [(2, .pure (h0.toList.map AV.u32)), (4, .pure (((Vector.replicate 8 (0 : UInt32)).toList).map AV.u32)), (12, .pure (v12'30.toList.map AV.u32))] Y Y Y ?_
      have hz := some_elim H
      subst hz
      exact ⟨Y, Y⟩
     ·replace H := ite_else h29 H
      refine as2 [(4, .q 4 (0)), (12, .q 12 (0))] [(4, .pure (((Vector.replicate 8 (0 : UInt32)).toList).map AV.u32)), (12, .pure (v12_3.toList.map AV.u32))] Y Y Y ?_
      refine AW2_exit ?_
      refine thenQ2_exit ?_
      have hz := some_elim H
      subst hz
      exact ⟨Y, Y⟩
    ·obtain ⟨rfl, rfl⟩ := hs
     refine ⟨by simp, ?_⟩
     refine blockQ2_exit ?_
     refine sg [0, 1] Y ?_
     refine rp Y Y (u_lda Y Y Tryd.underlying67 Y in_67 Y (Nat.succ_pos _) (Sub.refl _) (vmap_len (f := AV.u32) y'34)) ?_
     refine r_op Y Y (u_st Y Y Y Y Y in_67 (vmap_len (f := AV.u32) y'34) (nl (vmap_len (f := AV.u32) (Vector.replicate 8 (0 : UInt32)))) (Upd.refl ((vmap_len (f := AV.u32) y'34).trans (vmap_len (f := AV.u32) (Vector.replicate 8 (0 : UInt32))).symm))) ?_
     refine rz [(4, .q 4 (0))] [(4, .pure (y'34.toList.map AV.u32))] Y Y Y ?_
     refine AW2_ret ?_
     have hz := some_elim H
     subst hz
     exact ⟨⟨res_cella Tryd.underlying67 Y in_67.sz Y (Sub.le (Sub.refl _) (vmap_len (f := AV.u32) y'34)) (by decide) (Sub.take (Sub.refl _) (vmap_len (f := AV.u32) y'34)), trivial⟩, trivial⟩

/-! sum.feed -/
noncomputable def g_sum_feed_l0 (b1 : List UInt8) : Int × GStream → Option ((Int × GStream) ⊕ (GStream))
  | (t15_0, s2_0) => (if t15_0 < (b1.length : Int) then (if 0 ≤ t15_0 ∧ t15_0 < (b1.length : Int) then if 0 ≤ s2_0.N ∧ s2_0.N < (64 : Int) then letO ({ s2_0 with Held := (vwr s2_0.Held s2_0.N.toNat (lrd b1 t15_0.toNat)) }) fun s2'2 => (if ({ s2'2 with N := w64 (s2'2.N + (1 : Int)) }).N = (64 : Int) then (g_sum_turn (({ s2'2 with N := w64 (s2'2.N + (1 : Int)) }).H) (({ s2'2 with N := w64 (s2'2.N + (1 : Int)) }).Held)).bind fun r'3 => letO ({ { { s2'2 with N := w64 (s2'2.N + (1 : Int)) } with H := r'3 } with Held := (Vector.replicate 64 (0 : UInt8)) }) fun s2'4 => some ({ s2'4 with N := (0 : Int) }) else some ({ s2'2 with N := w64 (s2'2.N + (1 : Int)) })) else none else none).bind fun j'1 => some (.inl (w64 (t15_0 + (1 : Int)), j'1)) else some (.inr s2_0))
noncomputable def g_sum_feed (s0 : GStream) (b1 : List UInt8) : Option (GStream) :=
  (loopO (g_sum_feed_l0 b1) ((0 : Int), { s0 with Len := w64 (s0.Len + (b1.length : Int)) })).bind fun y'8 => some y'8
set_option maxHeartbeats 4000000 in
set_option maxRecDepth 100000 in
theorem g_sum_feed_ac {s0 : GStream} {b1 : List UInt8} {r : GStream} (H : g_sum_feed s0 b1 = some r) : ACp Tryd.prog 46 [(.agg (GStream.cs s0)), (AV.bytes b1)] (.agg (GStream.cs r)) := by
 refine ACp_of (AC2_of_body (vs := [.g (GStream.cs r)]) Tryd.func46 Y Y (Nat.le_of_ble_eq_true Y) Y ?_) (fun _ => .same _)
 unfold g_sum_feed at H
 refine as2 [(0, .g (GStream.cs s0)), (1, .y b1)] [] Y Y Y ?_
 refine sg [0, 1] Y ?_
 refine r_op Y Y (MakeD.opD (n_box 2 Y Y) Y Y Y Y) ?_
 refine r_op Y Y (MakeD.opD (u_alloc 4 Y in_70 one_70 zc_70) Y Y Y Y) ?_
 refine rz [(1, .y b1), (2, .q 2 (0)), (4, .q 4 (0))] [(2, .pure (GStream.cs s0)), (4, .pure (GStream.cs GStream.zero))] Y Y Y ?_
 refine sg [0, 1, 2, 3, 4, 5, 6] Y ?_
 refine rp Y Y (u_fa Y Y Tryd.underlying70 Y in_3 nz Y Y (nl (GStream.len s0))) ?_
 refine rp Y Y (u_ld Y Y Tryd.underlying3 Y Y ((Sub.refl _).trans (GStream.sub3 s0))) ?_
 refine rp Y Y (p_move Y Y) ?_
 refine rp Y Y (p_lenl Y Tryd.underlying27 Y Y) ?_
 refine rp Y Y (p_bin Y Y Y Y) ?_
 refine rp Y Y (u_fa Y Y Tryd.underlying70 Y in_3 nz Y Y (nl (GStream.len s0))) ?_
 refine r_op Y Y (u_st Y Y Y Y Y in_3 Y (nl (GStream.len s0)) (Upd.trans (Sub.refl _) (GStream.upd3 s0 (w64 (s0.Len + (b1.length : Int)))) (Upd.refl ((GStream.len ((GStream.w3 s0 (w64 (s0.Len + (b1.length : Int)))))).trans (GStream.len s0).symm)))) ?_
 refine rz [(1, .y b1), (2, .q 2 (0)), (4, .q 4 (0))] [(2, .pure (GStream.cs ((GStream.w3 s0 (w64 (s0.Len + (b1.length : Int))))))), (4, .pure (GStream.cs GStream.zero))] Y Y Y ?_
 refine AW2_seq ?_
 refine sg [0, 1, 2] Y ?_
 refine rp Y Y (p_move Y Y) ?_
 refine rp Y Y (p_lenl Y Tryd.underlying27 Y Y) ?_
 refine rp Y Y (p_move Y Y) ?_
 refine rz [(2, .q 2 (0)), (4, .q 4 (0)), (13, .y b1), (14, .i (b1.length : Int)), (15, .i (0 : Int))] [(2, .pure (GStream.cs ((GStream.w3 s0 (w64 (s0.Len + (b1.length : Int))))))), (4, .pure (GStream.cs GStream.zero))] Y Y Y ?_
 refine AW2_block ?_
 refine as2 [(2, .q 2 (0)), (4, .q 4 (0)), (13, .y b1), (14, .i (b1.length : Int)), (15, .i (0 : Int))] [(2, .pure (GStream.cs ((GStream.w3 s0 (w64 (s0.Len + (b1.length : Int))))))), (4, .pure (GStream.cs GStream.zero))] Y Y Y ?_
 refine bindK H fun y'8 h7 H => ?_
 refine AW2_loopO (fun a'5 : Int × GStream => (⟨[(2, .q 2 (0)), (4, .q 4 (0)), (13, .y b1), (14, .i (b1.length : Int)), (15, .i a'5.1)], [(2, .pure (GStream.cs a'5.2)), (4, .pure (GStream.cs GStream.zero))], 42⟩ : TS)) (fun (y'6 : GStream) e s' => e = Go.Exit.exit 0 ∧ s' = (⟨[(2, .q 2 (0)), (4, .q 4 (0))], [(2, .pure (GStream.cs y'6)), (4, .pure (GStream.cs GStream.zero))], 42⟩ : TS)) h7 Y (fun a x hx => ?_) (fun e s' hs => ?_)
 ·clear H
  obtain ⟨t15_0, s2_0⟩ := a
  have H := hx
  clear hx
  unfold g_sum_feed_l0 at H
  refine sg [0] Y ?_
  refine rp Y Y (p_bin Y Y Y Y) ?_
  refine rz [(2, .q 2 (0)), (4, .q 4 (0)), (13, .y b1), (14, .i (b1.length : Int)), (15, .i t15_0), (16, .b (decide (t15_0 < (b1.length : Int))))] [(2, .pure (GStream.cs s2_0)), (4, .pure (GStream.cs GStream.zero))] Y Y Y ?_
  refine AW2_seq ?_
  refine AW2_if (p := t15_0 < (b1.length : Int)) Y (fun h1 => ?_) (fun h1 => ?_)
  ·replace H := ite_then h1 H
   refine as2 [(2, .q 2 (0)), (4, .q 4 (0)), (13, .y b1), (14, .i (b1.length : Int)), (15, .i t15_0)] [(2, .pure (GStream.cs s2_0)), (4, .pure (GStream.cs GStream.zero))] Y Y Y ?_
   refine AW2_skip ?_
   refine AW2_seq ?_
   refine bindK H fun j'1 h2 H => ?_
   refine AW2_mid (⟨[(2, .q 2 (0)), (4, .q 4 (0)), (13, .y b1), (14, .i (b1.length : Int)), (15, .i t15_0)], [(2, .pure (GStream.cs j'1)), (4, .pure (GStream.cs GStream.zero))], 42⟩ : TS) ?_ ?_
   ·clear H
    have H := h2
    clear h2
    refine AW2_block ?_
    refine sg [0, 1, 2] Y ?_
    refine chkK H fun h3 H => ?_
    refine rp Y Y (u_ixl Y Y Tryd.underlying27 in_5 Y Y (ixe h3) (ixn h3) (lne (ixn h3))) ?_
    refine rp Y Y (u_ld Y Y Tryd.underlying5 Y Y (Sub.map default (ixn h3))) ?_
    refine rp Y Y (p_asg Y Y) ?_
    refine rz [(2, .q 2 (0)), (4, .q 4 (0)), (6, .p (AV.b8 (lrd b1 t15_0.toNat))), (13, .y b1), (14, .i (b1.length : Int)), (15, .i t15_0)] [(2, .pure (GStream.cs s2_0)), (4, .pure (GStream.cs GStream.zero))] Y Y Y ?_
    refine sg [0, 1, 2, 3, 4, 5] Y ?_
    refine rp Y Y (u_fa Y Y Tryd.underlying70 Y in_3 nz Y Y (nl (GStream.len s2_0))) ?_
    refine rp Y Y (u_ld Y Y Tryd.underlying3 Y Y ((Sub.refl _).trans (GStream.sub2 s2_0))) ?_
    refine rp Y Y (p_move Y Y) ?_
    refine rp Y Y (u_fa Y Y Tryd.underlying70 Y in_68 nz Y Y (nl (GStream.len s2_0))) ?_
    refine chkK H fun h4 H => ?_
    refine rp Y Y (u_ixp Y Y Tryd.underlying68 in_5 Y Y (nl (GStream.len s2_0)) Y (ixe h4) (ixn h4)) ?_
    refine r_op Y Y (u_st Y Y Y Y Y in_5 Y (nl (GStream.len s2_0)) (Upd.trans ((Sub.refl _).trans (GStream.sub1 s2_0)) (Upd.vmap (ixn h4)) (Upd.trans (Sub.refl _) (GStream.upd1 s2_0 (vwr s2_0.Held s2_0.N.toNat (lrd b1 t15_0.toNat))) (Upd.refl ((GStream.len ((GStream.w1 s2_0 (vwr s2_0.Held s2_0.N.toNat (lrd b1 t15_0.toNat))))).trans (GStream.len s2_0).symm))))) ?_
    refine rz [(2, .q 2 (0)), (4, .q 4 (0)), (13, .y b1), (14, .i (b1.length : Int)), (15, .i t15_0)] [(2, .pure (GStream.cs ((GStream.w1 s2_0 (vwr s2_0.Held s2_0.N.toNat (lrd b1 t15_0.toNat)))))), (4, .pure (GStream.cs GStream.zero))] Y Y Y ?_
    refine gen1 (fun s2'2 => (⟨[(2, .q 2 (0)), (4, .q 4 (0)), (13, .y b1), (14, .i (b1.length : Int)), (15, .i t15_0)], [(2, .pure (GStream.cs s2'2)), (4, .pure (GStream.cs GStream.zero))], 42⟩ : TS)) H ?_
    intro s2'2 H
    refine sg [0, 1, 2, 3, 4] Y ?_
    refine rp Y Y (u_fa Y Y Tryd.underlying70 Y in_3 nz Y Y (nl (GStream.len s2'2))) ?_
    refine rp Y Y (u_ld Y Y Tryd.underlying3 Y Y ((Sub.refl _).trans (GStream.sub2 s2'2))) ?_
    refine rp Y Y (p_bin Y Y Y Y) ?_
    refine rp Y Y (u_fa Y Y Tryd.underlying70 Y in_3 nz Y Y (nl (GStream.len s2'2))) ?_
    refine r_op Y Y (u_st Y Y Y Y Y in_3 Y (nl (GStream.len s2'2)) (Upd.trans (Sub.refl _) (GStream.upd2 s2'2 (w64 (s2'2.N + (1 : Int)))) (Upd.refl ((GStream.len ((GStream.w2 s2'2 (w64 (s2'2.N + (1 : Int)))))).trans (GStream.len s2'2).symm)))) ?_
    refine rz [(2, .q 2 (0)), (4, .q 4 (0)), (13, .y b1), (14, .i (b1.length : Int)), (15, .i t15_0)] [(2, .pure (GStream.cs ((GStream.w2 s2'2 (w64 (s2'2.N + (1 : Int))))))), (4, .pure (GStream.cs GStream.zero))] Y Y Y ?_
    refine sg [0, 1, 2] Y ?_
    refine rp Y Y (u_fa Y Y Tryd.underlying70 Y in_3 nz Y Y (ne_of_lt (n := 0) (Nat.lt_of_lt_of_eq (by decide) (Eq.symm (GStream.len ((GStream.w2 s2'2 (w64 (s2'2.N + (1 : Int)))))))))) ?_
    refine rp Y Y (u_ld Y Y Tryd.underlying3 Y Y ((Sub.refl _).trans (GStream.sub2 ((GStream.w2 s2'2 (w64 (s2'2.N + (1 : Int)))))))) ?_
    refine rp Y Y (p_ieq Y Y Y) ?_
    refine rz [(2, .q 2 (0)), (4, .q 4 (0)), (13, .y b1), (14, .i (b1.length : Int)), (15, .i t15_0), (30, .b (decide (((GStream.w2 s2'2 (w64 (s2'2.N + (1 : Int))))).N = (64 : Int))))] [(2, .pure (GStream.cs ((GStream.w2 s2'2 (w64 (s2'2.N + (1 : Int))))))), (4, .pure (GStream.cs GStream.zero))] Y Y Y ?_
    refine AW2_if (p := ((GStream.w2 s2'2 (w64 (s2'2.N + (1 : Int))))).N = (64 : Int)) Y (fun h5 => ?_) (fun h5 => ?_)
    ·replace H := ite_then h5 H
     refine sg [0, 1, 2, 3, 4, 5, 6] Y ?_
     refine rp Y Y (u_fa Y Y Tryd.underlying70 Y in_67 nz Y Y (ne_of_lt (n := 0) (Nat.lt_of_lt_of_eq (by decide) (Eq.symm (GStream.len ((GStream.w2 s2'2 (w64 (s2'2.N + (1 : Int)))))))))) ?_
     refine rp Y Y (u_lda Y Y Tryd.underlying67 Y in_67 Y (Nat.succ_pos _) ((Sub.refl _).trans (GStream.sub0 ((GStream.w2 s2'2 (w64 (s2'2.N + (1 : Int))))))) (vmap_len (f := AV.u32) (((GStream.w2 s2'2 (w64 (s2'2.N + (1 : Int))))).H))) ?_
     refine rp Y Y (u_fa Y Y Tryd.underlying70 Y in_68 nz Y Y (ne_of_lt (n := 0) (Nat.lt_of_lt_of_eq (by decide) (Eq.symm (GStream.len ((GStream.w2 s2'2 (w64 (s2'2.N + (1 : Int)))))))))) ?_
     refine rp Y Y (u_lda Y Y Tryd.underlying68 Y in_68 Y (Nat.succ_pos _) ((Sub.refl _).trans (GStream.sub1 ((GStream.w2 s2'2 (w64 (s2'2.N + (1 : Int))))))) ((bcells_length _).trans (vlen (((GStream.w2 s2'2 (w64 (s2'2.N + (1 : Int))))).Held)))) ?_
     refine bindK H fun r'3 h6 H => ?_
     refine rp Y Y (p_callp Y Y Y Tryd.func54 Y Y (g_sum_turn_ac h6) ⟨Y, Y, trivial⟩) ?_
     refine rp Y Y (u_fa Y Y Tryd.underlying70 Y in_67 nz Y Y (ne_of_lt (n := 0) (Nat.lt_of_lt_of_eq (by decide) (Eq.symm (GStream.len ((GStream.w2 s2'2 (w64 (s2'2.N + (1 : Int)))))))))) ?_
     refine r_op Y Y (u_st Y Y Y Y Y in_67 (vmap_len (f := AV.u32) r'3) (ne_of_lt (n := 0) (Nat.lt_of_lt_of_eq (by decide) (Eq.symm (GStream.len ((GStream.w2 s2'2 (w64 (s2'2.N + (1 : Int))))))))) (Upd.trans (Sub.refl _) (GStream.upd0 ((GStream.w2 s2'2 (w64 (s2'2.N + (1 : Int))))) r'3) (Upd.refl ((GStream.len ((GStream.w0 (GStream.w2 s2'2 (w64 (s2'2.N + (1 : Int)))) r'3))).trans (GStream.len ((GStream.w2 s2'2 (w64 (s2'2.N + (1 : Int)))))).symm)))) ?_
     refine rz [(2, .q 2 (0)), (4, .q 4 (0)), (13, .y b1), (14, .i (b1.length : Int)), (15, .i t15_0)] [(2, .pure (GStream.cs ((GStream.w0 (GStream.w2 s2'2 (w64 (s2'2.N + (1 : Int)))) r'3)))), (4, .pure (GStream.cs GStream.zero))] Y Y Y ?_
     refine sg [0, 1, 2] Y ?_
     refine rp Y Y (u_blda Y in_68 one_68 zc_68 Tryd.underlying68 in_5 Y Y) ?_
     refine rp Y Y (u_fa Y Y Tryd.underlying70 Y in_68 nz Y Y (ne_of_lt (n := 0) (Nat.lt_of_lt_of_eq (by decide) (Eq.symm (GStream.len ((GStream.w0 (GStream.w2 s2'2 (w64 (s2'2.N + (1 : Int)))) r'3))))))) ?_
     refine r_op Y Y (u_st Y Y Y Y Y in_68 ((bcells_length _).trans (vlen (Vector.replicate 64 (0 : UInt8)))) (ne_of_lt (n := 0) (Nat.lt_of_lt_of_eq (by decide) (Eq.symm (GStream.len ((GStream.w0 (GStream.w2 s2'2 (w64 (s2'2.N + (1 : Int)))) r'3)))))) (Upd.trans (Sub.refl _) (GStream.upd1 ((GStream.w0 (GStream.w2 s2'2 (w64 (s2'2.N + (1 : Int)))) r'3)) (Vector.replicate 64 (0 : UInt8))) (Upd.refl ((GStream.len ((GStream.w1 (GStream.w0 (GStream.w2 s2'2 (w64 (s2'2.N + (1 : Int)))) r'3) (Vector.replicate 64 (0 : UInt8))))).trans (GStream.len ((GStream.w0 (GStream.w2 s2'2 (w64 (s2'2.N + (1 : Int)))) r'3))).symm)))) ?_
     refine rz [(2, .q 2 (0)), (4, .q 4 (0)), (13, .y b1), (14, .i (b1.length : Int)), (15, .i t15_0)] [(2, .pure (GStream.cs ((GStream.w1 (GStream.w0 (GStream.w2 s2'2 (w64 (s2'2.N + (1 : Int)))) r'3) (Vector.replicate 64 (0 : UInt8)))))), (4, .pure (GStream.cs GStream.zero))] Y Y Y ?_
     refine gen1 (fun s2'4 => (⟨[(2, .q 2 (0)), (4, .q 4 (0)), (13, .y b1), (14, .i (b1.length : Int)), (15, .i t15_0)], [(2, .pure (GStream.cs s2'4)), (4, .pure (GStream.cs GStream.zero))], 42⟩ : TS)) H ?_
     intro s2'4 H
     refine AW2_reg [0, 1] Y ?_
     refine rp Y Y (u_fa Y Y Tryd.underlying70 Y in_3 nz Y Y (nl (GStream.len s2'4))) ?_
     refine r_op Y Y (u_st Y Y Y Y Y in_3 Y (nl (GStream.len s2'4)) (Upd.trans (Sub.refl _) (GStream.upd2 s2'4 (0 : Int)) (Upd.refl ((GStream.len ((GStream.w2 s2'4 (0 : Int)))).trans (GStream.len s2'4).symm)))) ?_
     refine rz [(2, .q 2 (0)), (4, .q 4 (0)), (13, .y b1), (14, .i (b1.length : Int)), (15, .i t15_0)] [(2, .pure (GStream.cs ((GStream.w2 s2'4 (0 : Int))))), (4, .pure (GStream.cs GStream.zero))] Y Y Y ?_
     have hz := some_elim H
     subst hz
     exact rfl
    ·replace H := ite_else h5 H
     refine as2 [(2, .q 2 (0)), (4, .q 4 (0)), (13, .y b1), (14, .i (b1.length : Int)), (15, .i t15_0)] [(2, .pure (GStream.cs ((GStream.w2 s2'2 (w64 (s2'2.N + (1 : Int))))))), (4, .pure (GStream.cs GStream.zero))] Y Y Y ?_
     refine AW2_skip ?_
     have hz := some_elim H
     subst hz
     exact rfl
   ·refine AW2_reg [0, 1] Y ?_
    refine rp Y Y (p_bin Y Y Y Y) ?_
    refine rp Y Y (p_move Y Y) ?_
    refine rz [(2, .q 2 (0)), (4, .q 4 (0)), (13, .y b1), (14, .i (b1.length : Int)), (15, .i (w64 (t15_0 + (1 : Int))))] [(2, .pure (GStream.cs j'1)), (4, .pure (GStream.cs GStream.zero))] Y Y Y ?_
    have hz := some_elim H
    subst hz
    exact ⟨Y, Y⟩
  ·replace H := ite_else h1 H
   refine as2 [(2, .q 2 (0)), (4, .q 4 (0))] [(2, .pure (GStream.cs s2_0)), (4, .pure (GStream.cs GStream.zero))] Y Y Y ?_
   refine AW2_exit ?_
   refine thenQ2_exit ?_
   have hz := some_elim H
   subst hz
   exact ⟨Y, Y⟩
 ·obtain ⟨rfl, rfl⟩ := hs
  refine ⟨by simp, ?_⟩
  refine blockQ2_exit ?_
  refine sg [0, 1] Y ?_
  refine rp Y Y (u_lda Y Y Tryd.underlying70 Y in_70 Y (Nat.succ_pos _) (Sub.refl _) (GStream.len y'8)) ?_
  refine r_op Y Y (u_st Y Y Y Y Y in_70 (GStream.len y'8) (nl (GStream.len GStream.zero)) (Upd.refl ((GStream.len y'8).trans (GStream.len GStream.zero).symm))) ?_
  refine rz [(4, .q 4 (0))] [(4, .pure (GStream.cs y'8))] Y Y Y ?_
  refine AW2_ret ?_
  have hz := some_elim H
  subst hz
  exact ⟨⟨res_cella Tryd.underlying70 Y in_70.sz Y (Sub.le (Sub.refl _) (GStream.len y'8)) (by decide) (Sub.take (Sub.refl _) (GStream.len y'8)), trivial⟩, trivial⟩

/-! sum.end -/
def g_sum_end_r8 : List (List (Nat × Option Nat)) := [[(1, none)], [(3, none)], [(4, none)], [(25, some 1), (26, some 2)], [(27, some 3)], [(28, some 4)]]
def g_sum_end_r8c : List (List Nat) := [[], [], [], [1, 2], [1, 2, 3], [1, 2, 3, 4], [0, 1, 2, 3, 4, 5], [0, 1, 2, 3, 4, 5, 6]]
noncomputable def g_sum_end_l0 : GStream → Option (GStream ⊕ (GStream))
  | s1_0 => (if s1_0.N ≠ (56 : Int) then (g_sum_feed s1_0 ([(0 : UInt8)] : List UInt8)).bind fun r'2 => some (.inl r'2) else some (.inr s1_0))
noncomputable def g_sum_end_l1 (s0 : GStream) : Int × GStream → Option ((Int × GStream) ⊕ (GStream))
  | (i4_1, s1_1) => (if i4_1 ≥ (0 : Int) then if 0 ≤ i4_1 then (g_sum_feed s1_1 ([(shr_u64 ((UInt64.ofInt s0.Len) * (8 : UInt64)) i4_1.toNat).toUInt8] : List UInt8)).bind fun r'7 => some (.inl (w64 (i4_1 - (8 : Int)), r'7)) else none else some (.inr s1_1))
noncomputable def g_sum_end_l2 (y'11 : GStream) : Int × (Vector UInt8 32) → Option ((Int × (Vector UInt8 32)) ⊕ (((Vector UInt8 32))))
  | (t31_2, out5_2) => (if t31_2 < (32 : Int) then if 0 ≤ w64 (t31_2.tdiv (4 : Int)) ∧ w64 (t31_2.tdiv (4 : Int)) < (8 : Int) then if 0 ≤ w64 ((24 : Int) - (w64 ((8 : Int) * (t31_2.tmod (4 : Int))))) then if 0 ≤ t31_2 ∧ t31_2 < (32 : Int) then letO ((vwr out5_2 t31_2.toNat ((shr_u32 (vrd y'11.H ((w64 (t31_2.tdiv (4 : Int))).toNat)) ((w64 ((24 : Int) - (w64 ((8 : Int) * (t31_2.tmod (4 : Int)))))).toNat)).toUInt8))) fun out5'12 => some (.inl (w64 (t31_2 + (1 : Int)), out5'12)) else none else none else none else some (.inr out5_2))
noncomputable def g_sum_end (s0 : GStream) : Option ((Vector UInt8 32)) :=
  (g_sum_feed s0 ([(128 : UInt8)] : List UInt8)).bind fun r'1 => (loopO (g_sum_end_l0) r'1).bind fun y'6 => (loopO (g_sum_end_l1 s0) ((56 : Int), y'6)).bind fun y'11 => (loopO (g_sum_end_l2 y'11) ((0 : Int), (Vector.replicate 32 (0 : UInt8)))).bind fun y'16 => some y'16
set_option maxHeartbeats 4000000 in
set_option maxRecDepth 100000 in
theorem g_sum_end_ac {s0 : GStream} {r : (Vector UInt8 32)} (H : g_sum_end s0 = some r) : ACp Tryd.prog 45 [(.agg (GStream.cs s0))] (.agg (bcells r.toList)) := by
 refine ACp_of (AC2_of_body (vs := [.g (bcells r.toList)]) Tryd.func45 Y Y (Nat.le_of_ble_eq_true Y) Y ?_) (fun _ => .same _)
 unfold g_sum_end at H
 refine as2 [(0, .g (GStream.cs s0))] [] Y Y Y ?_
 refine sg [0, 1] Y ?_
 refine r_op Y Y (MakeD.opD (n_box 1 Y Y) Y Y Y Y) ?_
 refine r_op Y Y (MakeD.opD (u_alloc 2 Y in_62 one_62 zc_62) Y Y Y Y) ?_
 refine rz [(1, .q 1 (0)), (2, .q 2 (0))] [(1, .pure (GStream.cs s0)), (2, .pure (bcells ((Vector.replicate 32 (0 : UInt8)).toList)))] Y Y Y ?_
 refine sg [0, 1, 2, 3, 4] Y ?_
 refine rp Y Y (u_fa Y Y Tryd.underlying70 Y in_3 nz Y Y (nl (GStream.len s0))) ?_
 refine rp Y Y (u_ld Y Y Tryd.underlying3 Y Y ((Sub.refl _).trans (GStream.sub3 s0))) ?_
 refine rp Y Y (p_i_u64 Y Tryd.underlying3 Tryd.underlying78 Y) ?_
 refine rp Y Y (p_u64mul (a := UInt64.ofInt s0.Len) (b := (8 : UInt64)) Y Y Y) ?_
 refine rp Y Y (p_asg Y Y) ?_
 refine rz [(1, .q 1 (0)), (2, .q 2 (0)), (3, .p (AV.u64 ((UInt64.ofInt s0.Len) * (8 : UInt64))))] [(1, .pure (GStream.cs s0)), (2, .pure (bcells ((Vector.replicate 32 (0 : UInt8)).toList)))] Y Y Y ?_
 refine sg [0, 1, 2, 3] Y ?_
 refine rp Y Y (u_lda Y Y Tryd.underlying70 Y in_70 Y (Nat.succ_pos _) (Sub.refl _) (GStream.len s0)) ?_
 refine r_op Y Y (MakeD.opD (u_bs 12 Y Tryd.underlying27 in_5 Y one_5 (by decide) (by decide) Y Y Y) Y Y Y Y) ?_
 refine bindK H fun r'1 h1 H => ?_
 refine rp Y Y (p_calll Y Y Y Tryd.func46 Y Y (g_sum_feed_ac h1) (GStream.nl r'1) ⟨lend_p Y, lend_o Y Y Y (bl ([(128 : UInt8)] : List UInt8)) (by decide), trivial⟩) ?_
 refine r_op Y Y (u_st Y Y Y Y Y in_70 (GStream.len r'1) (nl (GStream.len s0)) (Upd.refl ((GStream.len r'1).trans (GStream.len s0).symm))) ?_
 refine rz [(1, .q 1 (0)), (2, .q 2 (0)), (3, .p (AV.u64 ((UInt64.ofInt s0.Len) * (8 : UInt64))))] [(1, .pure (GStream.cs r'1)), (2, .pure (bcells ((Vector.replicate 32 (0 : UInt8)).toList)))] Y Y Y ?_
 refine AW2_seq ?_
 refine AW2_block ?_
 refine as2 [(1, .q 1 (0)), (2, .q 2 (0)), (3, .p (AV.u64 ((UInt64.ofInt s0.Len) * (8 : UInt64))))] [(1, .pure (GStream.cs r'1)), (2, .pure (bcells ((Vector.replicate 32 (0 : UInt8)).toList)))] Y Y Y ?_
 refine bindK H fun y'6 h4 H => ?_
 refine AW2_loopO (fun a'3 : GStream => (⟨[(1, .q 1 (0)), (2, .q 2 (0)), (3, .p (AV.u64 ((UInt64.ofInt s0.Len) * (8 : UInt64))))], [(1, .pure (GStream.cs a'3)), (2, .pure (bcells ((Vector.replicate 32 (0 : UInt8)).toList)))], 49⟩ : TS)) (fun (y'4 : GStream) e s' => e = Go.Exit.exit 0 ∧ s' = (⟨[(1, .q 1 (0)), (2, .q 2 (0)), (3, .p (AV.u64 ((UInt64.ofInt s0.Len) * (8 : UInt64))))], [(1, .pure (GStream.cs y'4)), (2, .pure (bcells ((Vector.replicate 32 (0 : UInt8)).toList)))], 49⟩ : TS)) h4 Y (fun s1_0 x hx => ?_) (fun e s' hs => ?_)
 ·clear H
  have H := hx
  clear hx
  unfold g_sum_end_l0 at H
  refine AW2_seq ?_
  refine sg [0, 1, 2] Y ?_
  refine rp Y Y (u_fa Y Y Tryd.underlying70 Y in_3 nz Y Y (nl (GStream.len s1_0))) ?_
  refine rp Y Y (u_ld Y Y Tryd.underlying3 Y Y ((Sub.refl _).trans (GStream.sub2 s1_0))) ?_
  refine rp Y Y (p_ine Y Y Y) ?_
  refine rz [(1, .q 1 (0)), (2, .q 2 (0)), (3, .p (AV.u64 ((UInt64.ofInt s0.Len) * (8 : UInt64)))), (16, .b (decide (s1_0.N ≠ (56 : Int))))] [(1, .pure (GStream.cs s1_0)), (2, .pure (bcells ((Vector.replicate 32 (0 : UInt8)).toList)))] Y Y Y ?_
  refine AW2_if (p := s1_0.N ≠ (56 : Int)) Y (fun h2 => ?_) (fun h2 => ?_)
  ·replace H := ite_then h2 H
   refine as2 [(1, .q 1 (0)), (2, .q 2 (0)), (3, .p (AV.u64 ((UInt64.ofInt s0.Len) * (8 : UInt64))))] [(1, .pure (GStream.cs s1_0)), (2, .pure (bcells ((Vector.replicate 32 (0 : UInt8)).toList)))] Y Y Y ?_
   refine AW2_skip ?_
   refine AW2_block ?_
   refine AW2_reg [0, 1, 2, 3] Y ?_
   refine rp Y Y (u_lda Y Y Tryd.underlying70 Y in_70 Y (Nat.succ_pos _) (Sub.refl _) (GStream.len s1_0)) ?_
   refine r_op Y Y (MakeD.opD (u_bs 18 Y Tryd.underlying27 in_5 Y one_5 (by decide) (by decide) Y Y Y) Y Y Y Y) ?_
   refine bindK H fun r'2 h3 H => ?_
   refine rp Y Y (p_calll Y Y Y Tryd.func46 Y Y (g_sum_feed_ac h3) (GStream.nl r'2) ⟨lend_p Y, lend_o Y Y Y (bl ([(0 : UInt8)] : List UInt8)) (by decide), trivial⟩) ?_
   refine r_op Y Y (u_st Y Y Y Y Y in_70 (GStream.len r'2) (nl (GStream.len s1_0)) (Upd.refl ((GStream.len r'2).trans (GStream.len s1_0).symm))) ?_
   refine rz [(1, .q 1 (0)), (2, .q 2 (0)), (3, .p (AV.u64 ((UInt64.ofInt s0.Len) * (8 : UInt64))))] [(1, .pure (GStream.cs r'2)), (2, .pure (bcells ((Vector.replicate 32 (0 : UInt8)).toList)))] Y Y Y ?_
   have hz := some_elim H
   subst hz
   exact ⟨Y, Y⟩
  ·replace H := ite_else h2 H
   refine as2 [(1, .q 1 (0)), (2, .q 2 (0)), (3, .p (AV.u64 ((UInt64.ofInt s0.Len) * (8 : UInt64))))] [(1, .pure (GStream.cs s1_0)), (2, .pure (bcells ((Vector.replicate 32 (0 : UInt8)).toList)))] Y Y Y ?_
   refine AW2_exit ?_
   refine thenQ2_exit ?_
   have hz := some_elim H
   subst hz
   exact ⟨Y, Y⟩
 ·obtain ⟨rfl, rfl⟩ := hs
  refine ⟨by simp, ?_⟩
  refine blockQ2_exit ?_
  refine AW2_seq ?_
  refine sg [0] Y ?_
  refine rp Y Y (p_asg Y Y) ?_
  refine rz [(1, .q 1 (0)), (2, .q 2 (0)), (3, .p (AV.u64 ((UInt64.ofInt s0.Len) * (8 : UInt64)))), (4, .i (56 : Int))] [(1, .pure (GStream.cs y'6)), (2, .pure (bcells ((Vector.replicate 32 (0 : UInt8)).toList)))] Y Y Y ?_
  refine AW2_block ?_
  refine as2 [(1, .q 1 (0)), (2, .q 2 (0)), (3, .p (AV.u64 ((UInt64.ofInt s0.Len) * (8 : UInt64)))), (4, .i (56 : Int))] [(1, .pure (GStream.cs y'6)), (2, .pure (bcells ((Vector.replicate 32 (0 : UInt8)).toList)))] Y Y Y ?_
  refine bindK H fun y'11 h8 H => ?_
  refine AW2_loopO (fun a'8 : Int × GStream => (⟨[(1, .q 1 (0)), (2, .q 2 (0)), (3, .p (AV.u64 ((UInt64.ofInt s0.Len) * (8 : UInt64)))), (4, .i a'8.1)], [(1, .pure (GStream.cs a'8.2)), (2, .pure (bcells ((Vector.replicate 32 (0 : UInt8)).toList)))], 49⟩ : TS)) (fun (y'9 : GStream) e s' => e = Go.Exit.exit 2 ∧ s' = (⟨[(1, .q 1 (0)), (2, .q 2 (0))], [(1, .pure (GStream.cs y'9)), (2, .pure (bcells ((Vector.replicate 32 (0 : UInt8)).toList)))], 49⟩ : TS)) h8 Y (fun a x hx => ?_) (fun e s' hs => ?_)
  ·clear H
   obtain ⟨i4_1, s1_1⟩ := a
   have H := hx
   clear hx
   unfold g_sum_end_l1 at H
   refine AW2_seq ?_
   refine sg [0, 1] Y ?_
   refine rp Y Y (p_move Y Y) ?_
   refine rp Y Y (p_bin Y Y Y Y) ?_
   refine rz [(1, .q 1 (0)), (2, .q 2 (0)), (3, .p (AV.u64 ((UInt64.ofInt s0.Len) * (8 : UInt64)))), (4, .i i4_1), (21, .b (decide (i4_1 ≥ (0 : Int))))] [(1, .pure (GStream.cs s1_1)), (2, .pure (bcells ((Vector.replicate 32 (0 : UInt8)).toList)))] Y Y Y ?_
   refine AW2_if (p := i4_1 ≥ (0 : Int)) Y (fun h5 => ?_) (fun h5 => ?_)
   ·replace H := ite_then h5 H
    refine as2 [(1, .q 1 (0)), (2, .q 2 (0)), (3, .p (AV.u64 ((UInt64.ofInt s0.Len) * (8 : UInt64)))), (4, .i i4_1)] [(1, .pure (GStream.cs s1_1)), (2, .pure (bcells ((Vector.replicate 32 (0 : UInt8)).toList)))] Y Y Y ?_
    refine AW2_skip ?_
    refine AW2_seq ?_
    refine AW2_block ?_
    refine chkK H fun h6 H => ?_
    refine bindK H fun r'7 h7 H => ?_
    refine AW2_ghoQ ?_
    refine AW2_draw 6 [6, 7] (fun k => ([.g (GStream.cs s1_1), .p (AV.u64 ((UInt64.ofInt s0.Len) * (8 : UInt64))), .i i4_1, .p (AV.u64 (shr_u64 ((UInt64.ofInt s0.Len) * (8 : UInt64)) i4_1.toNat)), .p (AV.b8 ((shr_u64 ((UInt64.ofInt s0.Len) * (8 : UInt64)) i4_1.toNat).toUInt8)), .c (.own 29 1 1)] : List TV).getD k TV.any) (fun k => g_sum_end_r8.getD k []) [(1, none), (2, none), (3, none), (4, none), (24, some 0), (29, some 5)] [(5, 29, (bcells ([(shr_u64 ((UInt64.ofInt s0.Len) * (8 : UInt64)) i4_1.toNat).toUInt8] : List UInt8)))] (fun k => g_sum_end_r8c.getD k []) mixed (by kernel_rfl) Y Y (a_op (g_x Y (x_p Y (u_lda Y Y Tryd.underlying70 Y in_70 Y (Nat.succ_pos _) (Sub.refl _) (GStream.len s1_1)) Y)) (a_op (g_x Y (x_p Y (p_move Y Y) Y)) (a_op (g_x Y (x_p Y (p_move Y Y) Y)) (a_op (g_x Y (x_p Y (p_u64shr (n := i4_1.toNat) Y Y Y (Int.toNat_of_nonneg h6).symm) Y)) (a_op (g_x Y (x_p Y (p_u64_u8 (a := shr_u64 ((UInt64.ofInt s0.Len) * (8 : UInt64)) i4_1.toNat) Y Tryd.underlying78 Tryd.underlying5 Y) Y)) (a_op (g_x Y (x_m Y (u_bs 29 Y Tryd.underlying27 in_5 Y one_5 (by decide) (by decide) Y Y Y) Y Y)) (a_nil))))))) ?_
    refine t_op Y Y (PureD.opD (p_calll Y Y Y Tryd.func46 Y Y (g_sum_feed_ac h7) (GStream.nl r'7) ⟨lend_p Y, lend_o Y Y Y (bl ([(shr_u64 ((UInt64.ofInt s0.Len) * (8 : UInt64)) i4_1.toNat).toUInt8] : List UInt8)) (by decide), trivial⟩)) ?_
    refine t_op Y Y (u_st Y Y Y Y Y in_70 (GStream.len r'7) (nl (GStream.len s1_1)) (Upd.refl ((GStream.len r'7).trans (GStream.len s1_1).symm))) ?_
    refine t_gho (Gho_st (L := [(1, .q 1 (0)), (2, .q 2 (0)), (3, .p (AV.u64 ((UInt64.ofInt s0.Len) * (8 : UInt64)))), (4, .i i4_1)]) (H := [(1, .pure (GStream.cs r'7)), (2, .pure (bcells ((Vector.replicate 32 (0 : UInt8)).toList)))]) (N := 49) Y ⟨TLes.same _, TLes.same _, TLes.same _, TLes.same _, trivial⟩ ⟨Y, Y, trivial⟩) ?_
    refine AW2_reg [0, 1, 2] Y ?_
    refine rp Y Y (p_move Y Y) ?_
    refine rp Y Y (p_bin Y Y Y Y) ?_
    refine rp Y Y (p_asg Y Y) ?_
    refine rz [(1, .q 1 (0)), (2, .q 2 (0)), (3, .p (AV.u64 ((UInt64.ofInt s0.Len) * (8 : UInt64)))), (4, .i (w64 (i4_1 - (8 : Int))))] [(1, .pure (GStream.cs r'7)), (2, .pure (bcells ((Vector.replicate 32 (0 : UInt8)).toList)))] Y Y Y ?_
    have hz := some_elim H
    subst hz
    exact ⟨Y, Y⟩
   ·replace H := ite_else h5 H
    refine as2 [(1, .q 1 (0)), (2, .q 2 (0))] [(1, .pure (GStream.cs s1_1)), (2, .pure (bcells ((Vector.replicate 32 (0 : UInt8)).toList)))] Y Y Y ?_
    refine AW2_exit ?_
    refine thenQ2_exit ?_
    have hz := some_elim H
    subst hz
    exact ⟨Y, Y⟩
  ·obtain ⟨rfl, rfl⟩ := hs
   refine ⟨by simp, ?_⟩
   refine blockQ2_exit ?_
   refine sg [0] Y ?_
   refine r_op Y Y (MakeD.opD (u_alloc 5 Y in_62 one_62 zc_62) Y Y Y Y) ?_
   refine rz [(1, .q 1 (0)), (2, .q 2 (0)), (5, .q 5 (0))] [(1, .pure (GStream.cs y'11)), (2, .pure (bcells ((Vector.replicate 32 (0 : UInt8)).toList))), (5, .pure (bcells ((Vector.replicate 32 (0 : UInt8)).toList)))] Y Y Y ?_
   refine AW2_seq ?_
   refine sg [0] Y ?_
   refine rp Y Y (p_move Y Y) ?_
   refine rz [(1, .q 1 (0)), (2, .q 2 (0)), (5, .q 5 (0)), (31, .i (0 : Int))] [(1, .pure (GStream.cs y'11)), (2, .pure (bcells ((Vector.replicate 32 (0 : UInt8)).toList))), (5, .pure (bcells ((Vector.replicate 32 (0 : UInt8)).toList)))] Y Y Y ?_
   refine AW2_block ?_
   refine as2 [(1, .q 1 (0)), (2, .q 2 (0)), (5, .q 5 (0)), (31, .i (0 : Int))] [(1, .pure (GStream.cs y'11)), (2, .pure (bcells ((Vector.replicate 32 (0 : UInt8)).toList))), (5, .pure (bcells ((Vector.replicate 32 (0 : UInt8)).toList)))] Y Y Y ?_
   refine bindK H fun y'16 h13 H => ?_
   refine AW2_loopO (fun a'13 : Int × (Vector UInt8 32) => (⟨[(1, .q 1 (0)), (2, .q 2 (0)), (5, .q 5 (0)), (31, .i a'13.1)], [(1, .pure (GStream.cs y'11)), (2, .pure (bcells ((Vector.replicate 32 (0 : UInt8)).toList))), (5, .pure (bcells a'13.2.toList))], 49⟩ : TS)) (fun (y'14 : ((Vector UInt8 32))) e s' => e = Go.Exit.exit 4 ∧ s' = (⟨[(2, .q 2 (0)), (5, .q 5 (0))], [(2, .pure (bcells ((Vector.replicate 32 (0 : UInt8)).toList))), (5, .pure (bcells y'14.toList))], 49⟩ : TS)) h13 Y (fun a x hx => ?_) (fun e s' hs => ?_)
   ·clear H
    obtain ⟨t31_2, out5_2⟩ := a
    have H := hx
    clear hx
    unfold g_sum_end_l2 at H
    refine sg [0] Y ?_
    refine rp Y Y (p_bin Y Y Y Y) ?_
    refine rz [(1, .q 1 (0)), (2, .q 2 (0)), (5, .q 5 (0)), (31, .i t31_2), (32, .b (decide (t31_2 < (32 : Int))))] [(1, .pure (GStream.cs y'11)), (2, .pure (bcells ((Vector.replicate 32 (0 : UInt8)).toList))), (5, .pure (bcells out5_2.toList))] Y Y Y ?_
    refine AW2_seq ?_
    refine AW2_if (p := t31_2 < (32 : Int)) Y (fun h9 => ?_) (fun h9 => ?_)
    ·replace H := ite_then h9 H
     refine as2 [(1, .q 1 (0)), (2, .q 2 (0)), (5, .q 5 (0)), (31, .i t31_2)] [(1, .pure (GStream.cs y'11)), (2, .pure (bcells ((Vector.replicate 32 (0 : UInt8)).toList))), (5, .pure (bcells out5_2.toList))] Y Y Y ?_
     refine AW2_skip ?_
     refine AW2_seq ?_
     refine AW2_block ?_
     refine sg [0, 1] Y ?_
     refine rp Y Y (p_move Y Y) ?_
     refine rp Y Y (p_asg Y Y) ?_
     refine rz [(1, .q 1 (0)), (2, .q 2 (0)), (5, .q 5 (0)), (6, .i t31_2), (31, .i t31_2)] [(1, .pure (GStream.cs y'11)), (2, .pure (bcells ((Vector.replicate 32 (0 : UInt8)).toList))), (5, .pure (bcells out5_2.toList))] Y Y Y ?_
     refine AW2_reg [0, 1, 2, 3, 4, 5, 6, 7, 8, 9, 10, 11, 12, 13] Y ?_
     refine rp Y Y (p_move Y Y) ?_
     refine rp Y Y (p_move Y Y) ?_
     refine rp Y Y (p_iquo Y Y Y (by decide)) ?_
     refine rp Y Y (u_fa Y Y Tryd.underlying70 Y in_67 nz Y Y (nl (GStream.len y'11))) ?_
     refine chkK H fun h10 H => ?_
     refine rp Y Y (u_ixp Y Y Tryd.underlying67 in_66 Y Y (nl (GStream.len y'11)) Y (ixe h10) (ixn h10)) ?_
     refine rp Y Y (u_ld Y Y Tryd.underlying66 Y Y (((Sub.refl _).trans (GStream.sub0 y'11)).trans (Sub.vmap (ixn h10)))) ?_
     refine rp Y Y (p_move Y Y) ?_
     refine rp Y Y (p_irem Y Y Y (by decide)) ?_
     refine rp Y Y (p_bin Y Y Y Y) ?_
     refine rp Y Y (p_bin Y Y Y Y) ?_
     refine chkK H fun h11 H => ?_
     refine rp Y Y (p_u32shr (n := (w64 ((24 : Int) - (w64 ((8 : Int) * (t31_2.tmod (4 : Int)))))).toNat) Y Y Y (Int.toNat_of_nonneg h11).symm) ?_
     refine rp Y Y (p_u32_u8 (a := shr_u32 (vrd y'11.H ((w64 (t31_2.tdiv (4 : Int))).toNat)) ((w64 ((24 : Int) - (w64 ((8 : Int) * (t31_2.tmod (4 : Int)))))).toNat)) Y Tryd.underlying66 Tryd.underlying5 Y) ?_
     refine chkK H fun h12 H => ?_
     refine rp Y Y (u_ixp Y Y Tryd.underlying62 in_5 Y Y (nl ((bcells_length _).trans (vlen out5_2))) Y (ixe h12) (ixn h12)) ?_
     refine r_op Y Y (u_st Y Y Y Y Y in_5 Y (nl ((bcells_length _).trans (vlen out5_2))) (Upd.trans (Sub.refl _) (Upd.vmap (ixn h12)) (Upd.refl (((bcells_length _).trans (vlen (vwr out5_2 t31_2.toNat ((shr_u32 (vrd y'11.H ((w64 (t31_2.tdiv (4 : Int))).toNat)) ((w64 ((24 : Int) - (w64 ((8 : Int) * (t31_2.tmod (4 : Int)))))).toNat)).toUInt8)))).trans ((bcells_length _).trans (vlen out5_2)).symm)))) ?_
     refine rz [(1, .q 1 (0)), (2, .q 2 (0)), (5, .q 5 (0)), (31, .i t31_2)] [(1, .pure (GStream.cs y'11)), (2, .pure (bcells ((Vector.replicate 32 (0 : UInt8)).toList))), (5, .pure (bcells ((vwr out5_2 t31_2.toNat ((shr_u32 (vrd y'11.H ((w64 (t31_2.tdiv (4 : Int))).toNat)) ((w64 ((24 : Int) - (w64 ((8 : Int) * (t31_2.tmod (4 : Int)))))).toNat)).toUInt8)).toList)))] Y Y Y ?_
     refine gen1 (fun out5'12 => (⟨[(1, .q 1 (0)), (2, .q 2 (0)), (5, .q 5 (0)), (31, .i t31_2)], [(1, .pure (GStream.cs y'11)), (2, .pure (bcells ((Vector.replicate 32 (0 : UInt8)).toList))), (5, .pure (bcells out5'12.toList))], 49⟩ : TS)) H ?_
     intro out5'12 H
     refine AW2_reg [0, 1] Y ?_
     refine rp Y Y (p_bin Y Y Y Y) ?_
     refine rp Y Y (p_move Y Y) ?_
     refine rz [(1, .q 1 (0)), (2, .q 2 (0)), (5, .q 5 (0)), (31, .i (w64 (t31_2 + (1 : Int))))] [(1, .pure (GStream.cs y'11)), (2, .pure (bcells ((Vector.replicate 32 (0 : UInt8)).toList))), (5, .pure (bcells out5'12.toList))] Y Y Y ?_
     have hz := some_elim H
     subst hz
     exact ⟨Y, Y⟩
    ·replace H := ite_else h9 H
     refine as2 [(2, .q 2 (0)), (5, .q 5 (0))] [(2, .pure (bcells ((Vector.replicate 32 (0 : UInt8)).toList))), (5, .pure (bcells out5_2.toList))] Y Y Y ?_
     refine AW2_exit ?_
     refine thenQ2_exit ?_
     have hz := some_elim H
     subst hz
     exact ⟨Y, Y⟩
   ·obtain ⟨rfl, rfl⟩ := hs
    refine ⟨by simp, ?_⟩
    refine blockQ2_exit ?_
    refine sg [0, 1] Y ?_
    refine rp Y Y (u_lda Y Y Tryd.underlying62 Y in_62 Y (Nat.succ_pos _) (Sub.refl _) ((bcells_length _).trans (vlen y'16))) ?_
    refine r_op Y Y (u_st Y Y Y Y Y in_62 ((bcells_length _).trans (vlen y'16)) (nl ((bcells_length _).trans (vlen (Vector.replicate 32 (0 : UInt8))))) (Upd.refl (((bcells_length _).trans (vlen y'16)).trans ((bcells_length _).trans (vlen (Vector.replicate 32 (0 : UInt8)))).symm))) ?_
    refine rz [(2, .q 2 (0))] [(2, .pure (bcells y'16.toList))] Y Y Y ?_
    refine AW2_ret ?_
    have hz := some_elim H
    subst hz
    exact ⟨⟨res_cella Tryd.underlying62 Y in_62.sz Y (Sub.le (Sub.refl _) ((bcells_length _).trans (vlen y'16))) (by decide) (Sub.take (Sub.refl _) ((bcells_length _).trans (vlen y'16))), trivial⟩, trivial⟩

/-! sum.Sum -/
noncomputable def g_sum_Sum (b0 : List UInt8) : Option ((Vector UInt8 32)) :=
  (g_sum_Begin).bind fun r'1 => (g_sum_feed r'1 b0).bind fun r'2 => (g_sum_end r'2).bind fun r'3 => some r'3
set_option maxHeartbeats 4000000 in
set_option maxRecDepth 100000 in
theorem g_sum_Sum_ac {b0 : List UInt8} {r : (Vector UInt8 32)} (H : g_sum_Sum b0 = some r) : ACp Tryd.prog 39 [(AV.bytes b0)] (.agg (bcells r.toList)) := by
 refine ACp_of (AC2_of_body (vs := [.g (bcells r.toList)]) Tryd.func39 Y Y (Nat.le_of_ble_eq_true Y) Y ?_) (fun _ => .same _)
 unfold g_sum_Sum at H
 refine as2 [(0, .y b0)] [] Y Y Y ?_
 refine sg [0] Y ?_
 refine r_op Y Y (MakeD.opD (u_alloc 2 Y in_62 one_62 zc_62) Y Y Y Y) ?_
 refine rz [(0, .y b0), (2, .q 2 (0))] [(2, .pure (bcells ((Vector.replicate 32 (0 : UInt8)).toList)))] Y Y Y ?_
 refine sg [0, 1, 2, 3, 4] Y ?_
 refine bindK H fun r'1 h1 H => ?_
 refine rp Y Y (p_callp Y Y Y Tryd.func47 Y Y (g_sum_Begin_ac h1) trivial) ?_
 refine rp Y Y (p_move Y Y) ?_
 refine bindK H fun r'2 h2 H => ?_
 refine rp Y Y (p_callp Y Y Y Tryd.func46 Y Y (g_sum_feed_ac h2) ⟨Y, Y, trivial⟩) ?_
 refine bindK H fun r'3 h3 H => ?_
 refine rp Y Y (p_callp Y Y Y Tryd.func45 Y Y (g_sum_end_ac h3) ⟨Y, trivial⟩) ?_
 refine r_op Y Y (u_st Y Y Y Y Y in_62 ((bcells_length _).trans (vlen r'3)) (nl ((bcells_length _).trans (vlen (Vector.replicate 32 (0 : UInt8))))) (Upd.refl (((bcells_length _).trans (vlen r'3)).trans ((bcells_length _).trans (vlen (Vector.replicate 32 (0 : UInt8)))).symm))) ?_
 refine rz [(2, .q 2 (0))] [(2, .pure (bcells r'3.toList))] Y Y Y ?_
 refine AW2_ret ?_
 have hz := some_elim H
 subst hz
 exact ⟨⟨res_cella Tryd.underlying62 Y in_62.sz Y (Sub.le (Sub.refl _) ((bcells_length _).trans (vlen r'3))) (by decide) (Sub.take (Sub.refl _) ((bcells_length _).trans (vlen r'3))), trivial⟩, trivial⟩

/-! oracle.Digest -/
noncomputable def g_oracle_Digest (mode0 : Int) (tag1 : Int) (parts2 : List (List UInt8)) : Option ((List UInt8) × Int) :=
  (if (mode0 ≠ (1 : Int)) ∧ (mode0 ≠ (2 : Int)) then some ([], (2 : Int)) else (g_oracle_Frame tag1 parts2).bind fun r'1 => (if (r'1.2 ≠ (0 : Int)) ∨ (mode0 = (2 : Int)) then some (r'1.1, r'1.2) else (g_sum_Sum r'1.1).bind fun r'2 => if room (([] : List UInt8).length + r'2.toList.length) 1 then some (([] : List UInt8) ++ r'2.toList, (0 : Int)) else none))
set_option maxHeartbeats 4000000 in
set_option maxRecDepth 100000 in
theorem g_oracle_Digest_ac {mode0 : Int} {tag1 : Int} {parts2 : List (List UInt8)} {r : (List UInt8) × Int} (H : g_oracle_Digest mode0 tag1 parts2 = some r) : ACp Tryd.prog 34 [(AV.int mode0), (AV.int tag1), (AV.lists parts2)] (.tup [(AV.bytes r.1), (AV.int r.2)]) := by
 refine ACp_of (AC2_of_body (vs := [.y r.1, .i r.2]) Tryd.func34 Y Y (Nat.le_of_ble_eq_true Y) Y ?_) (fun _ => .same _)
 unfold g_oracle_Digest at H
 refine as2 [(0, .i mode0), (1, .i tag1), (2, .p (AV.lists parts2))] [] Y Y Y ?_
 refine sg [0, 1] Y ?_
 refine rp Y Y (p_asgn Y) ?_
 refine rp Y Y (p_asg Y Y) ?_
 refine rz [(0, .i mode0), (1, .i tag1), (2, .p (AV.lists parts2))] [] Y Y Y ?_
 refine AW2_seq ?_
 refine AW2_seq ?_
 refine AW2_mid (⟨[(0, .i mode0), (1, .i tag1), (2, .p (AV.lists parts2)), (16, .b (decide ((mode0 ≠ (1 : Int)) ∧ (mode0 ≠ (2 : Int)))))], [], 36⟩ : TS) ?_ ?_
 ·refine AW2_reg [0, 1, 2, 3, 4, 5] Y ?_
  refine rp Y Y (p_move Y Y) ?_
  refine rp Y Y (p_ine Y Y Y) ?_
  refine rp Y Y (p_move Y Y) ?_
  refine (Classical.em (mode0 ≠ (1 : Int))).elim (fun h1 => ?_) (fun h1 => ?_)
  ·refine r_on Y Y Y Y (dT h1) Y (PureD.opD (p_move Y Y)) ?_
   refine r_on Y Y Y Y (dT h1) Y (PureD.opD (p_ine Y Y Y)) ?_
   refine rp Y Y (p_pkt Y Y (dT h1) (tb ((and_l (p := mode0 ≠ (1 : Int)) (q := mode0 ≠ (2 : Int)) h1)))) ?_
   refine rs [(0, .i mode0), (1, .i tag1), (2, .p (AV.lists parts2)), (16, .b (decide ((mode0 ≠ (1 : Int)) ∧ (mode0 ≠ (2 : Int)))))] [] Y Y Y ?_
   exact RunW_nil rfl
  ·refine r_off Y Y Y Y (dF h1) Y Y ?_
   refine r_off Y Y Y Y (dF h1) Y Y ?_
   refine rp Y Y (p_pkf Y Y (dF h1) (tb (dF (p := (mode0 ≠ (1 : Int)) ∧ (mode0 ≠ (2 : Int))) (fun x => h1 x.1)).symm)) ?_
   refine rs [(0, .i mode0), (1, .i tag1), (2, .p (AV.lists parts2)), (16, .b (decide ((mode0 ≠ (1 : Int)) ∧ (mode0 ≠ (2 : Int)))))] [] Y Y Y ?_
   exact RunW_nil rfl
 ·refine AW2_if (p := (mode0 ≠ (1 : Int)) ∧ (mode0 ≠ (2 : Int))) Y (fun h2 => ?_) (fun h2 => ?_)
  ·replace H := ite_then h2 H
   refine sg [0, 1] Y ?_
   refine rp Y Y (p_asgn Y) ?_
   refine rp Y Y (p_asg Y Y) ?_
   refine rz [(6, .p .nil), (7, .i (2 : Int))] [] Y Y Y ?_
   refine AW2_ret ?_
   have hz := some_elim H
   subst hz
   exact ⟨⟨res_tmp TLes.nil0, res_tmp (.same _), trivial⟩, trivial⟩
  ·replace H := ite_else h2 H
   refine as2 [(0, .i mode0), (1, .i tag1), (2, .p (AV.lists parts2))] [] Y Y Y ?_
   refine AW2_skip ?_
   refine sg [0, 1, 2, 3, 4, 5, 6, 7] Y ?_
   refine rp Y Y (p_move Y Y) ?_
   refine rp Y Y (p_move Y Y) ?_
   refine bindK H fun r'1 h3 H => ?_
   refine rp Y Y (p_callp Y Y Y Tryd.func38 Y Y (g_oracle_Frame_ac h3) ⟨Y, Y, trivial⟩) ?_
   refine rp Y Y (p_move Y Y) ?_
   refine rp Y Y (p_ext Y Y Y Y) ?_
   refine rp Y Y (p_ext Y Y Y Y) ?_
   refine rp Y Y (p_asg Y Y) ?_
   refine rp Y Y (p_asg Y Y) ?_
   refine rz [(0, .i mode0), (8, .y r'1.1), (9, .i r'1.2)] [] Y Y Y ?_
   refine AW2_seq ?_
   refine AW2_seq ?_
   refine AW2_mid (⟨[(8, .y r'1.1), (9, .i r'1.2), (28, .b (decide ((r'1.2 ≠ (0 : Int)) ∨ (mode0 = (2 : Int)))))], [], 36⟩ : TS) ?_ ?_
   ·refine AW2_reg [0, 1, 2, 3, 4, 5] Y ?_
    refine rp Y Y (p_move Y Y) ?_
    refine rp Y Y (p_ine Y Y Y) ?_
    refine rp Y Y (p_move Y Y) ?_
    refine (Classical.em (r'1.2 ≠ (0 : Int))).elim (fun h4 => ?_) (fun h4 => ?_)
    ·refine r_off Y Y Y Y (dT h4) Y Y ?_
     refine r_off Y Y Y Y (dT h4) Y Y ?_
     refine rp Y Y (p_pkt Y Y (dT h4) (tb (dT (p := (r'1.2 ≠ (0 : Int)) ∨ (mode0 = (2 : Int))) (Or.inl h4)).symm)) ?_
     refine rs [(8, .y r'1.1), (9, .i r'1.2), (28, .b (decide ((r'1.2 ≠ (0 : Int)) ∨ (mode0 = (2 : Int)))))] [] Y Y Y ?_
     exact RunW_nil rfl
    ·refine r_on Y Y Y Y (dF h4) Y (PureD.opD (p_move Y Y)) ?_
     refine r_on Y Y Y Y (dF h4) Y (PureD.opD (p_ieq Y Y Y)) ?_
     refine rp Y Y (p_pkf Y Y (dF h4) (tb ((or_l (p := r'1.2 ≠ (0 : Int)) (q := mode0 = (2 : Int)) h4)))) ?_
     refine rs [(8, .y r'1.1), (9, .i r'1.2), (28, .b (decide ((r'1.2 ≠ (0 : Int)) ∨ (mode0 = (2 : Int)))))] [] Y Y Y ?_
     exact RunW_nil rfl
   ·refine AW2_if (p := (r'1.2 ≠ (0 : Int)) ∨ (mode0 = (2 : Int))) Y (fun h5 => ?_) (fun h5 => ?_)
    ·replace H := ite_then h5 H
     refine sg [0, 1, 2, 3] Y ?_
     refine rp Y Y (p_move Y Y) ?_
     refine rp Y Y (p_move Y Y) ?_
     refine rp Y Y (p_asg Y Y) ?_
     refine rp Y Y (p_asg Y Y) ?_
     refine rz [(6, .y r'1.1), (7, .i r'1.2)] [] Y Y Y ?_
     refine AW2_ret ?_
     have hz := some_elim H
     subst hz
     exact ⟨⟨res_tmp (.same _), res_tmp (.same _), trivial⟩, trivial⟩
    ·replace H := ite_else h5 H
     refine as2 [(8, .y r'1.1)] [] Y Y Y ?_
     refine AW2_skip ?_
     refine sg [0, 1, 2, 3] Y ?_
     refine rp Y Y (p_move Y Y) ?_
     refine bindK H fun r'2 h6 H => ?_
     refine rp Y Y (p_callp Y Y Y Tryd.func39 Y Y (g_sum_Sum_ac h6) ⟨Y, trivial⟩) ?_
     refine r_op Y Y (MakeD.opD (u_alloc 10 Y in_62 one_62 zc_62) Y Y Y Y) ?_
     refine r_op Y Y (u_st Y Y Y Y Y in_62 ((bcells_length _).trans (vlen r'2)) (nl ((bcells_length _).trans (vlen (Vector.replicate 32 (0 : UInt8))))) (Upd.refl (((bcells_length _).trans (vlen r'2)).trans ((bcells_length _).trans (vlen (Vector.replicate 32 (0 : UInt8)))).symm))) ?_
     refine rz [(10, .q 10 (0))] [(10, .pure (bcells r'2.toList))] Y Y Y ?_
     refine sg [0, 1, 2, 3, 4] Y ?_
     refine r_op Y Y (MakeD.opD (n_bs0 33 Y Tryd.underlying27 in_5) Y Y Y Y) ?_
     refine rp Y Y (u_cuta Y Y Tryd.underlying62 in_5 Y Y (nl ((bcells_length _).trans (vlen r'2))) (Sub.refl _) (((bcells_length _).trans (vlen r'2)).trans (by decide))) ?_
     refine chkK H fun h7 H => ?_
     refine r_op Y Y (u_app [33] Y Y Y Y Tryd.underlying27 Tryd.underlying27 in_5 Y Y Y (bl ([] : List UInt8)) (by decide) (src_sll Y Y (nl ((bcells_length _).trans (vlen r'2))) (Sub.refl _) (((bcells_length _).trans (vlen r'2)).trans (by decide)) (vlen _)) (bl r'2.toList) h7 (by decide) Y Y (bapp ([] : List UInt8) r'2.toList) (lapp ([] : List UInt8) r'2.toList)) ?_
     refine rp Y Y (p_asg Y Y) ?_
     refine rp Y Y (p_asg Y Y) ?_
     refine rs [(6, .c (.own 33 (([] : List UInt8) ++ r'2.toList).length 1)), (7, .i (0 : Int))] [(33, .pure (bcells (([] : List UInt8) ++ r'2.toList)))] Y Y Y ?_
     refine RunW_gho (Gho_ren 33 6 Y Y Y Y Y) ?_
     refine rz [(6, .c (.own 6 (([] : List UInt8) ++ r'2.toList).length 1)), (7, .i (0 : Int))] [(6, .pure (bcells (([] : List UInt8) ++ r'2.toList)))] Y Y Y ?_
     refine AW2_gho (Gho_pubs [6] ⟨Y, trivial⟩ Y (bl (([] : List UInt8) ++ r'2.toList)) (by decide)) ?_
     refine AW2_ret ?_
     have hz := some_elim H
     subst hz
     exact ⟨⟨res_tmp (.same _), res_tmp (.same _), trivial⟩, trivial⟩

/-! slots.Leaf -/
noncomputable def g_slots_Leaf (mode0 : Int) (s1 : GSlot) : Option ((List UInt8) × Int) :=
  (g_slots_modes mode0).bind fun r'1 => (if (!r'1) = true then some ([], (2 : Int)) else (if ((!s1.Full) = true) ∧ ((s1.Data.length : Int) > (0 : Int)) then some ([], (3 : Int)) else (if ((s1.Salt.length : Int) > (80 : Int)) ∨ ((s1.Data.length : Int) > (400 : Int)) then some ([], (1 : Int)) else ((if s1.Full = true then if room (([(1 : UInt8)] : List UInt8).length + s1.Data.length) 1 then some (([(1 : UInt8)] : List UInt8) ++ s1.Data) else none else some ([(0 : UInt8)] : List UInt8))).bind fun j'2 => (g_oracle_Digest mode0 (1 : Int) ([s1.Salt, j'2] : List (List UInt8))).bind fun r'3 => some (r'3.1, r'3.2))))
set_option maxHeartbeats 4000000 in
set_option maxRecDepth 100000 in
theorem g_slots_Leaf_ac {mode0 : Int} {s1 : GSlot} {r : (List UInt8) × Int} (H : g_slots_Leaf mode0 s1 = some r) : ACp Tryd.prog 27 [(AV.int mode0), (.agg (GSlot.cs s1))] (.tup [(AV.bytes r.1), (AV.int r.2)]) := by
 refine ACp_of (AC2_of_body (vs := [.y r.1, .i r.2]) Tryd.func27 Y Y (Nat.le_of_ble_eq_true Y) Y ?_) (fun _ => .same _)
 unfold g_slots_Leaf at H
 refine as2 [(0, .i mode0), (1, .g (GSlot.cs s1))] [] Y Y Y ?_
 refine sg [0, 1, 2] Y ?_
 refine r_op Y Y (MakeD.opD (n_box 3 Y Y) Y Y Y Y) ?_
 refine rp Y Y (p_asgn Y) ?_
 refine rp Y Y (p_asg Y Y) ?_
 refine rz [(0, .i mode0), (3, .q 3 (0))] [(3, .pure (GSlot.cs s1))] Y Y Y ?_
 refine AW2_seq ?_
 refine sg [0, 1, 2] Y ?_
 refine rp Y Y (p_move Y Y) ?_
 refine bindK H fun r'1 h1 H => ?_
 refine rp Y Y (p_callp Y Y Y Tryd.func11 Y Y (g_slots_modes_ac h1) ⟨Y, trivial⟩) ?_
 refine rp Y Y (p_not Y Y) ?_
 refine rz [(0, .i mode0), (3, .q 3 (0)), (9, .b (!r'1))] [(3, .pure (GSlot.cs s1))] Y Y Y ?_
 refine AW2_cond Y (fun h2 => ?_) (fun h2 => ?_)
 ·replace H := ite_then h2 H
  refine sg [0, 1] Y ?_
  refine rp Y Y (p_asgn Y) ?_
  refine rp Y Y (p_asg Y Y) ?_
  refine rz [(4, .p .nil), (5, .i (2 : Int))] [] Y Y Y ?_
  refine AW2_ret ?_
  have hz := some_elim H
  subst hz
  exact ⟨⟨res_tmp TLes.nil0, res_tmp (.same _), trivial⟩, trivial⟩
 ·replace H := ite_else (ne_true h2) H
  refine as2 [(0, .i mode0), (3, .q 3 (0))] [(3, .pure (GSlot.cs s1))] Y Y Y ?_
  refine AW2_skip ?_
  refine AW2_seq ?_
  refine AW2_seq ?_
  refine AW2_mid (⟨[(0, .i mode0), (3, .q 3 (0)), (18, .b (decide (((!s1.Full) = true) ∧ ((s1.Data.length : Int) > (0 : Int)))))], [(3, .pure (GSlot.cs s1))], 44⟩ : TS) ?_ ?_
  ·refine AW2_reg [0, 1, 2, 3, 4, 5, 6, 7, 8] Y ?_
   refine rp Y Y (u_fa Y Y Tryd.underlying49 Y in_4 nz Y Y (nl (GSlot.len s1))) ?_
   refine rp Y Y (u_ld Y Y Tryd.underlying4 Y Y ((Sub.refl _).trans (GSlot.sub0 s1))) ?_
   refine rp Y Y (p_not Y Y) ?_
   refine rp Y Y (p_move Y Y) ?_
   refine (Classical.em ((!s1.Full) = true)).elim (fun h3 => ?_) (fun h3 => ?_)
   ·refine rn Y Y Y Y h3 Y (u_fa Y Y Tryd.underlying49 Y in_27 nz Y Y (nl (GSlot.len s1))) ?_
    refine rn Y Y Y Y h3 Y (u_ld Y Y Tryd.underlying27 Y Y ((Sub.refl _).trans (GSlot.sub2 s1))) ?_
    refine rn Y Y Y Y h3 Y (p_lenl Y Tryd.underlying27 Y Y) ?_
    refine rn Y Y Y Y h3 Y (p_bin Y Y Y Y) ?_
    refine rp Y Y (p_pkt Y Y h3 (tb ((and_l (p := (!s1.Full) = true) (q := (s1.Data.length : Int) > (0 : Int)) h3)))) ?_
    refine rs [(0, .i mode0), (3, .q 3 (0)), (18, .b (decide (((!s1.Full) = true) ∧ ((s1.Data.length : Int) > (0 : Int)))))] [(3, .pure (GSlot.cs s1))] Y Y Y ?_
    exact RunW_nil rfl
   ·refine r_off Y Y Y Y (bfalse h3) Y Y ?_
    refine r_off Y Y Y Y (bfalse h3) Y Y ?_
    refine r_off Y Y Y Y (bfalse h3) Y Y ?_
    refine r_off Y Y Y Y (bfalse h3) Y Y ?_
    refine rp Y Y (p_pkf Y Y (bfalse h3) (tb (dF (p := ((!s1.Full) = true) ∧ ((s1.Data.length : Int) > (0 : Int))) (fun x => h3 x.1)).symm)) ?_
    refine rs [(0, .i mode0), (3, .q 3 (0)), (18, .b (decide (((!s1.Full) = true) ∧ ((s1.Data.length : Int) > (0 : Int)))))] [(3, .pure (GSlot.cs s1))] Y Y Y ?_
    exact RunW_nil rfl
  ·refine AW2_if (p := ((!s1.Full) = true) ∧ ((s1.Data.length : Int) > (0 : Int))) Y (fun h4 => ?_) (fun h4 => ?_)
   ·replace H := ite_then h4 H
    refine sg [0, 1] Y ?_
    refine rp Y Y (p_asgn Y) ?_
    refine rp Y Y (p_asg Y Y) ?_
    refine rz [(4, .p .nil), (5, .i (3 : Int))] [] Y Y Y ?_
    refine AW2_ret ?_
    have hz := some_elim H
    subst hz
    exact ⟨⟨res_tmp TLes.nil0, res_tmp (.same _), trivial⟩, trivial⟩
   ·replace H := ite_else h4 H
    refine as2 [(0, .i mode0), (3, .q 3 (0))] [(3, .pure (GSlot.cs s1))] Y Y Y ?_
    refine AW2_skip ?_
    refine AW2_seq ?_
    refine AW2_seq ?_
    refine AW2_mid (⟨[(0, .i mode0), (3, .q 3 (0)), (28, .b (decide (((s1.Salt.length : Int) > (80 : Int)) ∨ ((s1.Data.length : Int) > (400 : Int)))))], [(3, .pure (GSlot.cs s1))], 44⟩ : TS) ?_ ?_
    ·refine AW2_reg [0, 1, 2, 3, 4, 5, 6, 7, 8, 9] Y ?_
     refine rp Y Y (u_fa Y Y Tryd.underlying49 Y in_27 nz Y Y (nl (GSlot.len s1))) ?_
     refine rp Y Y (u_ld Y Y Tryd.underlying27 Y Y ((Sub.refl _).trans (GSlot.sub1 s1))) ?_
     refine rp Y Y (p_lenl Y Tryd.underlying27 Y Y) ?_
     refine rp Y Y (p_bin Y Y Y Y) ?_
     refine rp Y Y (p_move Y Y) ?_
     refine (Classical.em ((s1.Salt.length : Int) > (80 : Int))).elim (fun h5 => ?_) (fun h5 => ?_)
     ·refine r_off Y Y Y Y (dT h5) Y Y ?_
      refine r_off Y Y Y Y (dT h5) Y Y ?_
      refine r_off Y Y Y Y (dT h5) Y Y ?_
      refine r_off Y Y Y Y (dT h5) Y Y ?_
      refine rp Y Y (p_pkt Y Y (dT h5) (tb (dT (p := ((s1.Salt.length : Int) > (80 : Int)) ∨ ((s1.Data.length : Int) > (400 : Int))) (Or.inl h5)).symm)) ?_
      refine rs [(0, .i mode0), (3, .q 3 (0)), (28, .b (decide (((s1.Salt.length : Int) > (80 : Int)) ∨ ((s1.Data.length : Int) > (400 : Int)))))] [(3, .pure (GSlot.cs s1))] Y Y Y ?_
      exact RunW_nil rfl
     ·refine r_on Y Y Y Y (dF h5) Y (PureD.opD (u_fa Y Y Tryd.underlying49 Y in_27 nz Y Y (nl (GSlot.len s1)))) ?_
      refine r_on Y Y Y Y (dF h5) Y (PureD.opD (u_ld Y Y Tryd.underlying27 Y Y ((Sub.refl _).trans (GSlot.sub2 s1)))) ?_
      refine r_on Y Y Y Y (dF h5) Y (PureD.opD (p_lenl Y Tryd.underlying27 Y Y)) ?_
      refine r_on Y Y Y Y (dF h5) Y (PureD.opD (p_bin Y Y Y Y)) ?_
      refine rp Y Y (p_pkf Y Y (dF h5) (tb ((or_l (p := (s1.Salt.length : Int) > (80 : Int)) (q := (s1.Data.length : Int) > (400 : Int)) h5)))) ?_
      refine rs [(0, .i mode0), (3, .q 3 (0)), (28, .b (decide (((s1.Salt.length : Int) > (80 : Int)) ∨ ((s1.Data.length : Int) > (400 : Int)))))] [(3, .pure (GSlot.cs s1))] Y Y Y ?_
      exact RunW_nil rfl
    ·refine AW2_if (p := ((s1.Salt.length : Int) > (80 : Int)) ∨ ((s1.Data.length : Int) > (400 : Int))) Y (fun h6 => ?_) (fun h6 => ?_)
     ·replace H := ite_then h6 H
      refine sg [0, 1] Y ?_
      refine rp Y Y (p_asgn Y) ?_
      refine rp Y Y (p_asg Y Y) ?_
      refine rz [(4, .p .nil), (5, .i (1 : Int))] [] Y Y Y ?_
      refine AW2_ret ?_
      have hz := some_elim H
      subst hz
      exact ⟨⟨res_tmp TLes.nil0, res_tmp (.same _), trivial⟩, trivial⟩
     ·replace H := ite_else h6 H
      refine as2 [(0, .i mode0), (3, .q 3 (0))] [(3, .pure (GSlot.cs s1))] Y Y Y ?_
      refine AW2_skip ?_
      refine sg [0, 1] Y ?_
      refine r_op Y Y (MakeD.opD (u_bs 29 Y Tryd.underlying27 in_5 Y one_5 (by decide) (by decide) Y Y Y) Y Y Y Y) ?_
      refine rp Y Y (p_asg Y Y) ?_
      refine RunW_st [(0, .i mode0), (3, .q 3 (0)), (6, .c (.own 29 ([(0 : UInt8)] : List UInt8).length 1))] [(3, .pure (GSlot.cs s1)), (29, .pure (bcells ([(0 : UInt8)] : List UInt8)))] Y ⟨TLes.same _, TLes.same _, TLes.own Y, trivial⟩ ⟨Y, Y, trivial⟩ ?_
      refine RunW_gho (Gho_ren 29 6 Y Y Y Y Y) ?_
      refine rz [(0, .i mode0), (3, .q 3 (0)), (6, .c (.own 6 ([(0 : UInt8)] : List UInt8).length 1))] [(3, .pure (GSlot.cs s1)), (6, .pure (bcells ([(0 : UInt8)] : List UInt8)))] Y Y Y ?_
      refine AW2_seq ?_
      refine bindK H fun j'2 h7 H => ?_
      refine AW2_mid (⟨[(0, .i mode0), (3, .q 3 (0)), (6, .c (.own 6 j'2.length 1))], [(3, .pure (GSlot.cs s1)), (6, .pure (bcells j'2))], 44⟩ : TS) ?_ ?_
      ·clear H
       have H := h7
       clear h7
       refine sg [0, 1] Y ?_
       refine rp Y Y (u_fa Y Y Tryd.underlying49 Y in_4 nz Y Y (nl (GSlot.len s1))) ?_
       refine rp Y Y (u_ld Y Y Tryd.underlying4 Y Y ((Sub.refl _).trans (GSlot.sub0 s1))) ?_
       refine rz [(0, .i mode0), (3, .q 3 (0)), (6, .c (.own 6 ([(0 : UInt8)] : List UInt8).length 1)), (31, .b s1.Full)] [(3, .pure (GSlot.cs s1)), (6, .pure (bcells ([(0 : UInt8)] : List UInt8)))] Y Y Y ?_
       refine AW2_cond Y (fun h8 => ?_) (fun h8 => ?_)
       ·replace H := ite_then h8 H
        refine AW2_reg [0, 1, 2, 3, 4] Y ?_
        refine r_op Y Y (MakeD.opD (u_bs 32 Y Tryd.underlying27 in_5 Y one_5 (by decide) (by decide) Y Y Y) Y Y Y Y) ?_
        refine rp Y Y (u_fa Y Y Tryd.underlying49 Y in_27 nz Y Y (nl (GSlot.len s1))) ?_
        refine rp Y Y (u_ld Y Y Tryd.underlying27 Y Y ((Sub.refl _).trans (GSlot.sub2 s1))) ?_
        refine chkK H fun h9 H => ?_
        refine r_op Y Y (u_app [32] Y Y Y Y Tryd.underlying27 Tryd.underlying27 in_5 Y Y Y (bl ([(1 : UInt8)] : List UInt8)) (by decide) Y (bl s1.Data) h9 (by decide) Y Y (bapp ([(1 : UInt8)] : List UInt8) s1.Data) (lapp ([(1 : UInt8)] : List UInt8) s1.Data)) ?_
        refine rp Y Y (p_asg Y Y) ?_
        refine rs [(0, .i mode0), (3, .q 3 (0)), (6, .c (.own 32 (([(1 : UInt8)] : List UInt8) ++ s1.Data).length 1))] [(3, .pure (GSlot.cs s1)), (32, .pure (bcells (([(1 : UInt8)] : List UInt8) ++ s1.Data)))] Y Y Y ?_
        refine RunW_gho (Gho_ren 32 6 Y Y Y Y Y) ?_
        refine rz [(0, .i mode0), (3, .q 3 (0)), (6, .c (.own 6 (([(1 : UInt8)] : List UInt8) ++ s1.Data).length 1))] [(3, .pure (GSlot.cs s1)), (6, .pure (bcells (([(1 : UInt8)] : List UInt8) ++ s1.Data)))] Y Y Y ?_
        have hz := some_elim H
        subst hz
        exact rfl
       ·replace H := ite_else (ne_true h8) H
        refine as2 [(0, .i mode0), (3, .q 3 (0)), (6, .c (.own 6 ([(0 : UInt8)] : List UInt8).length 1))] [(3, .pure (GSlot.cs s1)), (6, .pure (bcells ([(0 : UInt8)] : List UInt8)))] Y Y Y ?_
        refine AW2_skip ?_
        have hz := some_elim H
        subst hz
        exact rfl
      ·refine sg [0, 1, 2, 3, 4, 5, 6, 7, 8, 9] Y ?_
       refine rp Y Y (p_move Y Y) ?_
       refine rp Y Y (u_fa Y Y Tryd.underlying49 Y in_27 nz Y Y (nl (GSlot.len s1))) ?_
       refine rp Y Y (u_ld Y Y Tryd.underlying27 Y Y ((Sub.refl _).trans (GSlot.sub1 s1))) ?_
       refine rp Y Y (p_move Y Y) ?_
       refine RunW_gho (Gho_pubs [6, 39] ⟨Y, Y, trivial⟩ Y (bl j'2) (by decide)) ?_
       refine r_op Y Y (MakeD.opD (u_bs 40 Y Tryd.underlying24 in_27 Y one_27 (by decide) (by decide) Y Y Y) Y Y Y Y) ?_
       refine RunW_st [(0, .i mode0), (3, .q 3 (0)), (6, .y j'2), (36, .i mode0), (37, .q 3 (0 + 1)), (38, .y s1.Salt), (39, .y j'2), (40, .c (.own 40 ([s1.Salt, j'2] : List (List UInt8)).length 1))] [(3, .pure (GSlot.cs s1)), (40, .pure (([s1.Salt, j'2] : List (List UInt8)).map AV.bytes))] Y ⟨TLes.same _, TLes.same _, TLes.same _, TLes.same _, TLes.same _, TLes.same _, TLes.same _, TLes.own Y, trivial⟩ ⟨Y, Y, trivial⟩ ?_
       refine RunW_gho (Gho_pubs [40] ⟨Y, trivial⟩ Y (ml AV.bytes ([s1.Salt, j'2] : List (List UInt8))) (by decide)) ?_
       refine bindK H fun r'3 h10 H => ?_
       refine rp Y Y (p_callp Y Y Y Tryd.func34 Y Y (g_oracle_Digest_ac h10) ⟨Y, Y, Y, trivial⟩) ?_
       refine rp Y Y (p_ext Y Y Y Y) ?_
       refine rp Y Y (p_ext Y Y Y Y) ?_
       refine rp Y Y (p_asg Y Y) ?_
       refine rp Y Y (p_asg Y Y) ?_
       refine rz [(4, .y r'3.1), (5, .i r'3.2)] [] Y Y Y ?_
       refine AW2_ret ?_
       have hz := some_elim H
       subst hz
       exact ⟨⟨res_tmp (.same _), res_tmp (.same _), trivial⟩, trivial⟩

/-! slots.node -/
noncomputable def g_slots_node (mode0 : Int) (l1 : List UInt8) (r2 : List UInt8) : Option ((List UInt8) × Int) :=
  (g_oracle_Digest mode0 (2 : Int) ([l1, r2] : List (List UInt8))).bind fun r'1 => some (r'1.1, r'1.2)
set_option maxHeartbeats 4000000 in
set_option maxRecDepth 100000 in
theorem g_slots_node_ac {mode0 : Int} {l1 : List UInt8} {r2 : List UInt8} {r : (List UInt8) × Int} (H : g_slots_node mode0 l1 r2 = some r) : ACp Tryd.prog 28 [(AV.int mode0), (AV.bytes l1), (AV.bytes r2)] (.tup [(AV.bytes r.1), (AV.int r.2)]) := by
 refine ACp_of (AC2_of_body (vs := [.y r.1, .i r.2]) Tryd.func28 Y Y (Nat.le_of_ble_eq_true Y) Y ?_) (fun _ => .same _)
 unfold g_slots_node at H
 refine as2 [(0, .i mode0), (1, .y l1), (2, .y r2)] [] Y Y Y ?_
 refine sg [0, 1] Y ?_
 refine rp Y Y (p_asgn Y) ?_
 refine rp Y Y (p_asg Y Y) ?_
 refine rz [(0, .i mode0), (1, .y l1), (2, .y r2)] [] Y Y Y ?_
 refine sg [0, 1, 2, 3, 4, 5, 6, 7, 8] Y ?_
 refine rp Y Y (p_move Y Y) ?_
 refine rp Y Y (p_move Y Y) ?_
 refine rp Y Y (p_move Y Y) ?_
 refine r_op Y Y (MakeD.opD (u_bs 11 Y Tryd.underlying24 in_27 Y one_27 (by decide) (by decide) Y Y Y) Y Y Y Y) ?_
 refine RunW_st [(0, .i mode0), (1, .y l1), (2, .y r2), (8, .i mode0), (9, .y l1), (10, .y r2), (11, .c (.own 11 ([l1, r2] : List (List UInt8)).length 1))] [(11, .pure (([l1, r2] : List (List UInt8)).map AV.bytes))] Y ⟨TLes.same _, TLes.same _, TLes.same _, TLes.same _, TLes.same _, TLes.same _, TLes.own Y, trivial⟩ ⟨Y, trivial⟩ ?_
 refine RunW_gho (Gho_pubs [11] ⟨Y, trivial⟩ Y (ml AV.bytes ([l1, r2] : List (List UInt8))) (by decide)) ?_
 refine bindK H fun r'1 h1 H => ?_
 refine rp Y Y (p_callp Y Y Y Tryd.func34 Y Y (g_oracle_Digest_ac h1) ⟨Y, Y, Y, trivial⟩) ?_
 refine rp Y Y (p_ext Y Y Y Y) ?_
 refine rp Y Y (p_ext Y Y Y Y) ?_
 refine rp Y Y (p_asg Y Y) ?_
 refine rp Y Y (p_asg Y Y) ?_
 refine rz [(6, .y r'1.1), (7, .i r'1.2)] [] Y Y Y ?_
 refine AW2_ret ?_
 have hz := some_elim H
 subst hz
 exact ⟨⟨res_tmp (.same _), res_tmp (.same _), trivial⟩, trivial⟩

/-! slots.build -/
noncomputable def g_slots_build_i0_b (R' : Int → (List Bool) → GCover → Option ((List UInt8) × Bool × GCover)) (mode0 : Int) (open1 : List Bool) (c2 : GCover) : Option ((List UInt8) × Bool × GCover) :=
  (g_slots_some open1).bind fun r'1 => (if (!r'1) = true then (if (c2.Rest.length : Int) = (0 : Int) then some ([], false, c2) else if 0 < c2.Rest.length then if 0 ≤ (1 : Int) ∧ (1 : Int) ≤ (c2.Rest.length : Int) then some ((lrd c2.Rest 0), true, { c2 with Rest := (cut c2.Rest (1 : Int) (c2.Rest.length : Int)) }) else none else none) else (if (open1.length : Int) = (1 : Int) then (if (c2.Open.length : Int) = (0 : Int) then some ([], false, c2) else if 0 < c2.Open.length then if 0 ≤ (1 : Int) ∧ (1 : Int) ≤ (c2.Open.length : Int) then (g_slots_Leaf mode0 (lrd c2.Open 0)).bind fun r'2 => some (r'2.1, (decide (r'2.2 = (0 : Int))), { c2 with Open := (cut c2.Open (1 : Int) (c2.Open.length : Int)) }) else none else none) else if 0 ≤ w64 ((open1.length : Int).tdiv (2 : Int)) ∧ w64 ((open1.length : Int).tdiv (2 : Int)) ≤ (open1.length : Int) then (R' mode0 (cut open1 (0 : Int) (w64 ((open1.length : Int).tdiv (2 : Int)))) c2).bind fun r'3 => (if (!r'3.2.1) = true then some ([], false, r'3.2.2) else if 0 ≤ w64 ((open1.length : Int).tdiv (2 : Int)) ∧ w64 ((open1.length : Int).tdiv (2 : Int)) ≤ (open1.length : Int) then (R' mode0 (cut open1 (w64 ((open1.length : Int).tdiv (2 : Int))) (open1.length : Int)) r'3.2.2).bind fun r'4 => (if (!r'4.2.1) = true then some ([], false, r'4.2.2) else (g_slots_node mode0 r'3.1 r'4.1).bind fun r'5 => some (r'5.1, (decide (r'5.2 = (0 : Int))), r'4.2.2)) else none) else none))
noncomputable def g_slots_build_i0 : Nat → Int → (List Bool) → GCover → Option ((List UInt8) × Bool × GCover)
  | 0, _, _, _ => none
  | fu + 1, mode0, open1, c2 => g_slots_build_i0_b (g_slots_build_i0 fu) mode0 open1 c2
set_option maxHeartbeats 4000000 in
set_option maxRecDepth 100000 in
theorem g_slots_build_i0_ac0 {R' : Int → (List Bool) → GCover → Option ((List UInt8) × Bool × GCover)} (hR2 : ∀ {mode0 : Int} {open1 : List Bool} {c2 : GCover} {r : (List UInt8) × Bool × GCover}, R' mode0 open1 c2 = some r → AC2 Tryd.prog 13 [.p ((AV.int mode0)), .p (((fun q : List Bool => AV.lst (q.map AV.bool) q.length) open1)), .q 2002 0] [(2002, .pure (GCover.cs c2))] (retV [.y r.1, .b r.2.1]) [(2002, .pure (GCover.cs r.2.2))]) {mode0 : Int} {open1 : List Bool} {c2 : GCover} {r : (List UInt8) × Bool × GCover} (H : g_slots_build_i0_b R' mode0 open1 c2 = some r) : AC2 Tryd.prog 13 [.p ((AV.int mode0)), .p (((fun q : List Bool => AV.lst (q.map AV.bool) q.length) open1)), .q 2002 0] [(2002, .pure (GCover.cs c2))] (retV [.y r.1, .b r.2.1]) [(2002, .pure (GCover.cs r.2.2))] := by
 refine AC2_of_body (vs := [.y r.1, .b r.2.1]) Tryd.func13 Y Y (Nat.le_of_ble_eq_true Y) Y ?_
 unfold g_slots_build_i0_b at H
 refine as2 [(0, .i mode0), (1, .p ((fun q : List Bool => AV.lst (q.map AV.bool) q.length) open1)), (2, .q 2002 (0))] [(2002, .pure (GCover.cs c2))] Y Y Y ?_
 refine sg [0, 1] Y ?_
 refine rp Y Y (p_asgn Y) ?_
 refine rp Y Y (p_asg Y Y) ?_
 refine rz [(0, .i mode0), (1, .p ((fun q : List Bool => AV.lst (q.map AV.bool) q.length) open1)), (2, .q 2002 (0))] [(2002, .pure (GCover.cs c2))] Y Y Y ?_
 refine AW2_seq ?_
 refine sg [0, 1, 2] Y ?_
 refine rp Y Y (p_move Y Y) ?_
 refine bindK H fun r'1 h1 H => ?_
 refine rp Y Y (p_callp Y Y Y Tryd.func21 Y Y (g_slots_some_ac h1) ⟨Y, trivial⟩) ?_
 refine rp Y Y (p_not Y Y) ?_
 refine rz [(0, .i mode0), (1, .p ((fun q : List Bool => AV.lst (q.map AV.bool) q.length) open1)), (2, .q 2002 (0)), (19, .b (!r'1))] [(2002, .pure (GCover.cs c2))] Y Y Y ?_
 refine AW2_cond Y (fun h2 => ?_) (fun h2 => ?_)
 ·replace H := ite_then h2 H
  refine AW2_seq ?_
  refine sg [0, 1, 2, 3, 4, 5] Y ?_
  refine rp Y Y (p_move Y Y) ?_
  refine rp Y Y (p_nilc Y Y Y Y (fun _ => (nl (GCover.len c2)))) ?_
  refine rp Y Y (u_fa Y Y Tryd.underlying26 Y in_24 nz Y Y (nl (GCover.len c2))) ?_
  refine rp Y Y (u_ld Y Y Tryd.underlying24 Y Y ((Sub.refl _).trans (GCover.sub1 c2))) ?_
  refine rp Y Y (p_lenl Y Tryd.underlying24 Y Y) ?_
  refine rp Y Y (p_ieq Y Y Y) ?_
  refine rz [(2, .q 2002 (0)), (25, .b (decide ((c2.Rest.length : Int) = (0 : Int))))] [(2002, .pure (GCover.cs c2))] Y Y Y ?_
  refine AW2_if (p := (c2.Rest.length : Int) = (0 : Int)) Y (fun h3 => ?_) (fun h3 => ?_)
  ·replace H := ite_then h3 H
   refine sg [0, 1] Y ?_
   refine rp Y Y (p_asgn Y) ?_
   refine rp Y Y (p_asg Y Y) ?_
   refine rz [(6, .p .nil), (7, .b false)] [(2002, .pure (GCover.cs c2))] Y Y Y ?_
   refine AW2_ret ?_
   have hz := some_elim H
   subst hz
   exact ⟨⟨res_tmp TLes.nil0, res_tmp (.same _), trivial⟩, ⟨Y, trivial⟩⟩
  ·replace H := ite_else h3 H
   refine as2 [(2, .q 2002 (0))] [(2002, .pure (GCover.cs c2))] Y Y Y ?_
   refine AW2_skip ?_
   refine sg [0, 1, 2, 3, 4, 5, 6] Y ?_
   refine rp Y Y (p_move Y Y) ?_
   refine rp Y Y (p_nilc Y Y Y Y (fun _ => (nl (GCover.len c2)))) ?_
   refine rp Y Y (u_fa Y Y Tryd.underlying26 Y in_24 nz Y Y (nl (GCover.len c2))) ?_
   refine rp Y Y (u_ld Y Y Tryd.underlying24 Y Y ((Sub.refl _).trans (GCover.sub1 c2))) ?_
   refine chkK H fun h4 H => ?_
   refine rp Y Y (u_ixl Y Y Tryd.underlying24 in_27 Y Y Y h4 (lne h4)) ?_
   refine rp Y Y (u_ld Y Y Tryd.underlying27 Y Y (Sub.map default h4)) ?_
   refine rp Y Y (p_asg Y Y) ?_
   refine rz [(2, .q 2002 (0)), (8, .y (lrd c2.Rest 0))] [(2002, .pure (GCover.cs c2))] Y Y Y ?_
   refine sg [0, 1, 2, 3, 4, 5, 6, 7, 8] Y ?_
   refine rp Y Y (p_move Y Y) ?_
   refine rp Y Y (p_move Y Y) ?_
   refine rp Y Y (p_nilc Y Y Y Y (fun _ => (nl (GCover.len c2)))) ?_
   refine rp Y Y (u_fa Y Y Tryd.underlying26 Y in_24 nz Y Y (nl (GCover.len c2))) ?_
   refine rp Y Y (u_ld Y Y Tryd.underlying24 Y Y ((Sub.refl _).trans (GCover.sub1 c2))) ?_
   refine chkK H fun h5 H => ?_
   refine rp Y Y (u_cutl (g := (fun l => l.map AV.bytes)) (a := (1 : Int)) (b := (c2.Rest.length : Int)) Y Y Tryd.underlying24 in_27 Y (bT_i (show 0 ≤ (1 : Int) ∧ (1 : Int) ≤ (c2.Rest.length : Int) ∧ (c2.Rest.length : Int) ≤ (c2.Rest.length : Int) from ⟨h5.1, h5.2, Int.le_refl _⟩).1 Y) (bT_len _) (.inl Y) (show 0 ≤ (1 : Int) ∧ (1 : Int) ≤ (c2.Rest.length : Int) ∧ (c2.Rest.length : Int) ≤ (c2.Rest.length : Int) from ⟨h5.1, h5.2, Int.le_refl _⟩) (g_map AV.bytes)) ?_
   refine rp Y Y (p_nilc Y Y Y Y (fun _ => (nl (GCover.len c2)))) ?_
   refine rp Y Y (u_fa Y Y Tryd.underlying26 Y in_24 nz Y Y (nl (GCover.len c2))) ?_
   refine r_op Y Y (u_st Y Y Y Y Y in_24 Y (nl (GCover.len c2)) (Upd.trans (Sub.refl _) (GCover.upd1 c2 (cut c2.Rest (1 : Int) (c2.Rest.length : Int))) (Upd.refl ((GCover.len ((GCover.w1 c2 (cut c2.Rest (1 : Int) (c2.Rest.length : Int))))).trans (GCover.len c2).symm)))) ?_
   refine rz [(8, .y (lrd c2.Rest 0))] [(2002, .pure (GCover.cs ((GCover.w1 c2 (cut c2.Rest (1 : Int) (c2.Rest.length : Int))))))] Y Y Y ?_
   refine sg [0, 1, 2] Y ?_
   refine rp Y Y (p_move Y Y) ?_
   refine rp Y Y (p_asg Y Y) ?_
   refine rp Y Y (p_asg Y Y) ?_
   refine rz [(6, .y (lrd c2.Rest 0)), (7, .b true)] [(2002, .pure (GCover.cs ((GCover.w1 c2 (cut c2.Rest (1 : Int) (c2.Rest.length : Int))))))] Y Y Y ?_
   refine AW2_ret ?_
   have hz := some_elim H
   subst hz
   exact ⟨⟨res_tmp (.same _), res_tmp (.same _), trivial⟩, ⟨Y, trivial⟩⟩
 ·replace H := ite_else (ne_true h2) H
  refine as2 [(0, .i mode0), (1, .p ((fun q : List Bool => AV.lst (q.map AV.bool) q.length) open1)), (2, .q 2002 (0))] [(2002, .pure (GCover.cs c2))] Y Y Y ?_
  refine AW2_skip ?_
  refine AW2_seq ?_
  refine sg [0, 1, 2] Y ?_
  refine rp Y Y (p_move Y Y) ?_
  refine rp Y Y (p_lenl Y Tryd.underlying22 Y Y) ?_
  refine rp Y Y (p_ieq Y Y Y) ?_
  refine rz [(0, .i mode0), (1, .p ((fun q : List Bool => AV.lst (q.map AV.bool) q.length) open1)), (2, .q 2002 (0)), (43, .b (decide ((open1.length : Int) = (1 : Int))))] [(2002, .pure (GCover.cs c2))] Y Y Y ?_
  refine AW2_if (p := (open1.length : Int) = (1 : Int)) Y (fun h6 => ?_) (fun h6 => ?_)
  ·replace H := ite_then h6 H
   refine AW2_seq ?_
   refine sg [0, 1, 2, 3, 4, 5] Y ?_
   refine rp Y Y (p_move Y Y) ?_
   refine rp Y Y (p_nilc Y Y Y Y (fun _ => (nl (GCover.len c2)))) ?_
   refine rp Y Y (u_fa Y Y Tryd.underlying26 Y in_23 nz Y Y (nl (GCover.len c2))) ?_
   refine rp Y Y (u_ld Y Y Tryd.underlying23 Y Y ((Sub.refl _).trans (GCover.sub0 c2))) ?_
   refine rp Y Y (p_lenl Y Tryd.underlying23 Y Y) ?_
   refine rp Y Y (p_ieq Y Y Y) ?_
   refine rz [(0, .i mode0), (2, .q 2002 (0)), (49, .b (decide ((c2.Open.length : Int) = (0 : Int))))] [(2002, .pure (GCover.cs c2))] Y Y Y ?_
   refine AW2_if (p := (c2.Open.length : Int) = (0 : Int)) Y (fun h7 => ?_) (fun h7 => ?_)
   ·replace H := ite_then h7 H
    refine sg [0, 1] Y ?_
    refine rp Y Y (p_asgn Y) ?_
    refine rp Y Y (p_asg Y Y) ?_
    refine rz [(6, .p .nil), (7, .b false)] [(2002, .pure (GCover.cs c2))] Y Y Y ?_
    refine AW2_ret ?_
    have hz := some_elim H
    subst hz
    exact ⟨⟨res_tmp TLes.nil0, res_tmp (.same _), trivial⟩, ⟨Y, trivial⟩⟩
   ·replace H := ite_else h7 H
    refine as2 [(0, .i mode0), (2, .q 2002 (0))] [(2002, .pure (GCover.cs c2))] Y Y Y ?_
    refine AW2_skip ?_
    refine sg [0, 1, 2, 3, 4, 5, 6, 7] Y ?_
    refine rp Y Y (p_move Y Y) ?_
    refine rp Y Y (p_nilc Y Y Y Y (fun _ => (nl (GCover.len c2)))) ?_
    refine rp Y Y (u_fa Y Y Tryd.underlying26 Y in_23 nz Y Y (nl (GCover.len c2))) ?_
    refine rp Y Y (u_ld Y Y Tryd.underlying23 Y Y ((Sub.refl _).trans (GCover.sub0 c2))) ?_
    refine chkK H fun h8 H => ?_
    refine rp Y Y (u_ixl Y Y Tryd.underlying23 in_49 Y Y Y h8 (fne (fun x => (GSlot.len x)) (by decide) h8)) ?_
    refine rp Y Y (u_lda Y Y Tryd.underlying49 Y in_49 Y (Nat.succ_pos _) (Sub.fm default (fun x => (GSlot.len x)) h8) (GSlot.len (lrd c2.Open 0))) ?_
    refine r_op Y Y (MakeD.opD (u_alloc 9 Y in_49 one_49 zc_49) Y Y Y Y) ?_
    refine r_op Y Y (u_st Y Y Y Y Y in_49 (GSlot.len (lrd c2.Open 0)) (nl (GSlot.len GSlot.zero)) (Upd.refl ((GSlot.len (lrd c2.Open 0)).trans (GSlot.len GSlot.zero).symm))) ?_
    refine rz [(0, .i mode0), (2, .q 2002 (0)), (9, .q 9 (0))] [(9, .pure (GSlot.cs (lrd c2.Open 0))), (2002, .pure (GCover.cs c2))] Y Y Y ?_
    refine sg [0, 1, 2, 3, 4, 5, 6, 7, 8] Y ?_
    refine rp Y Y (p_move Y Y) ?_
    refine rp Y Y (p_move Y Y) ?_
    refine rp Y Y (p_nilc Y Y Y Y (fun _ => (nl (GCover.len c2)))) ?_
    refine rp Y Y (u_fa Y Y Tryd.underlying26 Y in_23 nz Y Y (nl (GCover.len c2))) ?_
    refine rp Y Y (u_ld Y Y Tryd.underlying23 Y Y ((Sub.refl _).trans (GCover.sub0 c2))) ?_
    refine chkK H fun h9 H => ?_
    refine rp Y Y (u_cutl (g := (fun l => l.flatMap GSlot.cs)) (a := (1 : Int)) (b := (c2.Open.length : Int)) Y Y Tryd.underlying23 in_49 Y (bT_i (show 0 ≤ (1 : Int) ∧ (1 : Int) ≤ (c2.Open.length : Int) ∧ (c2.Open.length : Int) ≤ (c2.Open.length : Int) from ⟨h9.1, h9.2, Int.le_refl _⟩).1 Y) (bT_len _) (.inl Y) (show 0 ≤ (1 : Int) ∧ (1 : Int) ≤ (c2.Open.length : Int) ∧ (c2.Open.length : Int) ≤ (c2.Open.length : Int) from ⟨h9.1, h9.2, Int.le_refl _⟩) (g_fm (fun x => (GSlot.len x)))) ?_
    refine rp Y Y (p_nilc Y Y Y Y (fun _ => (nl (GCover.len c2)))) ?_
    refine rp Y Y (u_fa Y Y Tryd.underlying26 Y in_23 nz Y Y (nl (GCover.len c2))) ?_
    refine r_op Y Y (u_st Y Y Y Y Y in_23 Y (nl (GCover.len c2)) (Upd.trans (Sub.refl _) (GCover.upd0 c2 (cut c2.Open (1 : Int) (c2.Open.length : Int))) (Upd.refl ((GCover.len ((GCover.w0 c2 (cut c2.Open (1 : Int) (c2.Open.length : Int))))).trans (GCover.len c2).symm)))) ?_
    refine rz [(0, .i mode0), (9, .q 9 (0))] [(9, .pure (GSlot.cs (lrd c2.Open 0))), (2002, .pure (GCover.cs ((GCover.w0 c2 (cut c2.Open (1 : Int) (c2.Open.length : Int))))))] Y Y Y ?_
    refine sg [0, 1, 2, 3, 4, 5, 6, 7] Y ?_
    refine rp Y Y (p_move Y Y) ?_
    refine rp Y Y (u_lda Y Y Tryd.underlying49 Y in_49 Y (Nat.succ_pos _) (Sub.refl _) (GSlot.len (lrd c2.Open 0))) ?_
    refine bindK H fun r'2 h10 H => ?_
    refine rp Y Y (p_callp Y Y Y Tryd.func27 Y Y (g_slots_Leaf_ac h10) ⟨Y, Y, trivial⟩) ?_
    refine rp Y Y (p_move Y Y) ?_
    refine rp Y Y (p_ext Y Y Y Y) ?_
    refine rp Y Y (p_ext Y Y Y Y) ?_
    refine rp Y Y (p_asg Y Y) ?_
    refine rp Y Y (p_asg Y Y) ?_
    refine rz [(10, .y r'2.1), (11, .i r'2.2)] [(2002, .pure (GCover.cs ((GCover.w0 c2 (cut c2.Open (1 : Int) (c2.Open.length : Int))))))] Y Y Y ?_
    refine sg [0, 1, 2, 3, 4] Y ?_
    refine rp Y Y (p_move Y Y) ?_
    refine rp Y Y (p_move Y Y) ?_
    refine rp Y Y (p_ieq Y Y Y) ?_
    refine rp Y Y (p_asg Y Y) ?_
    refine rp Y Y (p_asg Y Y) ?_
    refine rz [(6, .y r'2.1), (7, .b (decide (r'2.2 = (0 : Int))))] [(2002, .pure (GCover.cs ((GCover.w0 c2 (cut c2.Open (1 : Int) (c2.Open.length : Int))))))] Y Y Y ?_
    refine AW2_ret ?_
    have hz := some_elim H
    subst hz
    exact ⟨⟨res_tmp (.same _), res_tmp (.same _), trivial⟩, ⟨Y, trivial⟩⟩
  ·replace H := ite_else h6 H
   refine as2 [(0, .i mode0), (1, .p ((fun q : List Bool => AV.lst (q.map AV.bool) q.length) open1)), (2, .q 2002 (0))] [(2002, .pure (GCover.cs c2))] Y Y Y ?_
   refine AW2_skip ?_
   refine sg [0, 1, 2, 3, 4, 5, 6, 7, 8, 9, 10, 11, 12] Y ?_
   refine rp Y Y (p_move Y Y) ?_
   refine rp Y Y (p_move Y Y) ?_
   refine rp Y Y (p_move Y Y) ?_
   refine rp Y Y (p_lenl Y Tryd.underlying22 Y Y) ?_
   refine rp Y Y (p_iquo Y Y Y (by decide)) ?_
   refine chkK H fun h11 H => ?_
   refine rp Y Y (u_cutl (g := (fun l => l.map AV.bool)) (a := (0 : Int)) (b := w64 ((open1.length : Int).tdiv (2 : Int))) Y Y Tryd.underlying22 in_4 Y bT_zero (bT_i (Int.le_trans (show 0 ≤ (0 : Int) ∧ (0 : Int) ≤ w64 ((open1.length : Int).tdiv (2 : Int)) ∧ w64 ((open1.length : Int).tdiv (2 : Int)) ≤ (open1.length : Int) from ⟨Int.le_refl _, h11.1, h11.2⟩).1 (show 0 ≤ (0 : Int) ∧ (0 : Int) ≤ w64 ((open1.length : Int).tdiv (2 : Int)) ∧ w64 ((open1.length : Int).tdiv (2 : Int)) ≤ (open1.length : Int) from ⟨Int.le_refl _, h11.1, h11.2⟩).2.1) Y) (.inl Y) (show 0 ≤ (0 : Int) ∧ (0 : Int) ≤ w64 ((open1.length : Int).tdiv (2 : Int)) ∧ w64 ((open1.length : Int).tdiv (2 : Int)) ≤ (open1.length : Int) from ⟨Int.le_refl _, h11.1, h11.2⟩) (g_map AV.bool)) ?_
   refine rp Y Y (p_move Y Y) ?_
   refine bindK H fun r'3 h12 H => ?_
   refine r_op Y Y (d_callh [(2002, 2002)] Y Y Y Tryd.func13 Y Y (hR2 h12) ⟨TLes.same _, TLes.same _, TLes.same _, trivial⟩ ⟨Y, trivial⟩ Y Y) ?_
   refine rp Y Y (p_move Y Y) ?_
   refine rp Y Y (p_ext2 Y Y Y Y) ?_
   refine rp Y Y (p_ext2 Y Y Y Y) ?_
   refine rp Y Y (p_asg Y Y) ?_
   refine rp Y Y (p_asg Y Y) ?_
   refine rz [(0, .i mode0), (1, .p ((fun q : List Bool => AV.lst (q.map AV.bool) q.length) open1)), (2, .q 2002 (0)), (12, .y r'3.1), (13, .b r'3.2.1)] [(2002, .pure (GCover.cs r'3.2.2))] Y Y Y ?_
   refine AW2_seq ?_
   refine sg [0, 1] Y ?_
   refine rp Y Y (p_move Y Y) ?_
   refine rp Y Y (p_not Y Y) ?_
   refine rz [(0, .i mode0), (1, .p ((fun q : List Bool => AV.lst (q.map AV.bool) q.length) open1)), (2, .q 2002 (0)), (12, .y r'3.1), (85, .b (!r'3.2.1))] [(2002, .pure (GCover.cs r'3.2.2))] Y Y Y ?_
   refine AW2_cond Y (fun h13 => ?_) (fun h13 => ?_)
   ·replace H := ite_then h13 H
    refine sg [0, 1] Y ?_
    refine rp Y Y (p_asgn Y) ?_
    refine rp Y Y (p_asg Y Y) ?_
    refine rz [(6, .p .nil), (7, .b false)] [(2002, .pure (GCover.cs r'3.2.2))] Y Y Y ?_
    refine AW2_ret ?_
    have hz := some_elim H
    subst hz
    exact ⟨⟨res_tmp TLes.nil0, res_tmp (.same _), trivial⟩, ⟨Y, trivial⟩⟩
   ·replace H := ite_else (ne_true h13) H
    refine as2 [(0, .i mode0), (1, .p ((fun q : List Bool => AV.lst (q.map AV.bool) q.length) open1)), (2, .q 2002 (0)), (12, .y r'3.1)] [(2002, .pure (GCover.cs r'3.2.2))] Y Y Y ?_
    refine AW2_skip ?_
    refine sg [0, 1, 2, 3, 4, 5, 6, 7, 8, 9, 10, 11, 12] Y ?_
    refine rp Y Y (p_move Y Y) ?_
    refine rp Y Y (p_move Y Y) ?_
    refine rp Y Y (p_move Y Y) ?_
    refine rp Y Y (p_lenl Y Tryd.underlying22 Y Y) ?_
    refine rp Y Y (p_iquo Y Y Y (by decide)) ?_
    refine chkK H fun h14 H => ?_
    refine rp Y Y (u_cutl (g := (fun l => l.map AV.bool)) (a := w64 ((open1.length : Int).tdiv (2 : Int))) (b := (open1.length : Int)) Y Y Tryd.underlying22 in_4 Y (bT_i (show 0 ≤ w64 ((open1.length : Int).tdiv (2 : Int)) ∧ w64 ((open1.length : Int).tdiv (2 : Int)) ≤ (open1.length : Int) ∧ (open1.length : Int) ≤ (open1.length : Int) from ⟨h14.1, h14.2, Int.le_refl _⟩).1 Y) (bT_len _) (.inl Y) (show 0 ≤ w64 ((open1.length : Int).tdiv (2 : Int)) ∧ w64 ((open1.length : Int).tdiv (2 : Int)) ≤ (open1.length : Int) ∧ (open1.length : Int) ≤ (open1.length : Int) from ⟨h14.1, h14.2, Int.le_refl _⟩) (g_map AV.bool)) ?_
    refine rp Y Y (p_move Y Y) ?_
    refine bindK H fun r'4 h15 H => ?_
    refine r_op Y Y (d_callh [(2002, 2002)] Y Y Y Tryd.func13 Y Y (hR2 h15) ⟨TLes.same _, TLes.same _, TLes.same _, trivial⟩ ⟨Y, trivial⟩ Y Y) ?_
    refine rp Y Y (p_move Y Y) ?_
    refine rp Y Y (p_ext2 Y Y Y Y) ?_
    refine rp Y Y (p_ext2 Y Y Y Y) ?_
    refine rp Y Y (p_asg Y Y) ?_
    refine rp Y Y (p_asg Y Y) ?_
    refine rz [(0, .i mode0), (12, .y r'3.1), (13, .b r'4.2.1), (14, .y r'4.1)] [(2002, .pure (GCover.cs r'4.2.2))] Y Y Y ?_
    refine AW2_seq ?_
    refine sg [0, 1] Y ?_
    refine rp Y Y (p_move Y Y) ?_
    refine rp Y Y (p_not Y Y) ?_
    refine rz [(0, .i mode0), (12, .y r'3.1), (14, .y r'4.1), (98, .b (!r'4.2.1))] [(2002, .pure (GCover.cs r'4.2.2))] Y Y Y ?_
    refine AW2_cond Y (fun h16 => ?_) (fun h16 => ?_)
    ·replace H := ite_then h16 H
     refine sg [0, 1] Y ?_
     refine rp Y Y (p_asgn Y) ?_
     refine rp Y Y (p_asg Y Y) ?_
     refine rz [(6, .p .nil), (7, .b false)] [(2002, .pure (GCover.cs r'4.2.2))] Y Y Y ?_
     refine AW2_ret ?_
     have hz := some_elim H
     subst hz
     exact ⟨⟨res_tmp TLes.nil0, res_tmp (.same _), trivial⟩, ⟨Y, trivial⟩⟩
    ·replace H := ite_else (ne_true h16) H
     refine as2 [(0, .i mode0), (12, .y r'3.1), (14, .y r'4.1)] [(2002, .pure (GCover.cs r'4.2.2))] Y Y Y ?_
     refine AW2_skip ?_
     refine sg [0, 1, 2, 3, 4, 5, 6, 7, 8] Y ?_
     refine rp Y Y (p_move Y Y) ?_
     refine rp Y Y (p_move Y Y) ?_
     refine rp Y Y (p_move Y Y) ?_
     refine bindK H fun r'5 h17 H => ?_
     refine rp Y Y (p_callp Y Y Y Tryd.func28 Y Y (g_slots_node_ac h17) ⟨Y, Y, Y, trivial⟩) ?_
     refine rp Y Y (p_move Y Y) ?_
     refine rp Y Y (p_ext Y Y Y Y) ?_
     refine rp Y Y (p_ext Y Y Y Y) ?_
     refine rp Y Y (p_asg Y Y) ?_
     refine rp Y Y (p_asg Y Y) ?_
     refine rz [(15, .y r'5.1), (16, .i r'5.2)] [(2002, .pure (GCover.cs r'4.2.2))] Y Y Y ?_
     refine sg [0, 1, 2, 3, 4] Y ?_
     refine rp Y Y (p_move Y Y) ?_
     refine rp Y Y (p_move Y Y) ?_
     refine rp Y Y (p_ieq Y Y Y) ?_
     refine rp Y Y (p_asg Y Y) ?_
     refine rp Y Y (p_asg Y Y) ?_
     refine rz [(6, .y r'5.1), (7, .b (decide (r'5.2 = (0 : Int))))] [(2002, .pure (GCover.cs r'4.2.2))] Y Y Y ?_
     refine AW2_ret ?_
     have hz := some_elim H
     subst hz
     exact ⟨⟨res_tmp (.same _), res_tmp (.same _), trivial⟩, ⟨Y, trivial⟩⟩
theorem g_slots_build_i0_acN : ∀ (fu : Nat) {mode0 : Int} {open1 : List Bool} {c2 : GCover} {r : (List UInt8) × Bool × GCover}, g_slots_build_i0 fu mode0 open1 c2 = some r → AC2 Tryd.prog 13 [.p ((AV.int mode0)), .p (((fun q : List Bool => AV.lst (q.map AV.bool) q.length) open1)), .q 2002 0] [(2002, .pure (GCover.cs c2))] (retV [.y r.1, .b r.2.1]) [(2002, .pure (GCover.cs r.2.2))]
 | 0, _, _, _, _, H => (by cases H)
 | fu + 1, _, _, _, _, H => g_slots_build_i0_ac0 (g_slots_build_i0_acN fu) H
theorem g_slots_build_i0_ac2 {mode0 : Int} {open1 : List Bool} {c2 : GCover} {r : (List UInt8) × Bool × GCover} (H : g_slots_build_i0 100000 mode0 open1 c2 = some r) : AC2 Tryd.prog 13 [.p ((AV.int mode0)), .p (((fun q : List Bool => AV.lst (q.map AV.bool) q.length) open1)), .q 2002 0] [(2002, .pure (GCover.cs c2))] (retV [.y r.1, .b r.2.1]) [(2002, .pure (GCover.cs r.2.2))] := g_slots_build_i0_acN 100000 H
end Go.Proofs.YteilidpbnndnpaaDoor.VM
