/- Functions of the program, as they answer, and that their code comes to these answers. -/
import Derived.Test.YtglgdaeimfdpfaaVtTabs
import Derived.Test.YtglgdaeimfdpfaaVtShort
namespace Go.Proofs.Ytglgdaeimfdpfaa.VM
open Go Go.RowKit

structure GPut where
  At : Int
  Data : Vector UInt8 32
deriving DecidableEq, Inhabited
def GPut.zero : GPut := ⟨(0 : Int), (Vector.replicate 32 (0 : UInt8))⟩
def GPut.cs (x : GPut) : List AV := ([(AV.int x.At)]) ++ (bcells x.Data.toList)
theorem GPut.len (x : GPut) : (GPut.cs x).length = 33 := by
  simp only [GPut.cs, List.length_append]
  rw [show ([(AV.int x.At)]).length = 1 from (show ([(AV.int x.At)]).length = 1 from rfl), show (bcells x.Data.toList).length = 32 from ((bcells_length _).trans (vlen x.Data))]
theorem GPut.sub0 (x : GPut) : Sub (GPut.cs x) 0 ([(AV.int x.At)]) := Sub.head _ _
theorem GPut.upd0 (x : GPut) (y : Int) : Upd (GPut.cs x) 0 ([(AV.int y)]) (GPut.cs { x with At := y }) := Upd.head (show ([(AV.int y)]).length = ([(AV.int x.At)]).length from rfl)
theorem GPut.sub1 (x : GPut) : Sub (GPut.cs x) 1 (bcells x.Data.toList) := Sub.skip (k := 1) (show ([(AV.int x.At)]).length = 1 from rfl) (Sub.refl _)
theorem GPut.upd1 (x : GPut) (y : Vector UInt8 32) : Upd (GPut.cs x) 1 (bcells y.toList) (GPut.cs { x with Data := y }) := Upd.skip (k := 1) (show ([(AV.int x.At)]).length = 1 from rfl) (Upd.refl (((bcells_length _).trans (vlen y)).trans ((bcells_length _).trans (vlen x.Data)).symm))
theorem GPut.nl (x : GPut) : (GPut.cs x).all noLst1 = true := nlA rfl ((nlB _))
structure GDisk where
  Lasts : List (Vector UInt8 32)
  Writes : List GPut
deriving DecidableEq, Inhabited
def GDisk.zero : GDisk := ⟨[], []⟩
def GDisk.cs (x : GDisk) : List AV := ([((fun q : List (Vector UInt8 32) => AV.lst (q.flatMap (fun v : Vector UInt8 32 => bcells v.toList)) q.length) x.Lasts)]) ++ ([((fun q : List GPut => AV.lst (q.flatMap GPut.cs) q.length) x.Writes)])
theorem GDisk.len (x : GDisk) : (GDisk.cs x).length = 2 := by
  simp only [GDisk.cs, List.length_append]
  rw [show ([((fun q : List (Vector UInt8 32) => AV.lst (q.flatMap (fun v : Vector UInt8 32 => bcells v.toList)) q.length) x.Lasts)]).length = 1 from (show ([((fun q : List (Vector UInt8 32) => AV.lst (q.flatMap (fun v : Vector UInt8 32 => bcells v.toList)) q.length) x.Lasts)]).length = 1 from rfl), show ([((fun q : List GPut => AV.lst (q.flatMap GPut.cs) q.length) x.Writes)]).length = 1 from (show ([((fun q : List GPut => AV.lst (q.flatMap GPut.cs) q.length) x.Writes)]).length = 1 from rfl)]
theorem GDisk.sub0 (x : GDisk) : Sub (GDisk.cs x) 0 ([((fun q : List (Vector UInt8 32) => AV.lst (q.flatMap (fun v : Vector UInt8 32 => bcells v.toList)) q.length) x.Lasts)]) := Sub.head _ _
theorem GDisk.upd0 (x : GDisk) (y : List (Vector UInt8 32)) : Upd (GDisk.cs x) 0 ([((fun q : List (Vector UInt8 32) => AV.lst (q.flatMap (fun v : Vector UInt8 32 => bcells v.toList)) q.length) y)]) (GDisk.cs { x with Lasts := y }) := Upd.head (show ([((fun q : List (Vector UInt8 32) => AV.lst (q.flatMap (fun v : Vector UInt8 32 => bcells v.toList)) q.length) y)]).length = ([((fun q : List (Vector UInt8 32) => AV.lst (q.flatMap (fun v : Vector UInt8 32 => bcells v.toList)) q.length) x.Lasts)]).length from rfl)
theorem GDisk.sub1 (x : GDisk) : Sub (GDisk.cs x) 1 ([((fun q : List GPut => AV.lst (q.flatMap GPut.cs) q.length) x.Writes)]) := Sub.skip (k := 1) (show ([((fun q : List (Vector UInt8 32) => AV.lst (q.flatMap (fun v : Vector UInt8 32 => bcells v.toList)) q.length) x.Lasts)]).length = 1 from rfl) (Sub.refl _)
theorem GDisk.upd1 (x : GDisk) (y : List GPut) : Upd (GDisk.cs x) 1 ([((fun q : List GPut => AV.lst (q.flatMap GPut.cs) q.length) y)]) (GDisk.cs { x with Writes := y }) := Upd.skip (k := 1) (show ([((fun q : List (Vector UInt8 32) => AV.lst (q.flatMap (fun v : Vector UInt8 32 => bcells v.toList)) q.length) x.Lasts)]).length = 1 from rfl) (Upd.refl (show ([((fun q : List GPut => AV.lst (q.flatMap GPut.cs) q.length) y)]).length = ([((fun q : List GPut => AV.lst (q.flatMap GPut.cs) q.length) x.Writes)]).length from rfl))
structure GColumn where
  Name : List UInt8
  Kind : Int
  Null : Bool
deriving DecidableEq, Inhabited
def GColumn.zero : GColumn := ⟨[], (0 : Int), false⟩
def GColumn.cs (x : GColumn) : List AV := ([(AV.txt x.Name)]) ++ (([(AV.int x.Kind)]) ++ ([(AV.bool x.Null)]))
theorem GColumn.len (x : GColumn) : (GColumn.cs x).length = 3 := by
  simp only [GColumn.cs, List.length_append]
  rw [show ([(AV.txt x.Name)]).length = 1 from (show ([(AV.txt x.Name)]).length = 1 from rfl), show ([(AV.int x.Kind)]).length = 1 from (show ([(AV.int x.Kind)]).length = 1 from rfl), show ([(AV.bool x.Null)]).length = 1 from (show ([(AV.bool x.Null)]).length = 1 from rfl)]
theorem GColumn.sub0 (x : GColumn) : Sub (GColumn.cs x) 0 ([(AV.txt x.Name)]) := Sub.head _ _
theorem GColumn.upd0 (x : GColumn) (y : List UInt8) : Upd (GColumn.cs x) 0 ([(AV.txt y)]) (GColumn.cs { x with Name := y }) := Upd.head (show ([(AV.txt y)]).length = ([(AV.txt x.Name)]).length from rfl)
theorem GColumn.sub1 (x : GColumn) : Sub (GColumn.cs x) 1 ([(AV.int x.Kind)]) := Sub.skip (k := 1) (show ([(AV.txt x.Name)]).length = 1 from rfl) (Sub.head _ _)
theorem GColumn.upd1 (x : GColumn) (y : Int) : Upd (GColumn.cs x) 1 ([(AV.int y)]) (GColumn.cs { x with Kind := y }) := Upd.skip (k := 1) (show ([(AV.txt x.Name)]).length = 1 from rfl) (Upd.head (show ([(AV.int y)]).length = ([(AV.int x.Kind)]).length from rfl))
theorem GColumn.sub2 (x : GColumn) : Sub (GColumn.cs x) 2 ([(AV.bool x.Null)]) := Sub.skip (k := 1) (show ([(AV.txt x.Name)]).length = 1 from rfl) (Sub.skip (k := 1) (show ([(AV.int x.Kind)]).length = 1 from rfl) (Sub.refl _))
theorem GColumn.upd2 (x : GColumn) (y : Bool) : Upd (GColumn.cs x) 2 ([(AV.bool y)]) (GColumn.cs { x with Null := y }) := Upd.skip (k := 1) (show ([(AV.txt x.Name)]).length = 1 from rfl) (Upd.skip (k := 1) (show ([(AV.int x.Kind)]).length = 1 from rfl) (Upd.refl (show ([(AV.bool y)]).length = ([(AV.bool x.Null)]).length from rfl)))
theorem GColumn.nl (x : GColumn) : (GColumn.cs x).all noLst1 = true := nlA rfl (nlA rfl (rfl))
structure GValue where
  Kind : Int
  Int_ : Int
  Bits : UInt64
  Text : List UInt8
deriving DecidableEq, Inhabited
def GValue.zero : GValue := ⟨(0 : Int), (0 : Int), (0 : UInt64), []⟩
def GValue.cs (x : GValue) : List AV := ([(AV.int x.Kind)]) ++ (([(AV.int x.Int_)]) ++ (([(AV.u64 x.Bits)]) ++ ([(AV.txt x.Text)])))
theorem GValue.len (x : GValue) : (GValue.cs x).length = 4 := by
  simp only [GValue.cs, List.length_append]
  rw [show ([(AV.int x.Kind)]).length = 1 from (show ([(AV.int x.Kind)]).length = 1 from rfl), show ([(AV.int x.Int_)]).length = 1 from (show ([(AV.int x.Int_)]).length = 1 from rfl), show ([(AV.u64 x.Bits)]).length = 1 from (show ([(AV.u64 x.Bits)]).length = 1 from rfl), show ([(AV.txt x.Text)]).length = 1 from (show ([(AV.txt x.Text)]).length = 1 from rfl)]
theorem GValue.sub0 (x : GValue) : Sub (GValue.cs x) 0 ([(AV.int x.Kind)]) := Sub.head _ _
theorem GValue.upd0 (x : GValue) (y : Int) : Upd (GValue.cs x) 0 ([(AV.int y)]) (GValue.cs { x with Kind := y }) := Upd.head (show ([(AV.int y)]).length = ([(AV.int x.Kind)]).length from rfl)
theorem GValue.sub1 (x : GValue) : Sub (GValue.cs x) 1 ([(AV.int x.Int_)]) := Sub.skip (k := 1) (show ([(AV.int x.Kind)]).length = 1 from rfl) (Sub.head _ _)
theorem GValue.upd1 (x : GValue) (y : Int) : Upd (GValue.cs x) 1 ([(AV.int y)]) (GValue.cs { x with Int_ := y }) := Upd.skip (k := 1) (show ([(AV.int x.Kind)]).length = 1 from rfl) (Upd.head (show ([(AV.int y)]).length = ([(AV.int x.Int_)]).length from rfl))
theorem GValue.sub2 (x : GValue) : Sub (GValue.cs x) 2 ([(AV.u64 x.Bits)]) := Sub.skip (k := 1) (show ([(AV.int x.Kind)]).length = 1 from rfl) (Sub.skip (k := 1) (show ([(AV.int x.Int_)]).length = 1 from rfl) (Sub.head _ _))
theorem GValue.upd2 (x : GValue) (y : UInt64) : Upd (GValue.cs x) 2 ([(AV.u64 y)]) (GValue.cs { x with Bits := y }) := Upd.skip (k := 1) (show ([(AV.int x.Kind)]).length = 1 from rfl) (Upd.skip (k := 1) (show ([(AV.int x.Int_)]).length = 1 from rfl) (Upd.head (show ([(AV.u64 y)]).length = ([(AV.u64 x.Bits)]).length from rfl)))
theorem GValue.sub3 (x : GValue) : Sub (GValue.cs x) 3 ([(AV.txt x.Text)]) := Sub.skip (k := 1) (show ([(AV.int x.Kind)]).length = 1 from rfl) (Sub.skip (k := 1) (show ([(AV.int x.Int_)]).length = 1 from rfl) (Sub.skip (k := 1) (show ([(AV.u64 x.Bits)]).length = 1 from rfl) (Sub.refl _)))
theorem GValue.upd3 (x : GValue) (y : List UInt8) : Upd (GValue.cs x) 3 ([(AV.txt y)]) (GValue.cs { x with Text := y }) := Upd.skip (k := 1) (show ([(AV.int x.Kind)]).length = 1 from rfl) (Upd.skip (k := 1) (show ([(AV.int x.Int_)]).length = 1 from rfl) (Upd.skip (k := 1) (show ([(AV.u64 x.Bits)]).length = 1 from rfl) (Upd.refl (show ([(AV.txt y)]).length = ([(AV.txt x.Text)]).length from rfl))))
theorem GValue.nl (x : GValue) : (GValue.cs x).all noLst1 = true := nlA rfl (nlA rfl (nlA rfl (rfl)))
structure GCell where
  Full : Bool
  Row : List GValue
deriving DecidableEq, Inhabited
def GCell.zero : GCell := ⟨false, []⟩
def GCell.cs (x : GCell) : List AV := ([(AV.bool x.Full)]) ++ ([((fun q : List GValue => AV.lst (q.flatMap GValue.cs) q.length) x.Row)])
theorem GCell.len (x : GCell) : (GCell.cs x).length = 2 := by
  simp only [GCell.cs, List.length_append]
  rw [show ([(AV.bool x.Full)]).length = 1 from (show ([(AV.bool x.Full)]).length = 1 from rfl), show ([((fun q : List GValue => AV.lst (q.flatMap GValue.cs) q.length) x.Row)]).length = 1 from (show ([((fun q : List GValue => AV.lst (q.flatMap GValue.cs) q.length) x.Row)]).length = 1 from rfl)]
theorem GCell.sub0 (x : GCell) : Sub (GCell.cs x) 0 ([(AV.bool x.Full)]) := Sub.head _ _
theorem GCell.upd0 (x : GCell) (y : Bool) : Upd (GCell.cs x) 0 ([(AV.bool y)]) (GCell.cs { x with Full := y }) := Upd.head (show ([(AV.bool y)]).length = ([(AV.bool x.Full)]).length from rfl)
theorem GCell.sub1 (x : GCell) : Sub (GCell.cs x) 1 ([((fun q : List GValue => AV.lst (q.flatMap GValue.cs) q.length) x.Row)]) := Sub.skip (k := 1) (show ([(AV.bool x.Full)]).length = 1 from rfl) (Sub.refl _)
theorem GCell.upd1 (x : GCell) (y : List GValue) : Upd (GCell.cs x) 1 ([((fun q : List GValue => AV.lst (q.flatMap GValue.cs) q.length) y)]) (GCell.cs { x with Row := y }) := Upd.skip (k := 1) (show ([(AV.bool x.Full)]).length = 1 from rfl) (Upd.refl (show ([((fun q : List GValue => AV.lst (q.flatMap GValue.cs) q.length) y)]).length = ([((fun q : List GValue => AV.lst (q.flatMap GValue.cs) q.length) x.Row)]).length from rfl))
structure GTable where
  There : Bool
  Name : List UInt8
  Cols : List GColumn
  Drawers : Vector (Vector GCell 4) 2
deriving DecidableEq, Inhabited
def GTable.zero : GTable := ⟨false, [], [], (Vector.replicate 2 (Vector.replicate 4 GCell.zero))⟩
def GTable.cs (x : GTable) : List AV := ([(AV.bool x.There)]) ++ (([(AV.txt x.Name)]) ++ (([((fun q : List GColumn => AV.lst (q.flatMap GColumn.cs) q.length) x.Cols)]) ++ (x.Drawers.toList.flatMap (fun v : Vector GCell 4 => v.toList.flatMap GCell.cs))))
theorem GTable.len (x : GTable) : (GTable.cs x).length = 19 := by
  simp only [GTable.cs, List.length_append]
  rw [show ([(AV.bool x.There)]).length = 1 from (show ([(AV.bool x.There)]).length = 1 from rfl), show ([(AV.txt x.Name)]).length = 1 from (show ([(AV.txt x.Name)]).length = 1 from rfl), show ([((fun q : List GColumn => AV.lst (q.flatMap GColumn.cs) q.length) x.Cols)]).length = 1 from (show ([((fun q : List GColumn => AV.lst (q.flatMap GColumn.cs) q.length) x.Cols)]).length = 1 from rfl), show (x.Drawers.toList.flatMap (fun v : Vector GCell 4 => v.toList.flatMap GCell.cs)).length = 16 from (vfm_len (fun x => (vfm_len (fun x => (GCell.len x)) x)) x.Drawers)]
theorem GTable.sub0 (x : GTable) : Sub (GTable.cs x) 0 ([(AV.bool x.There)]) := Sub.head _ _
theorem GTable.upd0 (x : GTable) (y : Bool) : Upd (GTable.cs x) 0 ([(AV.bool y)]) (GTable.cs { x with There := y }) := Upd.head (show ([(AV.bool y)]).length = ([(AV.bool x.There)]).length from rfl)
theorem GTable.sub1 (x : GTable) : Sub (GTable.cs x) 1 ([(AV.txt x.Name)]) := Sub.skip (k := 1) (show ([(AV.bool x.There)]).length = 1 from rfl) (Sub.head _ _)
theorem GTable.upd1 (x : GTable) (y : List UInt8) : Upd (GTable.cs x) 1 ([(AV.txt y)]) (GTable.cs { x with Name := y }) := Upd.skip (k := 1) (show ([(AV.bool x.There)]).length = 1 from rfl) (Upd.head (show ([(AV.txt y)]).length = ([(AV.txt x.Name)]).length from rfl))
theorem GTable.sub2 (x : GTable) : Sub (GTable.cs x) 2 ([((fun q : List GColumn => AV.lst (q.flatMap GColumn.cs) q.length) x.Cols)]) := Sub.skip (k := 1) (show ([(AV.bool x.There)]).length = 1 from rfl) (Sub.skip (k := 1) (show ([(AV.txt x.Name)]).length = 1 from rfl) (Sub.head _ _))
theorem GTable.upd2 (x : GTable) (y : List GColumn) : Upd (GTable.cs x) 2 ([((fun q : List GColumn => AV.lst (q.flatMap GColumn.cs) q.length) y)]) (GTable.cs { x with Cols := y }) := Upd.skip (k := 1) (show ([(AV.bool x.There)]).length = 1 from rfl) (Upd.skip (k := 1) (show ([(AV.txt x.Name)]).length = 1 from rfl) (Upd.head (show ([((fun q : List GColumn => AV.lst (q.flatMap GColumn.cs) q.length) y)]).length = ([((fun q : List GColumn => AV.lst (q.flatMap GColumn.cs) q.length) x.Cols)]).length from rfl)))
theorem GTable.sub3 (x : GTable) : Sub (GTable.cs x) 3 (x.Drawers.toList.flatMap (fun v : Vector GCell 4 => v.toList.flatMap GCell.cs)) := Sub.skip (k := 1) (show ([(AV.bool x.There)]).length = 1 from rfl) (Sub.skip (k := 1) (show ([(AV.txt x.Name)]).length = 1 from rfl) (Sub.skip (k := 1) (show ([((fun q : List GColumn => AV.lst (q.flatMap GColumn.cs) q.length) x.Cols)]).length = 1 from rfl) (Sub.refl _)))
theorem GTable.upd3 (x : GTable) (y : Vector (Vector GCell 4) 2) : Upd (GTable.cs x) 3 (y.toList.flatMap (fun v : Vector GCell 4 => v.toList.flatMap GCell.cs)) (GTable.cs { x with Drawers := y }) := Upd.skip (k := 1) (show ([(AV.bool x.There)]).length = 1 from rfl) (Upd.skip (k := 1) (show ([(AV.txt x.Name)]).length = 1 from rfl) (Upd.skip (k := 1) (show ([((fun q : List GColumn => AV.lst (q.flatMap GColumn.cs) q.length) x.Cols)]).length = 1 from rfl) (Upd.refl ((vfm_len (fun x => (vfm_len (fun x => (GCell.len x)) x)) y).trans (vfm_len (fun x => (vfm_len (fun x => (GCell.len x)) x)) x.Drawers).symm))))
structure GGrant where
  From : Int
  To : Int
  Object : Int
  Right : Int
  Option_ : Bool
deriving DecidableEq, Inhabited
def GGrant.zero : GGrant := ⟨(0 : Int), (0 : Int), (0 : Int), (0 : Int), false⟩
def GGrant.cs (x : GGrant) : List AV := ([(AV.int x.From)]) ++ (([(AV.int x.To)]) ++ (([(AV.int x.Object)]) ++ (([(AV.int x.Right)]) ++ ([(AV.bool x.Option_)]))))
theorem GGrant.len (x : GGrant) : (GGrant.cs x).length = 5 := by
  simp only [GGrant.cs, List.length_append]
  rw [show ([(AV.int x.From)]).length = 1 from (show ([(AV.int x.From)]).length = 1 from rfl), show ([(AV.int x.To)]).length = 1 from (show ([(AV.int x.To)]).length = 1 from rfl), show ([(AV.int x.Object)]).length = 1 from (show ([(AV.int x.Object)]).length = 1 from rfl), show ([(AV.int x.Right)]).length = 1 from (show ([(AV.int x.Right)]).length = 1 from rfl), show ([(AV.bool x.Option_)]).length = 1 from (show ([(AV.bool x.Option_)]).length = 1 from rfl)]
theorem GGrant.sub0 (x : GGrant) : Sub (GGrant.cs x) 0 ([(AV.int x.From)]) := Sub.head _ _
theorem GGrant.upd0 (x : GGrant) (y : Int) : Upd (GGrant.cs x) 0 ([(AV.int y)]) (GGrant.cs { x with From := y }) := Upd.head (show ([(AV.int y)]).length = ([(AV.int x.From)]).length from rfl)
theorem GGrant.sub1 (x : GGrant) : Sub (GGrant.cs x) 1 ([(AV.int x.To)]) := Sub.skip (k := 1) (show ([(AV.int x.From)]).length = 1 from rfl) (Sub.head _ _)
theorem GGrant.upd1 (x : GGrant) (y : Int) : Upd (GGrant.cs x) 1 ([(AV.int y)]) (GGrant.cs { x with To := y }) := Upd.skip (k := 1) (show ([(AV.int x.From)]).length = 1 from rfl) (Upd.head (show ([(AV.int y)]).length = ([(AV.int x.To)]).length from rfl))
theorem GGrant.sub2 (x : GGrant) : Sub (GGrant.cs x) 2 ([(AV.int x.Object)]) := Sub.skip (k := 1) (show ([(AV.int x.From)]).length = 1 from rfl) (Sub.skip (k := 1) (show ([(AV.int x.To)]).length = 1 from rfl) (Sub.head _ _))
theorem GGrant.upd2 (x : GGrant) (y : Int) : Upd (GGrant.cs x) 2 ([(AV.int y)]) (GGrant.cs { x with Object := y }) := Upd.skip (k := 1) (show ([(AV.int x.From)]).length = 1 from rfl) (Upd.skip (k := 1) (show ([(AV.int x.To)]).length = 1 from rfl) (Upd.head (show ([(AV.int y)]).length = ([(AV.int x.Object)]).length from rfl)))
theorem GGrant.sub3 (x : GGrant) : Sub (GGrant.cs x) 3 ([(AV.int x.Right)]) := Sub.skip (k := 1) (show ([(AV.int x.From)]).length = 1 from rfl) (Sub.skip (k := 1) (show ([(AV.int x.To)]).length = 1 from rfl) (Sub.skip (k := 1) (show ([(AV.int x.Object)]).length = 1 from rfl) (Sub.head _ _)))
theorem GGrant.upd3 (x : GGrant) (y : Int) : Upd (GGrant.cs x) 3 ([(AV.int y)]) (GGrant.cs { x with Right := y }) := Upd.skip (k := 1) (show ([(AV.int x.From)]).length = 1 from rfl) (Upd.skip (k := 1) (show ([(AV.int x.To)]).length = 1 from rfl) (Upd.skip (k := 1) (show ([(AV.int x.Object)]).length = 1 from rfl) (Upd.head (show ([(AV.int y)]).length = ([(AV.int x.Right)]).length from rfl))))
theorem GGrant.sub4 (x : GGrant) : Sub (GGrant.cs x) 4 ([(AV.bool x.Option_)]) := Sub.skip (k := 1) (show ([(AV.int x.From)]).length = 1 from rfl) (Sub.skip (k := 1) (show ([(AV.int x.To)]).length = 1 from rfl) (Sub.skip (k := 1) (show ([(AV.int x.Object)]).length = 1 from rfl) (Sub.skip (k := 1) (show ([(AV.int x.Right)]).length = 1 from rfl) (Sub.refl _))))
theorem GGrant.upd4 (x : GGrant) (y : Bool) : Upd (GGrant.cs x) 4 ([(AV.bool y)]) (GGrant.cs { x with Option_ := y }) := Upd.skip (k := 1) (show ([(AV.int x.From)]).length = 1 from rfl) (Upd.skip (k := 1) (show ([(AV.int x.To)]).length = 1 from rfl) (Upd.skip (k := 1) (show ([(AV.int x.Object)]).length = 1 from rfl) (Upd.skip (k := 1) (show ([(AV.int x.Right)]).length = 1 from rfl) (Upd.refl (show ([(AV.bool y)]).length = ([(AV.bool x.Option_)]).length from rfl)))))
theorem GGrant.nl (x : GGrant) : (GGrant.cs x).all noLst1 = true := nlA rfl (nlA rfl (nlA rfl (nlA rfl (rfl))))
structure GState where
  Tables : Vector (Vector GTable 2) 3
  Grants : List GGrant
  Asked : Vector Int 3
deriving DecidableEq, Inhabited
def GState.zero : GState := ⟨(Vector.replicate 3 (Vector.replicate 2 GTable.zero)), [], (Vector.replicate 3 (0 : Int))⟩
def GState.cs (x : GState) : List AV := (x.Tables.toList.flatMap (fun v : Vector GTable 2 => v.toList.flatMap GTable.cs)) ++ (([((fun q : List GGrant => AV.lst (q.flatMap GGrant.cs) q.length) x.Grants)]) ++ (x.Asked.toList.map AV.int))
theorem GState.len (x : GState) : (GState.cs x).length = 118 := by
  simp only [GState.cs, List.length_append]
  rw [show (x.Tables.toList.flatMap (fun v : Vector GTable 2 => v.toList.flatMap GTable.cs)).length = 114 from (vfm_len (fun x => (vfm_len (fun x => (GTable.len x)) x)) x.Tables), show ([((fun q : List GGrant => AV.lst (q.flatMap GGrant.cs) q.length) x.Grants)]).length = 1 from (show ([((fun q : List GGrant => AV.lst (q.flatMap GGrant.cs) q.length) x.Grants)]).length = 1 from rfl), show (x.Asked.toList.map AV.int).length = 3 from (vmap_len (f := AV.int) x.Asked)]
theorem GState.sub0 (x : GState) : Sub (GState.cs x) 0 (x.Tables.toList.flatMap (fun v : Vector GTable 2 => v.toList.flatMap GTable.cs)) := Sub.head _ _
theorem GState.upd0 (x : GState) (y : Vector (Vector GTable 2) 3) : Upd (GState.cs x) 0 (y.toList.flatMap (fun v : Vector GTable 2 => v.toList.flatMap GTable.cs)) (GState.cs { x with Tables := y }) := Upd.head ((vfm_len (fun x => (vfm_len (fun x => (GTable.len x)) x)) y).trans (vfm_len (fun x => (vfm_len (fun x => (GTable.len x)) x)) x.Tables).symm)
theorem GState.sub1 (x : GState) : Sub (GState.cs x) 114 ([((fun q : List GGrant => AV.lst (q.flatMap GGrant.cs) q.length) x.Grants)]) := Sub.skip (k := 114) (vfm_len (fun x => (vfm_len (fun x => (GTable.len x)) x)) x.Tables) (Sub.head _ _)
theorem GState.upd1 (x : GState) (y : List GGrant) : Upd (GState.cs x) 114 ([((fun q : List GGrant => AV.lst (q.flatMap GGrant.cs) q.length) y)]) (GState.cs { x with Grants := y }) := Upd.skip (k := 114) (vfm_len (fun x => (vfm_len (fun x => (GTable.len x)) x)) x.Tables) (Upd.head (show ([((fun q : List GGrant => AV.lst (q.flatMap GGrant.cs) q.length) y)]).length = ([((fun q : List GGrant => AV.lst (q.flatMap GGrant.cs) q.length) x.Grants)]).length from rfl))
theorem GState.sub2 (x : GState) : Sub (GState.cs x) 115 (x.Asked.toList.map AV.int) := Sub.skip (k := 114) (vfm_len (fun x => (vfm_len (fun x => (GTable.len x)) x)) x.Tables) (Sub.skip (k := 1) (show ([((fun q : List GGrant => AV.lst (q.flatMap GGrant.cs) q.length) x.Grants)]).length = 1 from rfl) (Sub.refl _))
theorem GState.upd2 (x : GState) (y : Vector Int 3) : Upd (GState.cs x) 115 (y.toList.map AV.int) (GState.cs { x with Asked := y }) := Upd.skip (k := 114) (vfm_len (fun x => (vfm_len (fun x => (GTable.len x)) x)) x.Tables) (Upd.skip (k := 1) (show ([((fun q : List GGrant => AV.lst (q.flatMap GGrant.cs) q.length) x.Grants)]).length = 1 from rfl) (Upd.refl ((vmap_len (f := AV.int) y).trans (vmap_len (f := AV.int) x.Asked).symm)))
structure GServer where
  Mode : Int
  Secret : List UInt8
  State : GState
  Roll : List (List UInt8)
  Disk : GDisk
deriving DecidableEq, Inhabited
def GServer.zero : GServer := ⟨(0 : Int), [], GState.zero, [], GDisk.zero⟩
def GServer.cs (x : GServer) : List AV := ([(AV.int x.Mode)]) ++ (([(AV.bytes x.Secret)]) ++ ((GState.cs x.State) ++ (([(AV.lists x.Roll)]) ++ (GDisk.cs x.Disk))))
theorem GServer.len (x : GServer) : (GServer.cs x).length = 123 := by
  simp only [GServer.cs, List.length_append]
  rw [show ([(AV.int x.Mode)]).length = 1 from (show ([(AV.int x.Mode)]).length = 1 from rfl), show ([(AV.bytes x.Secret)]).length = 1 from (show ([(AV.bytes x.Secret)]).length = 1 from rfl), show (GState.cs x.State).length = 118 from (GState.len x.State), show ([(AV.lists x.Roll)]).length = 1 from (show ([(AV.lists x.Roll)]).length = 1 from rfl), show (GDisk.cs x.Disk).length = 2 from (GDisk.len x.Disk)]
theorem GServer.sub0 (x : GServer) : Sub (GServer.cs x) 0 ([(AV.int x.Mode)]) := Sub.head _ _
theorem GServer.upd0 (x : GServer) (y : Int) : Upd (GServer.cs x) 0 ([(AV.int y)]) (GServer.cs { x with Mode := y }) := Upd.head (show ([(AV.int y)]).length = ([(AV.int x.Mode)]).length from rfl)
theorem GServer.sub1 (x : GServer) : Sub (GServer.cs x) 1 ([(AV.bytes x.Secret)]) := Sub.skip (k := 1) (show ([(AV.int x.Mode)]).length = 1 from rfl) (Sub.head _ _)
theorem GServer.upd1 (x : GServer) (y : List UInt8) : Upd (GServer.cs x) 1 ([(AV.bytes y)]) (GServer.cs { x with Secret := y }) := Upd.skip (k := 1) (show ([(AV.int x.Mode)]).length = 1 from rfl) (Upd.head (show ([(AV.bytes y)]).length = ([(AV.bytes x.Secret)]).length from rfl))
theorem GServer.sub2 (x : GServer) : Sub (GServer.cs x) 2 (GState.cs x.State) := Sub.skip (k := 1) (show ([(AV.int x.Mode)]).length = 1 from rfl) (Sub.skip (k := 1) (show ([(AV.bytes x.Secret)]).length = 1 from rfl) (Sub.head _ _))
theorem GServer.upd2 (x : GServer) (y : GState) : Upd (GServer.cs x) 2 (GState.cs y) (GServer.cs { x with State := y }) := Upd.skip (k := 1) (show ([(AV.int x.Mode)]).length = 1 from rfl) (Upd.skip (k := 1) (show ([(AV.bytes x.Secret)]).length = 1 from rfl) (Upd.head ((GState.len y).trans (GState.len x.State).symm)))
theorem GServer.sub3 (x : GServer) : Sub (GServer.cs x) 120 ([(AV.lists x.Roll)]) := Sub.skip (k := 1) (show ([(AV.int x.Mode)]).length = 1 from rfl) (Sub.skip (k := 1) (show ([(AV.bytes x.Secret)]).length = 1 from rfl) (Sub.skip (k := 118) (GState.len x.State) (Sub.head _ _)))
theorem GServer.upd3 (x : GServer) (y : List (List UInt8)) : Upd (GServer.cs x) 120 ([(AV.lists y)]) (GServer.cs { x with Roll := y }) := Upd.skip (k := 1) (show ([(AV.int x.Mode)]).length = 1 from rfl) (Upd.skip (k := 1) (show ([(AV.bytes x.Secret)]).length = 1 from rfl) (Upd.skip (k := 118) (GState.len x.State) (Upd.head (show ([(AV.lists y)]).length = ([(AV.lists x.Roll)]).length from rfl))))
theorem GServer.sub4 (x : GServer) : Sub (GServer.cs x) 121 (GDisk.cs x.Disk) := Sub.skip (k := 1) (show ([(AV.int x.Mode)]).length = 1 from rfl) (Sub.skip (k := 1) (show ([(AV.bytes x.Secret)]).length = 1 from rfl) (Sub.skip (k := 118) (GState.len x.State) (Sub.skip (k := 1) (show ([(AV.lists x.Roll)]).length = 1 from rfl) (Sub.refl _))))
theorem GServer.upd4 (x : GServer) (y : GDisk) : Upd (GServer.cs x) 121 (GDisk.cs y) (GServer.cs { x with Disk := y }) := Upd.skip (k := 1) (show ([(AV.int x.Mode)]).length = 1 from rfl) (Upd.skip (k := 1) (show ([(AV.bytes x.Secret)]).length = 1 from rfl) (Upd.skip (k := 118) (GState.len x.State) (Upd.skip (k := 1) (show ([(AV.lists x.Roll)]).length = 1 from rfl) (Upd.refl ((GDisk.len y).trans (GDisk.len x.Disk).symm)))))
theorem in_25 : Info Try.prog 25 2 48 (.agg #[.slice none 0 0, .slice none 0 0]) := by unfold Info; kernel_rfl
theorem one_25 : (.agg #[.slice none 0 0, .slice none 0 0] : Value).cells.all (·.oneCell') = true := by kernel_rfl
theorem zc_25 : ((.agg #[.slice none 0 0, .slice none 0 0] : Value).cells.toList.map zcell) = GDisk.cs GDisk.zero := by rfl
theorem pl_25 : placesOf Try.prog 25 = some [(0, 1), (1, 1)] := by kernel_rfl
theorem in_32 : Info Try.prog 32 32 32 (.agg #[.int .u8 0, .int .u8 0, .int .u8 0, .int .u8 0, .int .u8 0, .int .u8 0, .int .u8 0, .int .u8 0, .int .u8 0, .int .u8 0, .int .u8 0, .int .u8 0, .int .u8 0, .int .u8 0, .int .u8 0, .int .u8 0, .int .u8 0, .int .u8 0, .int .u8 0, .int .u8 0, .int .u8 0, .int .u8 0, .int .u8 0, .int .u8 0, .int .u8 0, .int .u8 0, .int .u8 0, .int .u8 0, .int .u8 0, .int .u8 0, .int .u8 0, .int .u8 0]) := by unfold Info; kernel_rfl
theorem one_32 : (.agg #[.int .u8 0, .int .u8 0, .int .u8 0, .int .u8 0, .int .u8 0, .int .u8 0, .int .u8 0, .int .u8 0, .int .u8 0, .int .u8 0, .int .u8 0, .int .u8 0, .int .u8 0, .int .u8 0, .int .u8 0, .int .u8 0, .int .u8 0, .int .u8 0, .int .u8 0, .int .u8 0, .int .u8 0, .int .u8 0, .int .u8 0, .int .u8 0, .int .u8 0, .int .u8 0, .int .u8 0, .int .u8 0, .int .u8 0, .int .u8 0, .int .u8 0, .int .u8 0] : Value).cells.all (·.oneCell') = true := by kernel_rfl
theorem zc_32 : ((.agg #[.int .u8 0, .int .u8 0, .int .u8 0, .int .u8 0, .int .u8 0, .int .u8 0, .int .u8 0, .int .u8 0, .int .u8 0, .int .u8 0, .int .u8 0, .int .u8 0, .int .u8 0, .int .u8 0, .int .u8 0, .int .u8 0, .int .u8 0, .int .u8 0, .int .u8 0, .int .u8 0, .int .u8 0, .int .u8 0, .int .u8 0, .int .u8 0, .int .u8 0, .int .u8 0, .int .u8 0, .int .u8 0, .int .u8 0, .int .u8 0, .int .u8 0, .int .u8 0] : Value).cells.toList.map zcell) = bcells ((Vector.replicate 32 (0 : UInt8)).toList) := by rfl
theorem in_64 : Info Try.prog 64 123 1976 (.agg #[.int .i64 0, .slice none 0 0, .bool false, .string ⟨#[]⟩, .slice none 0 0, .bool false, .slice none 0 0, .bool false, .slice none 0 0, .bool false, .slice none 0 0, .bool false, .slice none 0 0, .bool false, .slice none 0 0, .bool false, .slice none 0 0, .bool false, .slice none 0 0, .bool false, .slice none 0 0, .bool false, .string ⟨#[]⟩, .slice none 0 0, .bool false, .slice none 0 0, .bool false, .slice none 0 0, .bool false, .slice none 0 0, .bool false, .slice none 0 0, .bool false, .slice none 0 0, .bool false, .slice none 0 0, .bool false, .slice none 0 0, .bool false, .slice none 0 0, .bool false, .string ⟨#[]⟩, .slice none 0 0, .bool false, .slice none 0 0, .bool false, .slice none 0 0, .bool false, .slice none 0 0, .bool false, .slice none 0 0, .bool false, .slice none 0 0, .bool false, .slice none 0 0, .bool false, .slice none 0 0, .bool false, .slice none 0 0, .bool false, .string ⟨#[]⟩, .slice none 0 0, .bool false, .slice none 0 0, .bool false, .slice none 0 0, .bool false, .slice none 0 0, .bool false, .slice none 0 0, .bool false, .slice none 0 0, .bool false, .slice none 0 0, .bool false, .slice none 0 0, .bool false, .slice none 0 0, .bool false, .string ⟨#[]⟩, .slice none 0 0, .bool false, .slice none 0 0, .bool false, .slice none 0 0, .bool false, .slice none 0 0, .bool false, .slice none 0 0, .bool false, .slice none 0 0, .bool false, .slice none 0 0, .bool false, .slice none 0 0, .bool false, .slice none 0 0, .bool false, .string ⟨#[]⟩, .slice none 0 0, .bool false, .slice none 0 0, .bool false, .slice none 0 0, .bool false, .slice none 0 0, .bool false, .slice none 0 0, .bool false, .slice none 0 0, .bool false, .slice none 0 0, .bool false, .slice none 0 0, .bool false, .slice none 0 0, .slice none 0 0, .int .i64 0, .int .i64 0, .int .i64 0, .slice none 0 0, .slice none 0 0, .slice none 0 0]) := by unfold Info; kernel_rfl
theorem one_64 : (.agg #[.int .i64 0, .slice none 0 0, .bool false, .string ⟨#[]⟩, .slice none 0 0, .bool false, .slice none 0 0, .bool false, .slice none 0 0, .bool false, .slice none 0 0, .bool false, .slice none 0 0, .bool false, .slice none 0 0, .bool false, .slice none 0 0, .bool false, .slice none 0 0, .bool false, .slice none 0 0, .bool false, .string ⟨#[]⟩, .slice none 0 0, .bool false, .slice none 0 0, .bool false, .slice none 0 0, .bool false, .slice none 0 0, .bool false, .slice none 0 0, .bool false, .slice none 0 0, .bool false, .slice none 0 0, .bool false, .slice none 0 0, .bool false, .slice none 0 0, .bool false, .string ⟨#[]⟩, .slice none 0 0, .bool false, .slice none 0 0, .bool false, .slice none 0 0, .bool false, .slice none 0 0, .bool false, .slice none 0 0, .bool false, .slice none 0 0, .bool false, .slice none 0 0, .bool false, .slice none 0 0, .bool false, .slice none 0 0, .bool false, .string ⟨#[]⟩, .slice none 0 0, .bool false, .slice none 0 0, .bool false, .slice none 0 0, .bool false, .slice none 0 0, .bool false, .slice none 0 0, .bool false, .slice none 0 0, .bool false, .slice none 0 0, .bool false, .slice none 0 0, .bool false, .slice none 0 0, .bool false, .string ⟨#[]⟩, .slice none 0 0, .bool false, .slice none 0 0, .bool false, .slice none 0 0, .bool false, .slice none 0 0, .bool false, .slice none 0 0, .bool false, .slice none 0 0, .bool false, .slice none 0 0, .bool false, .slice none 0 0, .bool false, .slice none 0 0, .bool false, .string ⟨#[]⟩, .slice none 0 0, .bool false, .slice none 0 0, .bool false, .slice none 0 0, .bool false, .slice none 0 0, .bool false, .slice none 0 0, .bool false, .slice none 0 0, .bool false, .slice none 0 0, .bool false, .slice none 0 0, .bool false, .slice none 0 0, .slice none 0 0, .int .i64 0, .int .i64 0, .int .i64 0, .slice none 0 0, .slice none 0 0, .slice none 0 0] : Value).cells.all (·.oneCell') = true := by kernel_rfl
theorem zc_64 : ((.agg #[.int .i64 0, .slice none 0 0, .bool false, .string ⟨#[]⟩, .slice none 0 0, .bool false, .slice none 0 0, .bool false, .slice none 0 0, .bool false, .slice none 0 0, .bool false, .slice none 0 0, .bool false, .slice none 0 0, .bool false, .slice none 0 0, .bool false, .slice none 0 0, .bool false, .slice none 0 0, .bool false, .string ⟨#[]⟩, .slice none 0 0, .bool false, .slice none 0 0, .bool false, .slice none 0 0, .bool false, .slice none 0 0, .bool false, .slice none 0 0, .bool false, .slice none 0 0, .bool false, .slice none 0 0, .bool false, .slice none 0 0, .bool false, .slice none 0 0, .bool false, .string ⟨#[]⟩, .slice none 0 0, .bool false, .slice none 0 0, .bool false, .slice none 0 0, .bool false, .slice none 0 0, .bool false, .slice none 0 0, .bool false, .slice none 0 0, .bool false, .slice none 0 0, .bool false, .slice none 0 0, .bool false, .slice none 0 0, .bool false, .string ⟨#[]⟩, .slice none 0 0, .bool false, .slice none 0 0, .bool false, .slice none 0 0, .bool false, .slice none 0 0, .bool false, .slice none 0 0, .bool false, .slice none 0 0, .bool false, .slice none 0 0, .bool false, .slice none 0 0, .bool false, .slice none 0 0, .bool false, .string ⟨#[]⟩, .slice none 0 0, .bool false, .slice none 0 0, .bool false, .slice none 0 0, .bool false, .slice none 0 0, .bool false, .slice none 0 0, .bool false, .slice none 0 0, .bool false, .slice none 0 0, .bool false, .slice none 0 0, .bool false, .slice none 0 0, .bool false, .string ⟨#[]⟩, .slice none 0 0, .bool false, .slice none 0 0, .bool false, .slice none 0 0, .bool false, .slice none 0 0, .bool false, .slice none 0 0, .bool false, .slice none 0 0, .bool false, .slice none 0 0, .bool false, .slice none 0 0, .bool false, .slice none 0 0, .slice none 0 0, .int .i64 0, .int .i64 0, .int .i64 0, .slice none 0 0, .slice none 0 0, .slice none 0 0] : Value).cells.toList.map zcell) = GServer.cs GServer.zero := by rfl
theorem pl_64 : placesOf Try.prog 64 = some [(0, 1), (1, 1), (2, 118), (120, 1), (121, 2)] := by kernel_rfl
theorem in_5 : Info Try.prog 5 1 1 (.int .u8 0) := by unfold Info; kernel_rfl
theorem one_5 : (.int .u8 0 : Value).cells.all (·.oneCell') = true := by kernel_rfl
theorem zc_5 : ((.int .u8 0 : Value).cells.toList.map zcell) = [(AV.b8 (0 : UInt8))] := by rfl
theorem in_103 : Info Try.prog 103 3 32 (.agg #[.string ⟨#[]⟩, .int .i64 0, .bool false]) := by unfold Info; kernel_rfl
theorem one_103 : (.agg #[.string ⟨#[]⟩, .int .i64 0, .bool false] : Value).cells.all (·.oneCell') = true := by kernel_rfl
theorem zc_103 : ((.agg #[.string ⟨#[]⟩, .int .i64 0, .bool false] : Value).cells.toList.map zcell) = GColumn.cs GColumn.zero := by rfl
theorem pl_103 : placesOf Try.prog 103 = some [(0, 1), (1, 1), (2, 1)] := by kernel_rfl
theorem in_105 : Info Try.prog 105 4 40 (.agg #[.int .i64 0, .int .i64 0, .int .u64 0, .string ⟨#[]⟩]) := by unfold Info; kernel_rfl
theorem one_105 : (.agg #[.int .i64 0, .int .i64 0, .int .u64 0, .string ⟨#[]⟩] : Value).cells.all (·.oneCell') = true := by kernel_rfl
theorem zc_105 : ((.agg #[.int .i64 0, .int .i64 0, .int .u64 0, .string ⟨#[]⟩] : Value).cells.toList.map zcell) = GValue.cs GValue.zero := by rfl
theorem pl_105 : placesOf Try.prog 105 = some [(0, 1), (1, 1), (2, 1), (3, 1)] := by kernel_rfl
theorem in_4 : Info Try.prog 4 1 1 (.bool false) := by unfold Info; kernel_rfl
theorem one_4 : (.bool false : Value).cells.all (·.oneCell') = true := by kernel_rfl
theorem zc_4 : ((.bool false : Value).cells.toList.map zcell) = [(AV.bool false)] := by rfl
theorem in_9 : Info Try.prog 9 1 16 (.string ⟨#[]⟩) := by unfold Info; kernel_rfl
theorem one_9 : (.string ⟨#[]⟩ : Value).cells.all (·.oneCell') = true := by kernel_rfl
theorem zc_9 : ((.string ⟨#[]⟩ : Value).cells.toList.map zcell) = [(AV.txt [])] := by rfl
theorem in_49 : Info Try.prog 49 1 24 (.slice none 0 0) := by unfold Info; kernel_rfl
theorem one_49 : (.slice none 0 0 : Value).cells.all (·.oneCell') = true := by kernel_rfl
theorem zc_49 : ((.slice none 0 0 : Value).cells.toList.map zcell) = [((fun q : List GColumn => AV.lst (q.flatMap GColumn.cs) q.length) [])] := by rfl
theorem in_54 : Info Try.prog 54 16 256 (.agg #[.bool false, .slice none 0 0, .bool false, .slice none 0 0, .bool false, .slice none 0 0, .bool false, .slice none 0 0, .bool false, .slice none 0 0, .bool false, .slice none 0 0, .bool false, .slice none 0 0, .bool false, .slice none 0 0]) := by unfold Info; kernel_rfl
theorem one_54 : (.agg #[.bool false, .slice none 0 0, .bool false, .slice none 0 0, .bool false, .slice none 0 0, .bool false, .slice none 0 0, .bool false, .slice none 0 0, .bool false, .slice none 0 0, .bool false, .slice none 0 0, .bool false, .slice none 0 0] : Value).cells.all (·.oneCell') = true := by kernel_rfl
theorem zc_54 : ((.agg #[.bool false, .slice none 0 0, .bool false, .slice none 0 0, .bool false, .slice none 0 0, .bool false, .slice none 0 0, .bool false, .slice none 0 0, .bool false, .slice none 0 0, .bool false, .slice none 0 0, .bool false, .slice none 0 0] : Value).cells.toList.map zcell) = ((Vector.replicate 2 (Vector.replicate 4 GCell.zero)).toList).flatMap (fun v : Vector GCell 4 => v.toList.flatMap GCell.cs) := by rfl
theorem in_53 : Info Try.prog 53 8 128 (.agg #[.bool false, .slice none 0 0, .bool false, .slice none 0 0, .bool false, .slice none 0 0, .bool false, .slice none 0 0]) := by unfold Info; kernel_rfl
theorem one_53 : (.agg #[.bool false, .slice none 0 0, .bool false, .slice none 0 0, .bool false, .slice none 0 0, .bool false, .slice none 0 0] : Value).cells.all (·.oneCell') = true := by kernel_rfl
theorem zc_53 : ((.agg #[.bool false, .slice none 0 0, .bool false, .slice none 0 0, .bool false, .slice none 0 0, .bool false, .slice none 0 0] : Value).cells.toList.map zcell) = ((Vector.replicate 4 GCell.zero).toList).flatMap GCell.cs := by rfl
theorem in_52 : Info Try.prog 52 2 32 (.agg #[.bool false, .slice none 0 0]) := by unfold Info; kernel_rfl
theorem one_52 : (.agg #[.bool false, .slice none 0 0] : Value).cells.all (·.oneCell') = true := by kernel_rfl
theorem zc_52 : ((.agg #[.bool false, .slice none 0 0] : Value).cells.toList.map zcell) = GCell.cs GCell.zero := by rfl
theorem pl_52 : placesOf Try.prog 52 = some [(0, 1), (1, 1)] := by kernel_rfl
theorem in_50 : Info Try.prog 50 1 24 (.slice none 0 0) := by unfold Info; kernel_rfl
theorem one_50 : (.slice none 0 0 : Value).cells.all (·.oneCell') = true := by kernel_rfl
theorem zc_50 : ((.slice none 0 0 : Value).cells.toList.map zcell) = [((fun q : List GValue => AV.lst (q.flatMap GValue.cs) q.length) [])] := by rfl
theorem in_101 : Info Try.prog 101 5 40 (.agg #[.int .i64 0, .int .i64 0, .int .i64 0, .int .i64 0, .bool false]) := by unfold Info; kernel_rfl
theorem one_101 : (.agg #[.int .i64 0, .int .i64 0, .int .i64 0, .int .i64 0, .bool false] : Value).cells.all (·.oneCell') = true := by kernel_rfl
theorem zc_101 : ((.agg #[.int .i64 0, .int .i64 0, .int .i64 0, .int .i64 0, .bool false] : Value).cells.toList.map zcell) = GGrant.cs GGrant.zero := by rfl
theorem pl_101 : placesOf Try.prog 101 = some [(0, 1), (1, 1), (2, 1), (3, 1), (4, 1)] := by kernel_rfl
theorem in_58 : Info Try.prog 58 114 1824 (.agg #[.bool false, .string ⟨#[]⟩, .slice none 0 0, .bool false, .slice none 0 0, .bool false, .slice none 0 0, .bool false, .slice none 0 0, .bool false, .slice none 0 0, .bool false, .slice none 0 0, .bool false, .slice none 0 0, .bool false, .slice none 0 0, .bool false, .slice none 0 0, .bool false, .string ⟨#[]⟩, .slice none 0 0, .bool false, .slice none 0 0, .bool false, .slice none 0 0, .bool false, .slice none 0 0, .bool false, .slice none 0 0, .bool false, .slice none 0 0, .bool false, .slice none 0 0, .bool false, .slice none 0 0, .bool false, .slice none 0 0, .bool false, .string ⟨#[]⟩, .slice none 0 0, .bool false, .slice none 0 0, .bool false, .slice none 0 0, .bool false, .slice none 0 0, .bool false, .slice none 0 0, .bool false, .slice none 0 0, .bool false, .slice none 0 0, .bool false, .slice none 0 0, .bool false, .slice none 0 0, .bool false, .string ⟨#[]⟩, .slice none 0 0, .bool false, .slice none 0 0, .bool false, .slice none 0 0, .bool false, .slice none 0 0, .bool false, .slice none 0 0, .bool false, .slice none 0 0, .bool false, .slice none 0 0, .bool false, .slice none 0 0, .bool false, .slice none 0 0, .bool false, .string ⟨#[]⟩, .slice none 0 0, .bool false, .slice none 0 0, .bool false, .slice none 0 0, .bool false, .slice none 0 0, .bool false, .slice none 0 0, .bool false, .slice none 0 0, .bool false, .slice none 0 0, .bool false, .slice none 0 0, .bool false, .slice none 0 0, .bool false, .string ⟨#[]⟩, .slice none 0 0, .bool false, .slice none 0 0, .bool false, .slice none 0 0, .bool false, .slice none 0 0, .bool false, .slice none 0 0, .bool false, .slice none 0 0, .bool false, .slice none 0 0, .bool false, .slice none 0 0, .bool false, .slice none 0 0]) := by unfold Info; kernel_rfl
theorem one_58 : (.agg #[.bool false, .string ⟨#[]⟩, .slice none 0 0, .bool false, .slice none 0 0, .bool false, .slice none 0 0, .bool false, .slice none 0 0, .bool false, .slice none 0 0, .bool false, .slice none 0 0, .bool false, .slice none 0 0, .bool false, .slice none 0 0, .bool false, .slice none 0 0, .bool false, .string ⟨#[]⟩, .slice none 0 0, .bool false, .slice none 0 0, .bool false, .slice none 0 0, .bool false, .slice none 0 0, .bool false, .slice none 0 0, .bool false, .slice none 0 0, .bool false, .slice none 0 0, .bool false, .slice none 0 0, .bool false, .slice none 0 0, .bool false, .string ⟨#[]⟩, .slice none 0 0, .bool false, .slice none 0 0, .bool false, .slice none 0 0, .bool false, .slice none 0 0, .bool false, .slice none 0 0, .bool false, .slice none 0 0, .bool false, .slice none 0 0, .bool false, .slice none 0 0, .bool false, .slice none 0 0, .bool false, .string ⟨#[]⟩, .slice none 0 0, .bool false, .slice none 0 0, .bool false, .slice none 0 0, .bool false, .slice none 0 0, .bool false, .slice none 0 0, .bool false, .slice none 0 0, .bool false, .slice none 0 0, .bool false, .slice none 0 0, .bool false, .slice none 0 0, .bool false, .string ⟨#[]⟩, .slice none 0 0, .bool false, .slice none 0 0, .bool false, .slice none 0 0, .bool false, .slice none 0 0, .bool false, .slice none 0 0, .bool false, .slice none 0 0, .bool false, .slice none 0 0, .bool false, .slice none 0 0, .bool false, .slice none 0 0, .bool false, .string ⟨#[]⟩, .slice none 0 0, .bool false, .slice none 0 0, .bool false, .slice none 0 0, .bool false, .slice none 0 0, .bool false, .slice none 0 0, .bool false, .slice none 0 0, .bool false, .slice none 0 0, .bool false, .slice none 0 0, .bool false, .slice none 0 0] : Value).cells.all (·.oneCell') = true := by kernel_rfl
theorem zc_58 : ((.agg #[.bool false, .string ⟨#[]⟩, .slice none 0 0, .bool false, .slice none 0 0, .bool false, .slice none 0 0, .bool false, .slice none 0 0, .bool false, .slice none 0 0, .bool false, .slice none 0 0, .bool false, .slice none 0 0, .bool false, .slice none 0 0, .bool false, .slice none 0 0, .bool false, .string ⟨#[]⟩, .slice none 0 0, .bool false, .slice none 0 0, .bool false, .slice none 0 0, .bool false, .slice none 0 0, .bool false, .slice none 0 0, .bool false, .slice none 0 0, .bool false, .slice none 0 0, .bool false, .slice none 0 0, .bool false, .slice none 0 0, .bool false, .string ⟨#[]⟩, .slice none 0 0, .bool false, .slice none 0 0, .bool false, .slice none 0 0, .bool false, .slice none 0 0, .bool false, .slice none 0 0, .bool false, .slice none 0 0, .bool false, .slice none 0 0, .bool false, .slice none 0 0, .bool false, .slice none 0 0, .bool false, .string ⟨#[]⟩, .slice none 0 0, .bool false, .slice none 0 0, .bool false, .slice none 0 0, .bool false, .slice none 0 0, .bool false, .slice none 0 0, .bool false, .slice none 0 0, .bool false, .slice none 0 0, .bool false, .slice none 0 0, .bool false, .slice none 0 0, .bool false, .string ⟨#[]⟩, .slice none 0 0, .bool false, .slice none 0 0, .bool false, .slice none 0 0, .bool false, .slice none 0 0, .bool false, .slice none 0 0, .bool false, .slice none 0 0, .bool false, .slice none 0 0, .bool false, .slice none 0 0, .bool false, .slice none 0 0, .bool false, .string ⟨#[]⟩, .slice none 0 0, .bool false, .slice none 0 0, .bool false, .slice none 0 0, .bool false, .slice none 0 0, .bool false, .slice none 0 0, .bool false, .slice none 0 0, .bool false, .slice none 0 0, .bool false, .slice none 0 0, .bool false, .slice none 0 0] : Value).cells.toList.map zcell) = ((Vector.replicate 3 (Vector.replicate 2 GTable.zero)).toList).flatMap (fun v : Vector GTable 2 => v.toList.flatMap GTable.cs) := by rfl
theorem in_57 : Info Try.prog 57 38 608 (.agg #[.bool false, .string ⟨#[]⟩, .slice none 0 0, .bool false, .slice none 0 0, .bool false, .slice none 0 0, .bool false, .slice none 0 0, .bool false, .slice none 0 0, .bool false, .slice none 0 0, .bool false, .slice none 0 0, .bool false, .slice none 0 0, .bool false, .slice none 0 0, .bool false, .string ⟨#[]⟩, .slice none 0 0, .bool false, .slice none 0 0, .bool false, .slice none 0 0, .bool false, .slice none 0 0, .bool false, .slice none 0 0, .bool false, .slice none 0 0, .bool false, .slice none 0 0, .bool false, .slice none 0 0, .bool false, .slice none 0 0]) := by unfold Info; kernel_rfl
theorem one_57 : (.agg #[.bool false, .string ⟨#[]⟩, .slice none 0 0, .bool false, .slice none 0 0, .bool false, .slice none 0 0, .bool false, .slice none 0 0, .bool false, .slice none 0 0, .bool false, .slice none 0 0, .bool false, .slice none 0 0, .bool false, .slice none 0 0, .bool false, .slice none 0 0, .bool false, .string ⟨#[]⟩, .slice none 0 0, .bool false, .slice none 0 0, .bool false, .slice none 0 0, .bool false, .slice none 0 0, .bool false, .slice none 0 0, .bool false, .slice none 0 0, .bool false, .slice none 0 0, .bool false, .slice none 0 0, .bool false, .slice none 0 0] : Value).cells.all (·.oneCell') = true := by kernel_rfl
theorem zc_57 : ((.agg #[.bool false, .string ⟨#[]⟩, .slice none 0 0, .bool false, .slice none 0 0, .bool false, .slice none 0 0, .bool false, .slice none 0 0, .bool false, .slice none 0 0, .bool false, .slice none 0 0, .bool false, .slice none 0 0, .bool false, .slice none 0 0, .bool false, .slice none 0 0, .bool false, .string ⟨#[]⟩, .slice none 0 0, .bool false, .slice none 0 0, .bool false, .slice none 0 0, .bool false, .slice none 0 0, .bool false, .slice none 0 0, .bool false, .slice none 0 0, .bool false, .slice none 0 0, .bool false, .slice none 0 0, .bool false, .slice none 0 0] : Value).cells.toList.map zcell) = ((Vector.replicate 2 GTable.zero).toList).flatMap GTable.cs := by rfl
theorem in_56 : Info Try.prog 56 19 304 (.agg #[.bool false, .string ⟨#[]⟩, .slice none 0 0, .bool false, .slice none 0 0, .bool false, .slice none 0 0, .bool false, .slice none 0 0, .bool false, .slice none 0 0, .bool false, .slice none 0 0, .bool false, .slice none 0 0, .bool false, .slice none 0 0, .bool false, .slice none 0 0]) := by unfold Info; kernel_rfl
theorem one_56 : (.agg #[.bool false, .string ⟨#[]⟩, .slice none 0 0, .bool false, .slice none 0 0, .bool false, .slice none 0 0, .bool false, .slice none 0 0, .bool false, .slice none 0 0, .bool false, .slice none 0 0, .bool false, .slice none 0 0, .bool false, .slice none 0 0, .bool false, .slice none 0 0] : Value).cells.all (·.oneCell') = true := by kernel_rfl
theorem zc_56 : ((.agg #[.bool false, .string ⟨#[]⟩, .slice none 0 0, .bool false, .slice none 0 0, .bool false, .slice none 0 0, .bool false, .slice none 0 0, .bool false, .slice none 0 0, .bool false, .slice none 0 0, .bool false, .slice none 0 0, .bool false, .slice none 0 0, .bool false, .slice none 0 0] : Value).cells.toList.map zcell) = GTable.cs GTable.zero := by rfl
theorem pl_56 : placesOf Try.prog 56 = some [(0, 1), (1, 1), (2, 1), (3, 16)] := by kernel_rfl
theorem in_59 : Info Try.prog 59 1 24 (.slice none 0 0) := by unfold Info; kernel_rfl
theorem one_59 : (.slice none 0 0 : Value).cells.all (·.oneCell') = true := by kernel_rfl
theorem zc_59 : ((.slice none 0 0 : Value).cells.toList.map zcell) = [((fun q : List GGrant => AV.lst (q.flatMap GGrant.cs) q.length) [])] := by rfl
theorem in_60 : Info Try.prog 60 3 24 (.agg #[.int .i64 0, .int .i64 0, .int .i64 0]) := by unfold Info; kernel_rfl
theorem one_60 : (.agg #[.int .i64 0, .int .i64 0, .int .i64 0] : Value).cells.all (·.oneCell') = true := by kernel_rfl
theorem zc_60 : ((.agg #[.int .i64 0, .int .i64 0, .int .i64 0] : Value).cells.toList.map zcell) = ((Vector.replicate 3 (0 : Int)).toList).map AV.int := by rfl
theorem in_3 : Info Try.prog 3 1 8 (.int .i64 0) := by unfold Info; kernel_rfl
theorem one_3 : (.int .i64 0 : Value).cells.all (·.oneCell') = true := by kernel_rfl
theorem zc_3 : ((.int .i64 0 : Value).cells.toList.map zcell) = [(AV.int (0 : Int))] := by rfl
theorem in_45 : Info Try.prog 45 1 24 (.slice none 0 0) := by unfold Info; kernel_rfl
theorem one_45 : (.slice none 0 0 : Value).cells.all (·.oneCell') = true := by kernel_rfl
theorem zc_45 : ((.slice none 0 0 : Value).cells.toList.map zcell) = [(AV.bytes [])] := by rfl
theorem in_22 : Info Try.prog 22 1 24 (.slice none 0 0) := by unfold Info; kernel_rfl
theorem one_22 : (.slice none 0 0 : Value).cells.all (·.oneCell') = true := by kernel_rfl
theorem zc_22 : ((.slice none 0 0 : Value).cells.toList.map zcell) = [((fun q : List (Vector UInt8 32) => AV.lst (q.flatMap (fun v : Vector UInt8 32 => bcells v.toList)) q.length) [])] := by rfl
theorem in_23 : Info Try.prog 23 1 24 (.slice none 0 0) := by unfold Info; kernel_rfl
theorem one_23 : (.slice none 0 0 : Value).cells.all (·.oneCell') = true := by kernel_rfl
theorem zc_23 : ((.slice none 0 0 : Value).cells.toList.map zcell) = [((fun q : List GPut => AV.lst (q.flatMap GPut.cs) q.length) [])] := by rfl
theorem in_70 : Info Try.prog 70 33 40 (.agg #[.int .i64 0, .int .u8 0, .int .u8 0, .int .u8 0, .int .u8 0, .int .u8 0, .int .u8 0, .int .u8 0, .int .u8 0, .int .u8 0, .int .u8 0, .int .u8 0, .int .u8 0, .int .u8 0, .int .u8 0, .int .u8 0, .int .u8 0, .int .u8 0, .int .u8 0, .int .u8 0, .int .u8 0, .int .u8 0, .int .u8 0, .int .u8 0, .int .u8 0, .int .u8 0, .int .u8 0, .int .u8 0, .int .u8 0, .int .u8 0, .int .u8 0, .int .u8 0, .int .u8 0]) := by unfold Info; kernel_rfl
theorem one_70 : (.agg #[.int .i64 0, .int .u8 0, .int .u8 0, .int .u8 0, .int .u8 0, .int .u8 0, .int .u8 0, .int .u8 0, .int .u8 0, .int .u8 0, .int .u8 0, .int .u8 0, .int .u8 0, .int .u8 0, .int .u8 0, .int .u8 0, .int .u8 0, .int .u8 0, .int .u8 0, .int .u8 0, .int .u8 0, .int .u8 0, .int .u8 0, .int .u8 0, .int .u8 0, .int .u8 0, .int .u8 0, .int .u8 0, .int .u8 0, .int .u8 0, .int .u8 0, .int .u8 0, .int .u8 0] : Value).cells.all (·.oneCell') = true := by kernel_rfl
theorem zc_70 : ((.agg #[.int .i64 0, .int .u8 0, .int .u8 0, .int .u8 0, .int .u8 0, .int .u8 0, .int .u8 0, .int .u8 0, .int .u8 0, .int .u8 0, .int .u8 0, .int .u8 0, .int .u8 0, .int .u8 0, .int .u8 0, .int .u8 0, .int .u8 0, .int .u8 0, .int .u8 0, .int .u8 0, .int .u8 0, .int .u8 0, .int .u8 0, .int .u8 0, .int .u8 0, .int .u8 0, .int .u8 0, .int .u8 0, .int .u8 0, .int .u8 0, .int .u8 0, .int .u8 0, .int .u8 0] : Value).cells.toList.map zcell) = GPut.cs GPut.zero := by rfl
theorem pl_70 : placesOf Try.prog 70 = some [(0, 1), (1, 32)] := by kernel_rfl
theorem in_62 : Info Try.prog 62 118 1872 (.agg #[.bool false, .string ⟨#[]⟩, .slice none 0 0, .bool false, .slice none 0 0, .bool false, .slice none 0 0, .bool false, .slice none 0 0, .bool false, .slice none 0 0, .bool false, .slice none 0 0, .bool false, .slice none 0 0, .bool false, .slice none 0 0, .bool false, .slice none 0 0, .bool false, .string ⟨#[]⟩, .slice none 0 0, .bool false, .slice none 0 0, .bool false, .slice none 0 0, .bool false, .slice none 0 0, .bool false, .slice none 0 0, .bool false, .slice none 0 0, .bool false, .slice none 0 0, .bool false, .slice none 0 0, .bool false, .slice none 0 0, .bool false, .string ⟨#[]⟩, .slice none 0 0, .bool false, .slice none 0 0, .bool false, .slice none 0 0, .bool false, .slice none 0 0, .bool false, .slice none 0 0, .bool false, .slice none 0 0, .bool false, .slice none 0 0, .bool false, .slice none 0 0, .bool false, .slice none 0 0, .bool false, .string ⟨#[]⟩, .slice none 0 0, .bool false, .slice none 0 0, .bool false, .slice none 0 0, .bool false, .slice none 0 0, .bool false, .slice none 0 0, .bool false, .slice none 0 0, .bool false, .slice none 0 0, .bool false, .slice none 0 0, .bool false, .slice none 0 0, .bool false, .string ⟨#[]⟩, .slice none 0 0, .bool false, .slice none 0 0, .bool false, .slice none 0 0, .bool false, .slice none 0 0, .bool false, .slice none 0 0, .bool false, .slice none 0 0, .bool false, .slice none 0 0, .bool false, .slice none 0 0, .bool false, .slice none 0 0, .bool false, .string ⟨#[]⟩, .slice none 0 0, .bool false, .slice none 0 0, .bool false, .slice none 0 0, .bool false, .slice none 0 0, .bool false, .slice none 0 0, .bool false, .slice none 0 0, .bool false, .slice none 0 0, .bool false, .slice none 0 0, .bool false, .slice none 0 0, .slice none 0 0, .int .i64 0, .int .i64 0, .int .i64 0]) := by unfold Info; kernel_rfl
theorem one_62 : (.agg #[.bool false, .string ⟨#[]⟩, .slice none 0 0, .bool false, .slice none 0 0, .bool false, .slice none 0 0, .bool false, .slice none 0 0, .bool false, .slice none 0 0, .bool false, .slice none 0 0, .bool false, .slice none 0 0, .bool false, .slice none 0 0, .bool false, .slice none 0 0, .bool false, .string ⟨#[]⟩, .slice none 0 0, .bool false, .slice none 0 0, .bool false, .slice none 0 0, .bool false, .slice none 0 0, .bool false, .slice none 0 0, .bool false, .slice none 0 0, .bool false, .slice none 0 0, .bool false, .slice none 0 0, .bool false, .slice none 0 0, .bool false, .string ⟨#[]⟩, .slice none 0 0, .bool false, .slice none 0 0, .bool false, .slice none 0 0, .bool false, .slice none 0 0, .bool false, .slice none 0 0, .bool false, .slice none 0 0, .bool false, .slice none 0 0, .bool false, .slice none 0 0, .bool false, .slice none 0 0, .bool false, .string ⟨#[]⟩, .slice none 0 0, .bool false, .slice none 0 0, .bool false, .slice none 0 0, .bool false, .slice none 0 0, .bool false, .slice none 0 0, .bool false, .slice none 0 0, .bool false, .slice none 0 0, .bool false, .slice none 0 0, .bool false, .slice none 0 0, .bool false, .string ⟨#[]⟩, .slice none 0 0, .bool false, .slice none 0 0, .bool false, .slice none 0 0, .bool false, .slice none 0 0, .bool false, .slice none 0 0, .bool false, .slice none 0 0, .bool false, .slice none 0 0, .bool false, .slice none 0 0, .bool false, .slice none 0 0, .bool false, .string ⟨#[]⟩, .slice none 0 0, .bool false, .slice none 0 0, .bool false, .slice none 0 0, .bool false, .slice none 0 0, .bool false, .slice none 0 0, .bool false, .slice none 0 0, .bool false, .slice none 0 0, .bool false, .slice none 0 0, .bool false, .slice none 0 0, .slice none 0 0, .int .i64 0, .int .i64 0, .int .i64 0] : Value).cells.all (·.oneCell') = true := by kernel_rfl
theorem zc_62 : ((.agg #[.bool false, .string ⟨#[]⟩, .slice none 0 0, .bool false, .slice none 0 0, .bool false, .slice none 0 0, .bool false, .slice none 0 0, .bool false, .slice none 0 0, .bool false, .slice none 0 0, .bool false, .slice none 0 0, .bool false, .slice none 0 0, .bool false, .slice none 0 0, .bool false, .string ⟨#[]⟩, .slice none 0 0, .bool false, .slice none 0 0, .bool false, .slice none 0 0, .bool false, .slice none 0 0, .bool false, .slice none 0 0, .bool false, .slice none 0 0, .bool false, .slice none 0 0, .bool false, .slice none 0 0, .bool false, .slice none 0 0, .bool false, .string ⟨#[]⟩, .slice none 0 0, .bool false, .slice none 0 0, .bool false, .slice none 0 0, .bool false, .slice none 0 0, .bool false, .slice none 0 0, .bool false, .slice none 0 0, .bool false, .slice none 0 0, .bool false, .slice none 0 0, .bool false, .slice none 0 0, .bool false, .string ⟨#[]⟩, .slice none 0 0, .bool false, .slice none 0 0, .bool false, .slice none 0 0, .bool false, .slice none 0 0, .bool false, .slice none 0 0, .bool false, .slice none 0 0, .bool false, .slice none 0 0, .bool false, .slice none 0 0, .bool false, .slice none 0 0, .bool false, .string ⟨#[]⟩, .slice none 0 0, .bool false, .slice none 0 0, .bool false, .slice none 0 0, .bool false, .slice none 0 0, .bool false, .slice none 0 0, .bool false, .slice none 0 0, .bool false, .slice none 0 0, .bool false, .slice none 0 0, .bool false, .slice none 0 0, .bool false, .string ⟨#[]⟩, .slice none 0 0, .bool false, .slice none 0 0, .bool false, .slice none 0 0, .bool false, .slice none 0 0, .bool false, .slice none 0 0, .bool false, .slice none 0 0, .bool false, .slice none 0 0, .bool false, .slice none 0 0, .bool false, .slice none 0 0, .slice none 0 0, .int .i64 0, .int .i64 0, .int .i64 0] : Value).cells.toList.map zcell) = GState.cs GState.zero := by rfl
theorem pl_62 : placesOf Try.prog 62 = some [(0, 114), (114, 1), (115, 3)] := by kernel_rfl
theorem in_40 : Info Try.prog 40 1 24 (.slice none 0 0) := by unfold Info; kernel_rfl
theorem one_40 : (.slice none 0 0 : Value).cells.all (·.oneCell') = true := by kernel_rfl
theorem zc_40 : ((.slice none 0 0 : Value).cells.toList.map zcell) = [(AV.lists [])] := by rfl
theorem eq_103 : EqT Try.prog 103 2 (fun x : GColumn => .agg (GColumn.cs x)) :=
  eqt_struct [fun a b => a.Name = b.Name, fun a b => a.Kind = b.Kind, fun a b => a.Null = b.Null] Try.underlying103 (by kernel_rfl) ⟨(FieldEq.more (fe_one (by decide) Try.underlying9 rfl (eqt_txt Try.underlying9) (fun a => GColumn.sub0 a)) (by decide : 1 ≤ 1)), (FieldEq.more (fe_one (by decide) Try.underlying3 rfl (eqt_int Try.underlying3) (fun a => GColumn.sub1 a)) (by decide : 1 ≤ 1)), (FieldEq.more (fe_one (by decide) Try.underlying4 rfl (eqt_bool Try.underlying4) (fun a => GColumn.sub2 a)) (by decide : 1 ≤ 1)), trivial⟩ (fun a b => by
    cases a; cases b
    simp)
theorem eq_105 : EqT Try.prog 105 2 (fun x : GValue => .agg (GValue.cs x)) :=
  eqt_struct [fun a b => a.Kind = b.Kind, fun a b => a.Int_ = b.Int_, fun a b => a.Bits = b.Bits, fun a b => a.Text = b.Text] Try.underlying105 (by kernel_rfl) ⟨(FieldEq.more (fe_one (by decide) Try.underlying3 rfl (eqt_int Try.underlying3) (fun a => GValue.sub0 a)) (by decide : 1 ≤ 1)), (FieldEq.more (fe_one (by decide) Try.underlying3 rfl (eqt_int Try.underlying3) (fun a => GValue.sub1 a)) (by decide : 1 ≤ 1)), (FieldEq.more (fe_one (by decide) Try.underlying82 rfl (eqt_u64 Try.underlying82) (fun a => GValue.sub2 a)) (by decide : 1 ≤ 1)), (FieldEq.more (fe_one (by decide) Try.underlying9 rfl (eqt_txt Try.underlying9) (fun a => GValue.sub3 a)) (by decide : 1 ≤ 1)), trivial⟩ (fun a b => by
    cases a; cases b
    simp)
theorem eq_101 : EqT Try.prog 101 2 (fun x : GGrant => .agg (GGrant.cs x)) :=
  eqt_struct [fun a b => a.From = b.From, fun a b => a.To = b.To, fun a b => a.Object = b.Object, fun a b => a.Right = b.Right, fun a b => a.Option_ = b.Option_] Try.underlying101 (by kernel_rfl) ⟨(FieldEq.more (fe_one (by decide) Try.underlying3 rfl (eqt_int Try.underlying3) (fun a => GGrant.sub0 a)) (by decide : 1 ≤ 1)), (FieldEq.more (fe_one (by decide) Try.underlying3 rfl (eqt_int Try.underlying3) (fun a => GGrant.sub1 a)) (by decide : 1 ≤ 1)), (FieldEq.more (fe_one (by decide) Try.underlying3 rfl (eqt_int Try.underlying3) (fun a => GGrant.sub2 a)) (by decide : 1 ≤ 1)), (FieldEq.more (fe_one (by decide) Try.underlying3 rfl (eqt_int Try.underlying3) (fun a => GGrant.sub3 a)) (by decide : 1 ≤ 1)), (FieldEq.more (fe_one (by decide) Try.underlying4 rfl (eqt_bool Try.underlying4) (fun a => GGrant.sub4 a)) (by decide : 1 ≤ 1)), trivial⟩ (fun a b => by
    cases a; cases b
    simp)
theorem eq_60 : EqT Try.prog 60 2 (fun x : Vector Int 3 => .agg (x.toList.map AV.int)) := eqt_arr1 Try.underlying60 in_3 (by kernel_rfl) Try.underlying3 rfl (eqt_int Try.underlying3)
theorem eq_32 : EqT Try.prog 32 2 (fun x : Vector UInt8 32 => .agg (bcells x.toList)) := eqt_arr1 Try.underlying32 in_5 (by kernel_rfl) Try.underlying5 rfl (eqt_b8 Try.underlying5)
theorem eq_70 : EqT Try.prog 70 3 (fun x : GPut => .agg (GPut.cs x)) :=
  eqt_struct [fun a b => a.At = b.At, fun a b => a.Data = b.Data] Try.underlying70 (by kernel_rfl) ⟨(FieldEq.more (fe_one (by decide) Try.underlying3 rfl (eqt_int Try.underlying3) (fun a => GPut.sub0 a)) (by decide : 1 ≤ 2)), (FieldEq.more (fe_agg (g := fun y : Vector UInt8 32 => bcells y.toList) (by decide) Try.underlying32 rfl in_32 eq_32 (fun a => GPut.sub1 a) (fun x => ((bcells_length _).trans (vlen x)))) (by decide : 2 ≤ 2)), trivial⟩ (fun a b => by
    cases a; cases b
    simp)
set_option maxRecDepth 100000 in
theorem ty_3 {d : Nat} {cs : List AV} (h : Typed Try.prog d 3 cs) : ∃ x : Int, cs = [(AV.int x)] ∧ okI x := match d, h with
  | 0, h => False.elim h
  | d + 1, h => ty_int Try.underlying3 h
set_option maxRecDepth 100000 in
theorem ty_5 {d : Nat} {cs : List AV} (h : Typed Try.prog d 5 cs) : ∃ x : UInt8, cs = [(AV.b8 x)] ∧ okA x := match d, h with
  | 0, h => False.elim h
  | d + 1, h => ty_u8 Try.underlying5 h
set_option maxRecDepth 100000 in
theorem ty_45 {d : Nat} {cs : List AV} (h : Typed Try.prog d 45 cs) : ∃ x : List UInt8, cs = [(AV.bytes x)] ∧ (okL 1 okA) x := match d, h with
  | 0, h => False.elim h
  | d + 1, h => ty_slice (f := AV.b8) Try.underlying45 (bytes_of in_5) (fun _ hx => ty_5 hx) h

/-! disk.New -/
noncomputable def g_disk_New (size0 : Int) : Option (GDisk × Int) :=
  (if (size0 < (1 : Int)) ∨ (size0 > (400 : Int)) then some (GDisk.zero, (1 : Int)) else if 0 ≤ size0 then if 32 * size0.toNat ≤ 281474976710656 then letO ({ GDisk.zero with Lasts := (List.replicate size0.toNat (Vector.replicate 32 (0 : UInt8))) }) fun t2'1 => some (t2'1, (0 : Int)) else none else none)
set_option maxHeartbeats 4000000 in
set_option maxRecDepth 100000 in
theorem g_disk_New_ac {size0 : Int} {r : GDisk × Int} (H : g_disk_New size0 = some r) : ACp Try.prog 11 [(AV.int size0)] (.tup [(.agg (GDisk.cs r.1)), (AV.int r.2)]) := by
  refine ACp_of (AC2_of_body (vs := [.g (GDisk.cs r.1), .i r.2]) Try.func11 rfl rfl (Nat.le_of_ble_eq_true rfl) rfl ?_) (fun _ => .same _)
  unfold g_disk_New at H
  refine as2 [(0, .i size0)] [] rfl rfl rfl ?_
  refine sg [0, 1] rfl ?_
  refine r_op rfl rfl (MakeD.opD (u_alloc 2 rfl in_25 one_25 zc_25) rfl rfl rfl rfl) ?_
  refine rp rfl rfl (p_asg rfl rfl) ?_
  refine rz [(0, .i size0), (2, .q 2 (0))] [(2, .pure (GDisk.cs GDisk.zero))] rfl rfl rfl ?_
  refine AW2_seq ?_
  refine AW2_seq ?_
  refine AW2_mid (⟨[(0, .i size0), (2, .q 2 (0)), (9, .b (decide ((size0 < (1 : Int)) ∨ (size0 > (400 : Int)))))], [(2, .pure (GDisk.cs GDisk.zero))], 14⟩ : TS) ?_ ?_
  · refine AW2_reg [0, 1, 2, 3, 4, 5] rfl ?_
    refine rp rfl rfl (p_move rfl rfl) ?_
    refine rp rfl rfl (p_bin rfl rfl rfl rfl) ?_
    refine rp rfl rfl (p_move rfl rfl) ?_
    refine (Classical.em (size0 < (1 : Int))).elim (fun h1 => ?_) (fun h1 => ?_)
    · refine r_off rfl rfl rfl rfl (decide_eq_true (p := size0 < (1 : Int)) h1) rfl rfl ?_
      refine r_off rfl rfl rfl rfl (decide_eq_true (p := size0 < (1 : Int)) h1) rfl rfl ?_
      refine rp rfl rfl (p_pkt rfl rfl (decide_eq_true (p := size0 < (1 : Int)) h1) (tb (decide_eq_true (p := (size0 < (1 : Int)) ∨ (size0 > (400 : Int))) (Or.inl h1)).symm)) ?_
      refine rs [(0, .i size0), (2, .q 2 (0)), (9, .b (decide ((size0 < (1 : Int)) ∨ (size0 > (400 : Int)))))] [(2, .pure (GDisk.cs GDisk.zero))] rfl rfl rfl ?_
      exact RunW_nil rfl
    · refine r_on rfl rfl rfl rfl (decide_eq_false (p := size0 < (1 : Int)) h1) rfl (PureD.opD (p_move rfl rfl)) ?_
      refine r_on rfl rfl rfl rfl (decide_eq_false (p := size0 < (1 : Int)) h1) rfl (PureD.opD (p_bin rfl rfl rfl rfl)) ?_
      refine rp rfl rfl (p_pkf rfl rfl (decide_eq_false (p := size0 < (1 : Int)) h1) (tb ((or_l (p := size0 < (1 : Int)) (q := size0 > (400 : Int)) h1)))) ?_
      refine rs [(0, .i size0), (2, .q 2 (0)), (9, .b (decide ((size0 < (1 : Int)) ∨ (size0 > (400 : Int)))))] [(2, .pure (GDisk.cs GDisk.zero))] rfl rfl rfl ?_
      exact RunW_nil rfl
  · refine AW2_if (p := (size0 < (1 : Int)) ∨ (size0 > (400 : Int))) rfl (fun h2 => ?_) (fun h2 => ?_)
    · replace H := ite_then h2 H
      refine sg [0, 1, 2] rfl ?_
      refine rp rfl rfl (u_bld rfl in_25 one_25 zc_25 pl_25 rfl rfl) ?_
      refine r_op rfl rfl (u_st rfl rfl rfl rfl rfl in_25 (GDisk.len GDisk.zero) (ne_of_lt (n := 0) (Nat.lt_of_lt_of_eq (by decide) (Eq.symm (GDisk.len GDisk.zero)))) (Upd.refl ((GDisk.len GDisk.zero).trans (GDisk.len GDisk.zero).symm))) ?_
      refine rp rfl rfl (p_asg rfl rfl) ?_
      refine rz [(2, .q 2 (0)), (3, .i (1 : Int))] [(2, .pure (GDisk.cs GDisk.zero))] rfl rfl rfl ?_
      refine AW2_ret ?_
      have hz := some_elim H
      subst hz
      exact ⟨⟨res_cella Try.underlying25 rfl in_25.sz rfl (Sub.le (Sub.refl _) (GDisk.len GDisk.zero)) (by decide) (Sub.take (Sub.refl _) (GDisk.len GDisk.zero)), res_tmp (.same _), trivial⟩, trivial⟩
    · replace H := ite_else h2 H
      refine as2 [(0, .i size0), (2, .q 2 (0))] [(2, .pure (GDisk.cs GDisk.zero))] rfl rfl rfl ?_
      refine AW2_skip ?_
      refine sg [0, 1, 2, 3, 4] rfl ?_
      refine rp rfl rfl (p_move rfl rfl) ?_
      refine chkK H fun h3 H => ?_
      refine chkK H fun h4 H => ?_
      refine r_op rfl rfl (MakeD.opD (u_make 12 rfl rfl rfl (Int.toNat_of_nonneg h3).symm Try.underlying22 in_32 rfl one_32 h4 (by omega) zc_32 (az_fm (fun v : Vector UInt8 32 => bcells v.toList) _ (Vector.replicate 32 (0 : UInt8))) (List.length_replicate (n := size0.toNat) (a := (Vector.replicate 32 (0 : UInt8)))).symm) rfl rfl rfl rfl) ?_
      refine RunW_gho (Gho_pubs [12] ⟨rfl, trivial⟩ rfl (fm_length (fun x => ((bcells_length _).trans (vlen x))) (List.replicate size0.toNat (Vector.replicate 32 (0 : UInt8)))) (by decide)) ?_
      refine rp rfl rfl (u_bld rfl in_25 one_25 zc_25 pl_25 rfl (af_cons rfl rfl (GDisk.upd0 GDisk.zero (List.replicate size0.toNat (Vector.replicate 32 (0 : UInt8)))) rfl)) ?_
      refine r_op rfl rfl (u_st rfl rfl rfl rfl rfl in_25 (GDisk.len ({ GDisk.zero with Lasts := (List.replicate size0.toNat (Vector.replicate 32 (0 : UInt8))) })) (ne_of_lt (n := 0) (Nat.lt_of_lt_of_eq (by decide) (Eq.symm (GDisk.len GDisk.zero)))) (Upd.refl ((GDisk.len ({ GDisk.zero with Lasts := (List.replicate size0.toNat (Vector.replicate 32 (0 : UInt8))) })).trans (GDisk.len GDisk.zero).symm))) ?_
      refine rp rfl rfl (p_asg rfl rfl) ?_
      refine rz [(2, .q 2 (0)), (3, .i (0 : Int))] [(2, .pure (GDisk.cs ({ GDisk.zero with Lasts := (List.replicate size0.toNat (Vector.replicate 32 (0 : UInt8))) })))] rfl rfl rfl ?_
      refine gen1 (fun t2'1 => (⟨[(2, .q 2 (0)), (3, .i (0 : Int))], [(2, .pure (GDisk.cs t2'1))], 14⟩ : TS)) H ?_
      intro t2'1 H
      refine AW2_ret ?_
      have hz := some_elim H
      subst hz
      exact ⟨⟨res_cella Try.underlying25 rfl in_25.sz rfl (Sub.le (Sub.refl _) (GDisk.len t2'1)) (by decide) (Sub.take (Sub.refl _) (GDisk.len t2'1)), res_tmp (.same _), trivial⟩, trivial⟩

/-! server.Start -/
noncomputable def g_server_Start (mode0 : Int) (secret1 : List UInt8) : Option (GServer × Int) :=
  (if (mode0 ≠ (1 : Int)) ∧ (mode0 ≠ (2 : Int)) then some (GServer.zero, (2 : Int)) else (if (secret1.length : Int) > (16 : Int) then some (GServer.zero, (1 : Int)) else (g_disk_New (400 : Int)).bind fun r'1 => if room (([] : List UInt8).length + secret1.length) 1 then letO ({ { { GServer.zero with Mode := mode0 } with Secret := ([] : List UInt8) ++ secret1 } with Disk := r'1.1 }) fun t4'2 => some (t4'2, r'1.2) else none))
set_option maxHeartbeats 4000000 in
set_option maxRecDepth 100000 in
theorem g_server_Start_ac {mode0 : Int} {secret1 : List UInt8} {r : GServer × Int} (H : g_server_Start mode0 secret1 = some r) : ACp Try.prog 26 [(AV.int mode0), (AV.bytes secret1)] (.tup [(.agg (GServer.cs r.1)), (AV.int r.2)]) := by
  refine ACp_of (AC2_of_body (vs := [.g (GServer.cs r.1), .i r.2]) Try.func26 rfl rfl (Nat.le_of_ble_eq_true rfl) rfl ?_) (fun _ => .same _)
  unfold g_server_Start at H
  refine as2 [(0, .i mode0), (1, .y secret1)] [] rfl rfl rfl ?_
  refine sg [0, 1] rfl ?_
  refine r_op rfl rfl (MakeD.opD (u_alloc 4 rfl in_64 one_64 zc_64) rfl rfl rfl rfl) ?_
  refine rp rfl rfl (p_asg rfl rfl) ?_
  refine rz [(0, .i mode0), (1, .y secret1), (4, .q 4 (0))] [(4, .pure (GServer.cs GServer.zero))] rfl rfl rfl ?_
  refine AW2_seq ?_
  refine AW2_seq ?_
  refine AW2_mid (⟨[(0, .i mode0), (1, .y secret1), (4, .q 4 (0)), (13, .b (decide ((mode0 ≠ (1 : Int)) ∧ (mode0 ≠ (2 : Int)))))], [(4, .pure (GServer.cs GServer.zero))], 30⟩ : TS) ?_ ?_
  · refine AW2_reg [0, 1, 2, 3, 4, 5] rfl ?_
    refine rp rfl rfl (p_move rfl rfl) ?_
    refine rp rfl rfl (p_ine rfl rfl rfl) ?_
    refine rp rfl rfl (p_move rfl rfl) ?_
    refine (Classical.em (mode0 ≠ (1 : Int))).elim (fun h1 => ?_) (fun h1 => ?_)
    · refine r_on rfl rfl rfl rfl (decide_eq_true (p := mode0 ≠ (1 : Int)) h1) rfl (PureD.opD (p_move rfl rfl)) ?_
      refine r_on rfl rfl rfl rfl (decide_eq_true (p := mode0 ≠ (1 : Int)) h1) rfl (PureD.opD (p_ine rfl rfl rfl)) ?_
      refine rp rfl rfl (p_pkt rfl rfl (decide_eq_true (p := mode0 ≠ (1 : Int)) h1) (tb ((and_l (p := mode0 ≠ (1 : Int)) (q := mode0 ≠ (2 : Int)) h1)))) ?_
      refine rs [(0, .i mode0), (1, .y secret1), (4, .q 4 (0)), (13, .b (decide ((mode0 ≠ (1 : Int)) ∧ (mode0 ≠ (2 : Int)))))] [(4, .pure (GServer.cs GServer.zero))] rfl rfl rfl ?_
      exact RunW_nil rfl
    · refine r_off rfl rfl rfl rfl (decide_eq_false (p := mode0 ≠ (1 : Int)) h1) rfl rfl ?_
      refine r_off rfl rfl rfl rfl (decide_eq_false (p := mode0 ≠ (1 : Int)) h1) rfl rfl ?_
      refine rp rfl rfl (p_pkf rfl rfl (decide_eq_false (p := mode0 ≠ (1 : Int)) h1) (tb (decide_eq_false (p := (mode0 ≠ (1 : Int)) ∧ (mode0 ≠ (2 : Int))) (fun x => h1 x.1)).symm)) ?_
      refine rs [(0, .i mode0), (1, .y secret1), (4, .q 4 (0)), (13, .b (decide ((mode0 ≠ (1 : Int)) ∧ (mode0 ≠ (2 : Int)))))] [(4, .pure (GServer.cs GServer.zero))] rfl rfl rfl ?_
      exact RunW_nil rfl
  · refine AW2_if (p := (mode0 ≠ (1 : Int)) ∧ (mode0 ≠ (2 : Int))) rfl (fun h2 => ?_) (fun h2 => ?_)
    · replace H := ite_then h2 H
      refine sg [0, 1, 2] rfl ?_
      refine rp rfl rfl (u_bld rfl in_64 one_64 zc_64 pl_64 rfl rfl) ?_
      refine r_op rfl rfl (u_st rfl rfl rfl rfl rfl in_64 (GServer.len GServer.zero) (ne_of_lt (n := 0) (Nat.lt_of_lt_of_eq (by decide) (Eq.symm (GServer.len GServer.zero)))) (Upd.refl ((GServer.len GServer.zero).trans (GServer.len GServer.zero).symm))) ?_
      refine rp rfl rfl (p_asg rfl rfl) ?_
      refine rz [(4, .q 4 (0)), (5, .i (2 : Int))] [(4, .pure (GServer.cs GServer.zero))] rfl rfl rfl ?_
      refine AW2_ret ?_
      have hz := some_elim H
      subst hz
      exact ⟨⟨res_cella Try.underlying64 rfl in_64.sz rfl (Sub.le (Sub.refl _) (GServer.len GServer.zero)) (by decide) (Sub.take (Sub.refl _) (GServer.len GServer.zero)), res_tmp (.same _), trivial⟩, trivial⟩
    · replace H := ite_else h2 H
      refine as2 [(0, .i mode0), (1, .y secret1), (4, .q 4 (0))] [(4, .pure (GServer.cs GServer.zero))] rfl rfl rfl ?_
      refine AW2_skip ?_
      refine AW2_seq ?_
      refine sg [0, 1, 2] rfl ?_
      refine rp rfl rfl (p_move rfl rfl) ?_
      refine rp rfl rfl (p_lenl rfl Try.underlying45 rfl rfl) ?_
      refine rp rfl rfl (p_bin rfl rfl rfl rfl) ?_
      refine rz [(0, .i mode0), (1, .y secret1), (4, .q 4 (0)), (17, .b (decide ((secret1.length : Int) > (16 : Int))))] [(4, .pure (GServer.cs GServer.zero))] rfl rfl rfl ?_
      refine AW2_if (p := (secret1.length : Int) > (16 : Int)) rfl (fun h3 => ?_) (fun h3 => ?_)
      · replace H := ite_then h3 H
        refine sg [0, 1, 2] rfl ?_
        refine rp rfl rfl (u_bld rfl in_64 one_64 zc_64 pl_64 rfl rfl) ?_
        refine r_op rfl rfl (u_st rfl rfl rfl rfl rfl in_64 (GServer.len GServer.zero) (ne_of_lt (n := 0) (Nat.lt_of_lt_of_eq (by decide) (Eq.symm (GServer.len GServer.zero)))) (Upd.refl ((GServer.len GServer.zero).trans (GServer.len GServer.zero).symm))) ?_
        refine rp rfl rfl (p_asg rfl rfl) ?_
        refine rz [(4, .q 4 (0)), (5, .i (1 : Int))] [(4, .pure (GServer.cs GServer.zero))] rfl rfl rfl ?_
        refine AW2_ret ?_
        have hz := some_elim H
        subst hz
        exact ⟨⟨res_cella Try.underlying64 rfl in_64.sz rfl (Sub.le (Sub.refl _) (GServer.len GServer.zero)) (by decide) (Sub.take (Sub.refl _) (GServer.len GServer.zero)), res_tmp (.same _), trivial⟩, trivial⟩
      · replace H := ite_else h3 H
        refine as2 [(0, .i mode0), (1, .y secret1), (4, .q 4 (0))] [(4, .pure (GServer.cs GServer.zero))] rfl rfl rfl ?_
        refine AW2_skip ?_
        refine sg [0, 1, 2, 3, 4, 5, 6] rfl ?_
        refine bindK H fun r'1 h4 H => ?_
        refine rp rfl rfl (p_callp rfl rfl rfl Try.func11 rfl rfl (g_disk_New_ac h4) ⟨rfl, trivial⟩) ?_
        refine rp rfl rfl (p_move rfl rfl) ?_
        refine rp rfl rfl (p_ext rfl rfl rfl rfl) ?_
        refine rp rfl rfl (p_ext rfl rfl rfl rfl) ?_
        refine r_op rfl rfl (MakeD.opD (u_alloc 6 rfl in_25 one_25 zc_25) rfl rfl rfl rfl) ?_
        refine r_op rfl rfl (u_st rfl rfl rfl rfl rfl in_25 (GDisk.len r'1.1) (ne_of_lt (n := 0) (Nat.lt_of_lt_of_eq (by decide) (Eq.symm (GDisk.len GDisk.zero)))) (Upd.refl ((GDisk.len r'1.1).trans (GDisk.len GDisk.zero).symm))) ?_
        refine rp rfl rfl (p_asg rfl rfl) ?_
        refine rz [(0, .i mode0), (1, .y secret1), (4, .q 4 (0)), (6, .q 6 (0)), (7, .i r'1.2)] [(4, .pure (GServer.cs GServer.zero)), (6, .pure (GDisk.cs r'1.1))] rfl rfl rfl ?_
        refine AW2_seq ?_
        refine chkK H fun h5 H => ?_
        refine AW2_ghoQ ?_
        refine AW2_drawU 8 [8] (fun k => ([.i mode0, .c (.own 24 0 1), .y secret1, .y (([] : List UInt8) ++ secret1), .g (GDisk.cs r'1.1), .g (GServer.cs ({ { { GServer.zero with Mode := mode0 } with Secret := ([] : List UInt8) ++ secret1 } with Disk := r'1.1 })), .i r'1.2, .p (.tup [])] : List TV).getD k TV.any) (fun k => ([[(0, none)], [], [(1, none)], [(24, some 1), (25, some 2)], [(6, none)], [(23, some 0), (26, some 3), (27, some 4)], [(7, none)], [(4, none), (28, some 5)]] : List (List (Nat × Option Nat))).getD k []) [(4, none), (29, some 6)] [(1, 24, (bcells ([] : List UInt8)))] [(3, 24, .pure (bcells ([] : List UInt8))), (7, 4, .pure (GServer.cs ({ { { GServer.zero with Mode := mode0 } with Secret := ([] : List UInt8) ++ secret1 } with Disk := r'1.1 })))] [3] (fun k => ([[], [], [], [(24, false)], [(6, false)], [], [], [(4, false)]] : List (List (Nat × Bool))).getD k []) (fun k => ([[], [], [], [1, 2], [], [0, 1, 2, 3, 4], [], [0, 1, 2, 3, 4, 5], [0, 1, 2, 3, 4, 5, 6, 7]] : List (List Nat)).getD k []) mixed (by kernel_rfl) rfl rfl rfl (a_op (gu_x rfl (y_p rfl rfl (p_move rfl rfl) rfl)) (a_op (gu_x rfl (y_m rfl rfl (n_bs0 24 rfl Try.underlying45 in_5) rfl rfl)) (a_op (gu_x rfl (y_p rfl rfl (p_move rfl rfl) rfl)) (a_op (gu_x rfl (y_a rfl rfl rfl rfl (AppD.pub (AppD_app rfl rfl rfl Try.underlying45 Try.underlying45 in_5 rfl rfl rfl (bl ([] : List UInt8)) (by decide) rfl (bl secret1) h5 (by decide) (bapp ([] : List UInt8) secret1) (lapp ([] : List UInt8) secret1)) (bl (([] : List UInt8) ++ secret1)) (by decide)) rfl rfl)) (a_op (gu_x rfl (y_p rfl rfl (u_lda rfl rfl Try.underlying25 rfl in_25 rfl (Nat.succ_pos _) (Sub.refl _) (GDisk.len r'1.1)) rfl)) (a_op (gu_x rfl (y_p rfl rfl (u_bld rfl in_64 one_64 zc_64 pl_64 rfl (af_cons rfl rfl (GServer.upd0 GServer.zero mode0) (af_cons rfl rfl (GServer.upd1 ({ GServer.zero with Mode := mode0 }) (([] : List UInt8) ++ secret1)) (af_cons rfl (GDisk.len r'1.1) (GServer.upd4 ({ { GServer.zero with Mode := mode0 } with Secret := ([] : List UInt8) ++ secret1 }) r'1.1) rfl)))) rfl)) (a_op (gu_x rfl (y_p rfl rfl (p_move rfl rfl) rfl)) (a_op (gu_x rfl (y_u rfl rfl rfl rfl (UpdD_st rfl rfl rfl rfl rfl in_64 (GServer.len ({ { { GServer.zero with Mode := mode0 } with Secret := ([] : List UInt8) ++ secret1 } with Disk := r'1.1 })) (ne_of_lt (n := 0) (Nat.lt_of_lt_of_eq (by decide) (Eq.symm (GServer.len GServer.zero)))) (Upd.refl ((GServer.len ({ { { GServer.zero with Mode := mode0 } with Secret := ([] : List UInt8) ++ secret1 } with Disk := r'1.1 })).trans (GServer.len GServer.zero).symm))) rfl rfl)) (a_nil))))))))) ?_
        refine t_op rfl rfl (PureD.opD (p_asg rfl rfl)) ?_
        refine t_gho (Gho_st (L := [(4, .q 4 (0)), (5, .i r'1.2)]) (H := [(4, .pure (GServer.cs ({ { { GServer.zero with Mode := mode0 } with Secret := ([] : List UInt8) ++ secret1 } with Disk := r'1.1 })))]) (N := 30) rfl ⟨TLes.same _, TLes.same _, trivial⟩ ⟨rfl, trivial⟩) ?_
        refine gen1 (fun t4'2 => (⟨[(4, .q 4 (0)), (5, .i r'1.2)], [(4, .pure (GServer.cs t4'2))], 30⟩ : TS)) H ?_
        intro t4'2 H
        refine AW2_ret ?_
        have hz := some_elim H
        subst hz
        exact ⟨⟨res_cella Try.underlying64 rfl in_64.sz rfl (Sub.le (Sub.refl _) (GServer.len t4'2)) (by decide) (Sub.take (Sub.refl _) (GServer.len t4'2)), res_tmp (.same _), trivial⟩, trivial⟩

/-! chirographref.badMode -/
noncomputable def g_ref_badMode (mode0 : Int) : Option (Bool) :=
  some (decide ((mode0 ≠ (1 : Int)) ∧ (mode0 ≠ (2 : Int))))
set_option maxHeartbeats 4000000 in
set_option maxRecDepth 100000 in
theorem g_ref_badMode_ac {mode0 : Int} {r : Bool} (H : g_ref_badMode mode0 = some r) : ACp Try.prog 44 [(AV.int mode0)] (AV.bool r) := by
  refine ACp_of (AC2_of_body (vs := [.b r]) Try.func44 rfl rfl (Nat.le_of_ble_eq_true rfl) rfl ?_) (fun _ => .same _)
  unfold g_ref_badMode at H
  refine as2 [(0, .i mode0)] [] rfl rfl rfl ?_
  refine sg [0] rfl ?_
  refine rp rfl rfl (p_asg rfl rfl) ?_
  refine rz [(0, .i mode0)] [] rfl rfl rfl ?_
  refine AW2_seq ?_
  refine AW2_mid (⟨[(2, .b (decide ((mode0 ≠ (1 : Int)) ∧ (mode0 ≠ (2 : Int)))))], [], 9⟩ : TS) ?_ ?_
  · refine AW2_reg [0, 1, 2, 3, 4, 5, 6] rfl ?_
    refine rp rfl rfl (p_move rfl rfl) ?_
    refine rp rfl rfl (p_ine rfl rfl rfl) ?_
    refine rp rfl rfl (p_move rfl rfl) ?_
    refine (Classical.em (mode0 ≠ (1 : Int))).elim (fun h1 => ?_) (fun h1 => ?_)
    · refine r_on rfl rfl rfl rfl (decide_eq_true (p := mode0 ≠ (1 : Int)) h1) rfl (PureD.opD (p_move rfl rfl)) ?_
      refine r_on rfl rfl rfl rfl (decide_eq_true (p := mode0 ≠ (1 : Int)) h1) rfl (PureD.opD (p_ine rfl rfl rfl)) ?_
      refine rp rfl rfl (p_pkt rfl rfl (decide_eq_true (p := mode0 ≠ (1 : Int)) h1) (tb ((and_l (p := mode0 ≠ (1 : Int)) (q := mode0 ≠ (2 : Int)) h1)))) ?_
      refine rp rfl rfl (p_asg rfl rfl) ?_
      refine rs [(2, .b (decide ((mode0 ≠ (1 : Int)) ∧ (mode0 ≠ (2 : Int)))))] [] rfl rfl rfl ?_
      exact RunW_nil rfl
    · refine r_off rfl rfl rfl rfl (decide_eq_false (p := mode0 ≠ (1 : Int)) h1) rfl rfl ?_
      refine r_off rfl rfl rfl rfl (decide_eq_false (p := mode0 ≠ (1 : Int)) h1) rfl rfl ?_
      refine rp rfl rfl (p_pkf rfl rfl (decide_eq_false (p := mode0 ≠ (1 : Int)) h1) (tb (decide_eq_false (p := (mode0 ≠ (1 : Int)) ∧ (mode0 ≠ (2 : Int))) (fun x => h1 x.1)).symm)) ?_
      refine rp rfl rfl (p_asg rfl rfl) ?_
      refine rs [(2, .b (decide ((mode0 ≠ (1 : Int)) ∧ (mode0 ≠ (2 : Int)))))] [] rfl rfl rfl ?_
      exact RunW_nil rfl
  · refine AW2_ret ?_
    have hz := some_elim H
    subst hz
    exact ⟨⟨res_tmp (.same _), trivial⟩, trivial⟩

/-! chirographref.Started -/
noncomputable def g_ref_Started (mode0 : Int) (secret1 : List UInt8) : Option (GServer × Int) :=
  (g_ref_badMode mode0).bind fun r'1 => (if r'1 = true then some (GServer.zero, (2 : Int)) else (if (secret1.length : Int) > (16 : Int) then some (GServer.zero, (1 : Int)) else letO ({ { { GServer.zero with Mode := mode0 } with Secret := secret1 } with Disk := { GDisk.zero with Lasts := (List.replicate 400 (Vector.replicate 32 (0 : UInt8))) } }) fun t4'2 => some (t4'2, (0 : Int))))
set_option maxHeartbeats 4000000 in
set_option maxRecDepth 100000 in
theorem g_ref_Started_ac {mode0 : Int} {secret1 : List UInt8} {r : GServer × Int} (H : g_ref_Started mode0 secret1 = some r) : ACp Try.prog 27 [(AV.int mode0), (AV.bytes secret1)] (.tup [(.agg (GServer.cs r.1)), (AV.int r.2)]) := by
  refine ACp_of (AC2_of_body (vs := [.g (GServer.cs r.1), .i r.2]) Try.func27 rfl rfl (Nat.le_of_ble_eq_true rfl) rfl ?_) (fun _ => .same _)
  unfold g_ref_Started at H
  refine as2 [(0, .i mode0), (1, .y secret1)] [] rfl rfl rfl ?_
  refine sg [0, 1] rfl ?_
  refine r_op rfl rfl (MakeD.opD (u_alloc 4 rfl in_64 one_64 zc_64) rfl rfl rfl rfl) ?_
  refine rp rfl rfl (p_asg rfl rfl) ?_
  refine rz [(0, .i mode0), (1, .y secret1), (4, .q 4 (0))] [(4, .pure (GServer.cs GServer.zero))] rfl rfl rfl ?_
  refine AW2_seq ?_
  refine sg [0, 1] rfl ?_
  refine rp rfl rfl (p_move rfl rfl) ?_
  refine bindK H fun r'1 h1 H => ?_
  refine rp rfl rfl (p_callp rfl rfl rfl Try.func44 rfl rfl (g_ref_badMode_ac h1) ⟨rfl, trivial⟩) ?_
  refine rz [(0, .i mode0), (1, .y secret1), (4, .q 4 (0)), (7, .b r'1)] [(4, .pure (GServer.cs GServer.zero))] rfl rfl rfl ?_
  refine AW2_cond rfl (fun h2 => ?_) (fun h2 => ?_)
  · replace H := ite_then h2 H
    refine sg [0, 1, 2] rfl ?_
    refine rp rfl rfl (u_bld rfl in_64 one_64 zc_64 pl_64 rfl rfl) ?_
    refine r_op rfl rfl (u_st rfl rfl rfl rfl rfl in_64 (GServer.len GServer.zero) (ne_of_lt (n := 0) (Nat.lt_of_lt_of_eq (by decide) (Eq.symm (GServer.len GServer.zero)))) (Upd.refl ((GServer.len GServer.zero).trans (GServer.len GServer.zero).symm))) ?_
    refine rp rfl rfl (p_asg rfl rfl) ?_
    refine rz [(4, .q 4 (0)), (5, .i (2 : Int))] [(4, .pure (GServer.cs GServer.zero))] rfl rfl rfl ?_
    refine AW2_ret ?_
    have hz := some_elim H
    subst hz
    exact ⟨⟨res_cella Try.underlying64 rfl in_64.sz rfl (Sub.le (Sub.refl _) (GServer.len GServer.zero)) (by decide) (Sub.take (Sub.refl _) (GServer.len GServer.zero)), res_tmp (.same _), trivial⟩, trivial⟩
  · replace H := ite_else (ne_true h2) H
    refine as2 [(0, .i mode0), (1, .y secret1), (4, .q 4 (0))] [(4, .pure (GServer.cs GServer.zero))] rfl rfl rfl ?_
    refine AW2_skip ?_
    refine AW2_seq ?_
    refine sg [0, 1, 2] rfl ?_
    refine rp rfl rfl (p_move rfl rfl) ?_
    refine rp rfl rfl (p_lenl rfl Try.underlying45 rfl rfl) ?_
    refine rp rfl rfl (p_bin rfl rfl rfl rfl) ?_
    refine rz [(0, .i mode0), (1, .y secret1), (4, .q 4 (0)), (11, .b (decide ((secret1.length : Int) > (16 : Int))))] [(4, .pure (GServer.cs GServer.zero))] rfl rfl rfl ?_
    refine AW2_if (p := (secret1.length : Int) > (16 : Int)) rfl (fun h3 => ?_) (fun h3 => ?_)
    · replace H := ite_then h3 H
      refine sg [0, 1, 2] rfl ?_
      refine rp rfl rfl (u_bld rfl in_64 one_64 zc_64 pl_64 rfl rfl) ?_
      refine r_op rfl rfl (u_st rfl rfl rfl rfl rfl in_64 (GServer.len GServer.zero) (ne_of_lt (n := 0) (Nat.lt_of_lt_of_eq (by decide) (Eq.symm (GServer.len GServer.zero)))) (Upd.refl ((GServer.len GServer.zero).trans (GServer.len GServer.zero).symm))) ?_
      refine rp rfl rfl (p_asg rfl rfl) ?_
      refine rz [(4, .q 4 (0)), (5, .i (1 : Int))] [(4, .pure (GServer.cs GServer.zero))] rfl rfl rfl ?_
      refine AW2_ret ?_
      have hz := some_elim H
      subst hz
      exact ⟨⟨res_cella Try.underlying64 rfl in_64.sz rfl (Sub.le (Sub.refl _) (GServer.len GServer.zero)) (by decide) (Sub.take (Sub.refl _) (GServer.len GServer.zero)), res_tmp (.same _), trivial⟩, trivial⟩
    · replace H := ite_else h3 H
      refine as2 [(0, .i mode0), (1, .y secret1), (4, .q 4 (0))] [(4, .pure (GServer.cs GServer.zero))] rfl rfl rfl ?_
      refine AW2_skip ?_
      refine sg [0, 1, 2, 3, 4, 5, 6] rfl ?_
      refine rp rfl rfl (p_move rfl rfl) ?_
      refine rp rfl rfl (p_move rfl rfl) ?_
      refine r_op rfl rfl (MakeD.opD (u_make 15 rfl rfl rfl rfl Try.underlying22 in_32 rfl one_32 (by decide) (by decide) zc_32 (az_fm (fun v : Vector UInt8 32 => bcells v.toList) _ (Vector.replicate 32 (0 : UInt8))) (List.length_replicate (n := 400) (a := (Vector.replicate 32 (0 : UInt8)))).symm) rfl rfl rfl rfl) ?_
      refine RunW_gho (Gho_pubs [15] ⟨rfl, trivial⟩ rfl (fm_length (fun x => ((bcells_length _).trans (vlen x))) (List.replicate 400 (Vector.replicate 32 (0 : UInt8)))) (by decide)) ?_
      refine rp rfl rfl (u_bld rfl in_25 one_25 zc_25 pl_25 rfl (af_cons rfl rfl (GDisk.upd0 GDisk.zero (List.replicate 400 (Vector.replicate 32 (0 : UInt8)))) rfl)) ?_
      refine rp rfl rfl (u_bld rfl in_64 one_64 zc_64 pl_64 rfl (af_cons rfl rfl (GServer.upd0 GServer.zero mode0) (af_cons rfl rfl (GServer.upd1 ({ GServer.zero with Mode := mode0 }) secret1) (af_cons rfl (GDisk.len ({ GDisk.zero with Lasts := (List.replicate 400 (Vector.replicate 32 (0 : UInt8))) })) (GServer.upd4 ({ { GServer.zero with Mode := mode0 } with Secret := secret1 }) ({ GDisk.zero with Lasts := (List.replicate 400 (Vector.replicate 32 (0 : UInt8))) })) rfl)))) ?_
      refine r_op rfl rfl (u_st rfl rfl rfl rfl rfl in_64 (GServer.len ({ { { GServer.zero with Mode := mode0 } with Secret := secret1 } with Disk := { GDisk.zero with Lasts := (List.replicate 400 (Vector.replicate 32 (0 : UInt8))) } })) (ne_of_lt (n := 0) (Nat.lt_of_lt_of_eq (by decide) (Eq.symm (GServer.len GServer.zero)))) (Upd.refl ((GServer.len ({ { { GServer.zero with Mode := mode0 } with Secret := secret1 } with Disk := { GDisk.zero with Lasts := (List.replicate 400 (Vector.replicate 32 (0 : UInt8))) } })).trans (GServer.len GServer.zero).symm))) ?_
      refine rp rfl rfl (p_asg rfl rfl) ?_
      refine rz [(4, .q 4 (0)), (5, .i (0 : Int))] [(4, .pure (GServer.cs ({ { { GServer.zero with Mode := mode0 } with Secret := secret1 } with Disk := { GDisk.zero with Lasts := (List.replicate 400 (Vector.replicate 32 (0 : UInt8))) } })))] rfl rfl rfl ?_
      refine gen1 (fun t4'2 => (⟨[(4, .q 4 (0)), (5, .i (0 : Int))], [(4, .pure (GServer.cs t4'2))], 18⟩ : TS)) H ?_
      intro t4'2 H
      refine AW2_ret ?_
      have hz := some_elim H
      subst hz
      exact ⟨⟨res_cella Try.underlying64 rfl in_64.sz rfl (Sub.le (Sub.refl _) (GServer.len t4'2)) (by decide) (Sub.take (Sub.refl _) (GServer.len t4'2)), res_tmp (.same _), trivial⟩, trivial⟩

/-! chirographlaw.sameBytes -/
noncomputable def g_law_sameBytes (a0 : List UInt8) (b1 : List UInt8) : Option (Bool) :=
  some (decide (a0 = b1))
set_option maxHeartbeats 4000000 in
set_option maxRecDepth 100000 in
theorem g_law_sameBytes_ac {a0 : List UInt8} {b1 : List UInt8} {r : Bool} (H : g_law_sameBytes a0 b1 = some r) : ACp Try.prog 45 [(AV.bytes a0), (AV.bytes b1)] (AV.bool r) := by
  refine ACp_of (AC2_of_body (vs := [.b r]) Try.func45 rfl rfl (Nat.le_of_ble_eq_true rfl) rfl ?_) (fun _ => .same _)
  unfold g_law_sameBytes at H
  refine as2 [(0, .y a0), (1, .y b1)] [] rfl rfl rfl ?_
  refine sg [0] rfl ?_
  refine rp rfl rfl (p_asg rfl rfl) ?_
  refine rz [(0, .y a0), (1, .y b1)] [] rfl rfl rfl ?_
  refine sg [0, 1, 2, 3, 4, 5] rfl ?_
  refine rp rfl rfl (p_move rfl rfl) ?_
  refine rp rfl rfl (p_cb rfl rfl Try.underlying45 Try.underlying5 Try.underlying9 rfl) ?_
  refine rp rfl rfl (p_move rfl rfl) ?_
  refine rp rfl rfl (p_cb rfl rfl Try.underlying45 Try.underlying5 Try.underlying9 rfl) ?_
  refine rp rfl rfl (p_seq rfl rfl rfl) ?_
  refine rp rfl rfl (p_asg rfl rfl) ?_
  refine rz [(4, .b (decide (a0 = b1)))] [] rfl rfl rfl ?_
  refine AW2_ret ?_
  have hz := some_elim H
  subst hz
  exact ⟨⟨res_tmp (.same _), trivial⟩, trivial⟩

/-! chirographlaw.sameColumns -/
noncomputable def g_law_sameColumns_l0 (a0 : List GColumn) (b1 : List GColumn) : Int → Option (Int ⊕ (Bool ⊕ Unit))
  | t13_0 => (if t13_0 < (a0.length : Int) then if 0 ≤ t13_0 ∧ t13_0 < (a0.length : Int) then if 0 ≤ t13_0 ∧ t13_0 < (b1.length : Int) then (if (lrd a0 t13_0.toNat) ≠ (lrd b1 t13_0.toNat) then some (.inr (.inl false)) else some (.inl (w64 (t13_0 + (1 : Int))))) else none else none else some (.inr (.inr ())))
noncomputable def g_law_sameColumns (a0 : List GColumn) (b1 : List GColumn) : Option (Bool) :=
  (if (a0.length : Int) ≠ (b1.length : Int) then some false else (loopO (g_law_sameColumns_l0 a0 b1) (0 : Int)).bind fun o'4 => match o'4 with | .inl y'5 => some y'5 | .inr (y'6) => some true)
set_option maxHeartbeats 4000000 in
set_option maxRecDepth 100000 in
theorem g_law_sameColumns_ac {a0 : List GColumn} {b1 : List GColumn} {r : Bool} (H : g_law_sameColumns a0 b1 = some r) : ACp Try.prog 52 [((fun q : List GColumn => AV.lst (q.flatMap GColumn.cs) q.length) a0), ((fun q : List GColumn => AV.lst (q.flatMap GColumn.cs) q.length) b1)] (AV.bool r) := by
  refine ACp_of (AC2_of_body (vs := [.b r]) Try.func52 rfl rfl (Nat.le_of_ble_eq_true rfl) rfl ?_) (fun _ => .same _)
  unfold g_law_sameColumns at H
  refine as2 [(0, .p ((fun q : List GColumn => AV.lst (q.flatMap GColumn.cs) q.length) a0)), (1, .p ((fun q : List GColumn => AV.lst (q.flatMap GColumn.cs) q.length) b1))] [] rfl rfl rfl ?_
  refine sg [0] rfl ?_
  refine rp rfl rfl (p_asg rfl rfl) ?_
  refine rz [(0, .p ((fun q : List GColumn => AV.lst (q.flatMap GColumn.cs) q.length) a0)), (1, .p ((fun q : List GColumn => AV.lst (q.flatMap GColumn.cs) q.length) b1))] [] rfl rfl rfl ?_
  refine AW2_seq ?_
  refine sg [0, 1, 2, 3, 4] rfl ?_
  refine rp rfl rfl (p_move rfl rfl) ?_
  refine rp rfl rfl (p_lenl rfl Try.underlying49 rfl rfl) ?_
  refine rp rfl rfl (p_move rfl rfl) ?_
  refine rp rfl rfl (p_lenl rfl Try.underlying49 rfl rfl) ?_
  refine rp rfl rfl (p_ine rfl rfl rfl) ?_
  refine rz [(0, .p ((fun q : List GColumn => AV.lst (q.flatMap GColumn.cs) q.length) a0)), (1, .p ((fun q : List GColumn => AV.lst (q.flatMap GColumn.cs) q.length) b1)), (10, .b (decide ((a0.length : Int) ≠ (b1.length : Int))))] [] rfl rfl rfl ?_
  refine AW2_if (p := (a0.length : Int) ≠ (b1.length : Int)) rfl (fun h1 => ?_) (fun h1 => ?_)
  · replace H := ite_then h1 H
    refine sg [0] rfl ?_
    refine rp rfl rfl (p_asg rfl rfl) ?_
    refine rz [(4, .b false)] [] rfl rfl rfl ?_
    refine AW2_ret ?_
    have hz := some_elim H
    subst hz
    exact ⟨⟨res_tmp (.same _), trivial⟩, trivial⟩
  · replace H := ite_else h1 H
    refine as2 [(0, .p ((fun q : List GColumn => AV.lst (q.flatMap GColumn.cs) q.length) a0)), (1, .p ((fun q : List GColumn => AV.lst (q.flatMap GColumn.cs) q.length) b1))] [] rfl rfl rfl ?_
    refine AW2_skip ?_
    refine AW2_seq ?_
    refine sg [0, 1, 2] rfl ?_
    refine rp rfl rfl (p_move rfl rfl) ?_
    refine rp rfl rfl (p_lenl rfl Try.underlying49 rfl rfl) ?_
    refine rp rfl rfl (p_move rfl rfl) ?_
    refine rz [(0, .p ((fun q : List GColumn => AV.lst (q.flatMap GColumn.cs) q.length) a0)), (1, .p ((fun q : List GColumn => AV.lst (q.flatMap GColumn.cs) q.length) b1)), (12, .i (a0.length : Int)), (13, .i (0 : Int))] [] rfl rfl rfl ?_
    refine AW2_block ?_
    refine as2 [(0, .p ((fun q : List GColumn => AV.lst (q.flatMap GColumn.cs) q.length) a0)), (1, .p ((fun q : List GColumn => AV.lst (q.flatMap GColumn.cs) q.length) b1)), (12, .i (a0.length : Int)), (13, .i (0 : Int))] [] rfl rfl rfl ?_
    refine bindK H fun o'4 h6 H => ?_
    refine AW2_loopO (fun a'1 : Int => (⟨[(0, .p ((fun q : List GColumn => AV.lst (q.flatMap GColumn.cs) q.length) a0)), (1, .p ((fun q : List GColumn => AV.lst (q.flatMap GColumn.cs) q.length) b1)), (12, .i (a0.length : Int)), (13, .i a'1)], [], 26⟩ : TS)) (fun (o : Bool ⊕ Unit) e s' => match o with | .inl y'2 => e = Go.Exit.ret ∧ ResAll Try.prog s' [ResultVar.tmp 4] [.b y'2] ∧ HFits s' [] | .inr (y'3) => e = Go.Exit.exit 0 ∧ s' = (⟨[], [], 26⟩ : TS)) h6 rfl (fun t13_0 x hx => ?_) (fun e s' hs => ?_)
    · clear H
      have H := hx
      clear hx
      unfold g_law_sameColumns_l0 at H
      refine sg [0] rfl ?_
      refine rp rfl rfl (p_bin rfl rfl rfl rfl) ?_
      refine rz [(0, .p ((fun q : List GColumn => AV.lst (q.flatMap GColumn.cs) q.length) a0)), (1, .p ((fun q : List GColumn => AV.lst (q.flatMap GColumn.cs) q.length) b1)), (12, .i (a0.length : Int)), (13, .i t13_0), (14, .b (decide (t13_0 < (a0.length : Int))))] [] rfl rfl rfl ?_
      refine AW2_seq ?_
      refine AW2_if (p := t13_0 < (a0.length : Int)) rfl (fun h2 => ?_) (fun h2 => ?_)
      · replace H := ite_then h2 H
        refine as2 [(0, .p ((fun q : List GColumn => AV.lst (q.flatMap GColumn.cs) q.length) a0)), (1, .p ((fun q : List GColumn => AV.lst (q.flatMap GColumn.cs) q.length) b1)), (12, .i (a0.length : Int)), (13, .i t13_0)] [] rfl rfl rfl ?_
        refine AW2_skip ?_
        refine AW2_seq ?_
        refine AW2_block ?_
        refine sg [0, 1] rfl ?_
        refine rp rfl rfl (p_move rfl rfl) ?_
        refine rp rfl rfl (p_asg rfl rfl) ?_
        refine rz [(0, .p ((fun q : List GColumn => AV.lst (q.flatMap GColumn.cs) q.length) a0)), (1, .p ((fun q : List GColumn => AV.lst (q.flatMap GColumn.cs) q.length) b1)), (5, .i t13_0), (12, .i (a0.length : Int)), (13, .i t13_0)] [] rfl rfl rfl ?_
        refine AW2_seq ?_
        refine chkK H fun h3 H => ?_
        refine chkK H fun h4 H => ?_
        refine AW2_ghoQ ?_
        refine AW2_draw 8 [8] (fun k => ([.p ((fun q : List GColumn => AV.lst (q.flatMap GColumn.cs) q.length) a0), .i t13_0, .p (.rptr (a0.flatMap GColumn.cs) (t13_0.toNat * 3)), .g (GColumn.cs (lrd a0 t13_0.toNat)), .p ((fun q : List GColumn => AV.lst (q.flatMap GColumn.cs) q.length) b1), .i t13_0, .p (.rptr (b1.flatMap GColumn.cs) (t13_0.toNat * 3)), .g (GColumn.cs (lrd b1 t13_0.toNat))] : List TV).getD k TV.any) (fun k => ([[(0, none)], [(5, none)], [(16, some 0), (17, some 1)], [(18, some 2)], [(1, none)], [(5, none)], [(20, some 4), (21, some 5)], [(22, some 6)]] : List (List (Nat × Option Nat))).getD k []) [(0, none), (1, none), (12, none), (13, none), (19, some 3), (23, some 7)] [] (fun k => ([[], [], [0, 1], [0, 1, 2], [], [], [4, 5], [4, 5, 6], [0, 1, 2, 3, 4, 5, 6, 7]] : List (List Nat)).getD k []) mixed (by kernel_rfl) rfl rfl (a_op (g_x rfl (x_p rfl (p_move rfl rfl) rfl)) (a_op (g_x rfl (x_p rfl (p_move rfl rfl) rfl)) (a_op (g_x rfl (x_p rfl (u_ixl rfl rfl Try.underlying49 in_103 rfl rfl (ixe h3) (ixn h3) (fne (fun x => (GColumn.len x)) (by decide) (ixn h3))) rfl)) (a_op (g_x rfl (x_p rfl (u_lda rfl rfl Try.underlying103 rfl in_103 rfl (Nat.succ_pos _) (Sub.fm default (fun x => (GColumn.len x)) (ixn h3)) (GColumn.len (lrd a0 t13_0.toNat))) rfl)) (a_op (g_x rfl (x_p rfl (p_move rfl rfl) rfl)) (a_op (g_x rfl (x_p rfl (p_move rfl rfl) rfl)) (a_op (g_x rfl (x_p rfl (u_ixl rfl rfl Try.underlying49 in_103 rfl rfl (ixe h4) (ixn h4) (fne (fun x => (GColumn.len x)) (by decide) (ixn h4))) rfl)) (a_op (g_x rfl (x_p rfl (u_lda rfl rfl Try.underlying103 rfl in_103 rfl (Nat.succ_pos _) (Sub.fm default (fun x => (GColumn.len x)) (ixn h4)) (GColumn.len (lrd b1 t13_0.toNat))) rfl)) (a_nil))))))))) ?_
        refine t_op rfl rfl (PureD.opD (p_nea (a := (lrd a0 t13_0.toNat)) (b := (lrd b1 t13_0.toNat)) rfl eq_103 rfl (by kernel_rfl) rfl rfl)) ?_
        refine t_gho (Gho_st (L := [(0, .p ((fun q : List GColumn => AV.lst (q.flatMap GColumn.cs) q.length) a0)), (1, .p ((fun q : List GColumn => AV.lst (q.flatMap GColumn.cs) q.length) b1)), (12, .i (a0.length : Int)), (13, .i t13_0), (24, .b (decide ((lrd a0 t13_0.toNat) ≠ (lrd b1 t13_0.toNat))))]) (H := []) (N := 26) rfl ⟨TLes.same _, TLes.same _, TLes.same _, TLes.same _, TLes.same _, trivial⟩ trivial) ?_
        refine AW2_if (p := (lrd a0 t13_0.toNat) ≠ (lrd b1 t13_0.toNat)) rfl (fun h5 => ?_) (fun h5 => ?_)
        · replace H := ite_then h5 H
          refine sg [0] rfl ?_
          refine rp rfl rfl (p_asg rfl rfl) ?_
          refine rz [(4, .b false)] [] rfl rfl rfl ?_
          refine AW2_ret ?_
          have hz := some_elim H
          subst hz
          exact ⟨rfl, ⟨res_tmp (.same _), trivial⟩, trivial⟩
        · replace H := ite_else h5 H
          refine as2 [(0, .p ((fun q : List GColumn => AV.lst (q.flatMap GColumn.cs) q.length) a0)), (1, .p ((fun q : List GColumn => AV.lst (q.flatMap GColumn.cs) q.length) b1)), (12, .i (a0.length : Int)), (13, .i t13_0)] [] rfl rfl rfl ?_
          refine AW2_skip ?_
          refine AW2_reg [0, 1] rfl ?_
          refine rp rfl rfl (p_bin rfl rfl rfl rfl) ?_
          refine rp rfl rfl (p_move rfl rfl) ?_
          refine rz [(0, .p ((fun q : List GColumn => AV.lst (q.flatMap GColumn.cs) q.length) a0)), (1, .p ((fun q : List GColumn => AV.lst (q.flatMap GColumn.cs) q.length) b1)), (12, .i (a0.length : Int)), (13, .i (w64 (t13_0 + (1 : Int))))] [] rfl rfl rfl ?_
          have hz := some_elim H
          subst hz
          exact ⟨rfl, rfl⟩
      · replace H := ite_else h2 H
        refine as2 [] [] rfl rfl rfl ?_
        refine AW2_exit ?_
        refine thenQ2_exit ?_
        have hz := some_elim H
        subst hz
        exact ⟨rfl, rfl⟩
    · rcases o'4 with y'5 | y'6
      · obtain ⟨rfl, hs⟩ := hs
        refine ⟨by simp, ?_⟩
        have hz := some_elim H
        subst hz
        exact ⟨hs.1, hs.2⟩
      · obtain ⟨rfl, rfl⟩ := hs
        refine ⟨by simp, ?_⟩
        refine blockQ2_exit ?_
        refine sg [0] rfl ?_
        refine rp rfl rfl (p_asg rfl rfl) ?_
        refine rz [(4, .b true)] [] rfl rfl rfl ?_
        refine AW2_ret ?_
        have hz := some_elim H
        subst hz
        exact ⟨⟨res_tmp (.same _), trivial⟩, trivial⟩

/-! chirographlaw.sameRow -/
noncomputable def g_law_sameRow_l0 (a0 : List GValue) (b1 : List GValue) : Int → Option (Int ⊕ (Bool ⊕ Unit))
  | t13_0 => (if t13_0 < (a0.length : Int) then if 0 ≤ t13_0 ∧ t13_0 < (a0.length : Int) then if 0 ≤ t13_0 ∧ t13_0 < (b1.length : Int) then (if (lrd a0 t13_0.toNat) ≠ (lrd b1 t13_0.toNat) then some (.inr (.inl false)) else some (.inl (w64 (t13_0 + (1 : Int))))) else none else none else some (.inr (.inr ())))
noncomputable def g_law_sameRow (a0 : List GValue) (b1 : List GValue) : Option (Bool) :=
  (if (a0.length : Int) ≠ (b1.length : Int) then some false else (loopO (g_law_sameRow_l0 a0 b1) (0 : Int)).bind fun o'4 => match o'4 with | .inl y'5 => some y'5 | .inr (y'6) => some true)
set_option maxHeartbeats 4000000 in
set_option maxRecDepth 100000 in
theorem g_law_sameRow_ac {a0 : List GValue} {b1 : List GValue} {r : Bool} (H : g_law_sameRow a0 b1 = some r) : ACp Try.prog 53 [((fun q : List GValue => AV.lst (q.flatMap GValue.cs) q.length) a0), ((fun q : List GValue => AV.lst (q.flatMap GValue.cs) q.length) b1)] (AV.bool r) := by
  refine ACp_of (AC2_of_body (vs := [.b r]) Try.func53 rfl rfl (Nat.le_of_ble_eq_true rfl) rfl ?_) (fun _ => .same _)
  unfold g_law_sameRow at H
  refine as2 [(0, .p ((fun q : List GValue => AV.lst (q.flatMap GValue.cs) q.length) a0)), (1, .p ((fun q : List GValue => AV.lst (q.flatMap GValue.cs) q.length) b1))] [] rfl rfl rfl ?_
  refine sg [0] rfl ?_
  refine rp rfl rfl (p_asg rfl rfl) ?_
  refine rz [(0, .p ((fun q : List GValue => AV.lst (q.flatMap GValue.cs) q.length) a0)), (1, .p ((fun q : List GValue => AV.lst (q.flatMap GValue.cs) q.length) b1))] [] rfl rfl rfl ?_
  refine AW2_seq ?_
  refine sg [0, 1, 2, 3, 4] rfl ?_
  refine rp rfl rfl (p_move rfl rfl) ?_
  refine rp rfl rfl (p_lenl rfl Try.underlying50 rfl rfl) ?_
  refine rp rfl rfl (p_move rfl rfl) ?_
  refine rp rfl rfl (p_lenl rfl Try.underlying50 rfl rfl) ?_
  refine rp rfl rfl (p_ine rfl rfl rfl) ?_
  refine rz [(0, .p ((fun q : List GValue => AV.lst (q.flatMap GValue.cs) q.length) a0)), (1, .p ((fun q : List GValue => AV.lst (q.flatMap GValue.cs) q.length) b1)), (10, .b (decide ((a0.length : Int) ≠ (b1.length : Int))))] [] rfl rfl rfl ?_
  refine AW2_if (p := (a0.length : Int) ≠ (b1.length : Int)) rfl (fun h1 => ?_) (fun h1 => ?_)
  · replace H := ite_then h1 H
    refine sg [0] rfl ?_
    refine rp rfl rfl (p_asg rfl rfl) ?_
    refine rz [(4, .b false)] [] rfl rfl rfl ?_
    refine AW2_ret ?_
    have hz := some_elim H
    subst hz
    exact ⟨⟨res_tmp (.same _), trivial⟩, trivial⟩
  · replace H := ite_else h1 H
    refine as2 [(0, .p ((fun q : List GValue => AV.lst (q.flatMap GValue.cs) q.length) a0)), (1, .p ((fun q : List GValue => AV.lst (q.flatMap GValue.cs) q.length) b1))] [] rfl rfl rfl ?_
    refine AW2_skip ?_
    refine AW2_seq ?_
    refine sg [0, 1, 2] rfl ?_
    refine rp rfl rfl (p_move rfl rfl) ?_
    refine rp rfl rfl (p_lenl rfl Try.underlying50 rfl rfl) ?_
    refine rp rfl rfl (p_move rfl rfl) ?_
    refine rz [(0, .p ((fun q : List GValue => AV.lst (q.flatMap GValue.cs) q.length) a0)), (1, .p ((fun q : List GValue => AV.lst (q.flatMap GValue.cs) q.length) b1)), (12, .i (a0.length : Int)), (13, .i (0 : Int))] [] rfl rfl rfl ?_
    refine AW2_block ?_
    refine as2 [(0, .p ((fun q : List GValue => AV.lst (q.flatMap GValue.cs) q.length) a0)), (1, .p ((fun q : List GValue => AV.lst (q.flatMap GValue.cs) q.length) b1)), (12, .i (a0.length : Int)), (13, .i (0 : Int))] [] rfl rfl rfl ?_
    refine bindK H fun o'4 h6 H => ?_
    refine AW2_loopO (fun a'1 : Int => (⟨[(0, .p ((fun q : List GValue => AV.lst (q.flatMap GValue.cs) q.length) a0)), (1, .p ((fun q : List GValue => AV.lst (q.flatMap GValue.cs) q.length) b1)), (12, .i (a0.length : Int)), (13, .i a'1)], [], 26⟩ : TS)) (fun (o : Bool ⊕ Unit) e s' => match o with | .inl y'2 => e = Go.Exit.ret ∧ ResAll Try.prog s' [ResultVar.tmp 4] [.b y'2] ∧ HFits s' [] | .inr (y'3) => e = Go.Exit.exit 0 ∧ s' = (⟨[], [], 26⟩ : TS)) h6 rfl (fun t13_0 x hx => ?_) (fun e s' hs => ?_)
    · clear H
      have H := hx
      clear hx
      unfold g_law_sameRow_l0 at H
      refine sg [0] rfl ?_
      refine rp rfl rfl (p_bin rfl rfl rfl rfl) ?_
      refine rz [(0, .p ((fun q : List GValue => AV.lst (q.flatMap GValue.cs) q.length) a0)), (1, .p ((fun q : List GValue => AV.lst (q.flatMap GValue.cs) q.length) b1)), (12, .i (a0.length : Int)), (13, .i t13_0), (14, .b (decide (t13_0 < (a0.length : Int))))] [] rfl rfl rfl ?_
      refine AW2_seq ?_
      refine AW2_if (p := t13_0 < (a0.length : Int)) rfl (fun h2 => ?_) (fun h2 => ?_)
      · replace H := ite_then h2 H
        refine as2 [(0, .p ((fun q : List GValue => AV.lst (q.flatMap GValue.cs) q.length) a0)), (1, .p ((fun q : List GValue => AV.lst (q.flatMap GValue.cs) q.length) b1)), (12, .i (a0.length : Int)), (13, .i t13_0)] [] rfl rfl rfl ?_
        refine AW2_skip ?_
        refine AW2_seq ?_
        refine AW2_block ?_
        refine sg [0, 1] rfl ?_
        refine rp rfl rfl (p_move rfl rfl) ?_
        refine rp rfl rfl (p_asg rfl rfl) ?_
        refine rz [(0, .p ((fun q : List GValue => AV.lst (q.flatMap GValue.cs) q.length) a0)), (1, .p ((fun q : List GValue => AV.lst (q.flatMap GValue.cs) q.length) b1)), (5, .i t13_0), (12, .i (a0.length : Int)), (13, .i t13_0)] [] rfl rfl rfl ?_
        refine AW2_seq ?_
        refine chkK H fun h3 H => ?_
        refine chkK H fun h4 H => ?_
        refine AW2_ghoQ ?_
        refine AW2_draw 8 [8] (fun k => ([.p ((fun q : List GValue => AV.lst (q.flatMap GValue.cs) q.length) a0), .i t13_0, .p (.rptr (a0.flatMap GValue.cs) (t13_0.toNat * 4)), .g (GValue.cs (lrd a0 t13_0.toNat)), .p ((fun q : List GValue => AV.lst (q.flatMap GValue.cs) q.length) b1), .i t13_0, .p (.rptr (b1.flatMap GValue.cs) (t13_0.toNat * 4)), .g (GValue.cs (lrd b1 t13_0.toNat))] : List TV).getD k TV.any) (fun k => ([[(0, none)], [(5, none)], [(16, some 0), (17, some 1)], [(18, some 2)], [(1, none)], [(5, none)], [(20, some 4), (21, some 5)], [(22, some 6)]] : List (List (Nat × Option Nat))).getD k []) [(0, none), (1, none), (12, none), (13, none), (19, some 3), (23, some 7)] [] (fun k => ([[], [], [0, 1], [0, 1, 2], [], [], [4, 5], [4, 5, 6], [0, 1, 2, 3, 4, 5, 6, 7]] : List (List Nat)).getD k []) mixed (by kernel_rfl) rfl rfl (a_op (g_x rfl (x_p rfl (p_move rfl rfl) rfl)) (a_op (g_x rfl (x_p rfl (p_move rfl rfl) rfl)) (a_op (g_x rfl (x_p rfl (u_ixl rfl rfl Try.underlying50 in_105 rfl rfl (ixe h3) (ixn h3) (fne (fun x => (GValue.len x)) (by decide) (ixn h3))) rfl)) (a_op (g_x rfl (x_p rfl (u_lda rfl rfl Try.underlying105 rfl in_105 rfl (Nat.succ_pos _) (Sub.fm default (fun x => (GValue.len x)) (ixn h3)) (GValue.len (lrd a0 t13_0.toNat))) rfl)) (a_op (g_x rfl (x_p rfl (p_move rfl rfl) rfl)) (a_op (g_x rfl (x_p rfl (p_move rfl rfl) rfl)) (a_op (g_x rfl (x_p rfl (u_ixl rfl rfl Try.underlying50 in_105 rfl rfl (ixe h4) (ixn h4) (fne (fun x => (GValue.len x)) (by decide) (ixn h4))) rfl)) (a_op (g_x rfl (x_p rfl (u_lda rfl rfl Try.underlying105 rfl in_105 rfl (Nat.succ_pos _) (Sub.fm default (fun x => (GValue.len x)) (ixn h4)) (GValue.len (lrd b1 t13_0.toNat))) rfl)) (a_nil))))))))) ?_
        refine t_op rfl rfl (PureD.opD (p_nea (a := (lrd a0 t13_0.toNat)) (b := (lrd b1 t13_0.toNat)) rfl eq_105 rfl (by kernel_rfl) rfl rfl)) ?_
        refine t_gho (Gho_st (L := [(0, .p ((fun q : List GValue => AV.lst (q.flatMap GValue.cs) q.length) a0)), (1, .p ((fun q : List GValue => AV.lst (q.flatMap GValue.cs) q.length) b1)), (12, .i (a0.length : Int)), (13, .i t13_0), (24, .b (decide ((lrd a0 t13_0.toNat) ≠ (lrd b1 t13_0.toNat))))]) (H := []) (N := 26) rfl ⟨TLes.same _, TLes.same _, TLes.same _, TLes.same _, TLes.same _, trivial⟩ trivial) ?_
        refine AW2_if (p := (lrd a0 t13_0.toNat) ≠ (lrd b1 t13_0.toNat)) rfl (fun h5 => ?_) (fun h5 => ?_)
        · replace H := ite_then h5 H
          refine sg [0] rfl ?_
          refine rp rfl rfl (p_asg rfl rfl) ?_
          refine rz [(4, .b false)] [] rfl rfl rfl ?_
          refine AW2_ret ?_
          have hz := some_elim H
          subst hz
          exact ⟨rfl, ⟨res_tmp (.same _), trivial⟩, trivial⟩
        · replace H := ite_else h5 H
          refine as2 [(0, .p ((fun q : List GValue => AV.lst (q.flatMap GValue.cs) q.length) a0)), (1, .p ((fun q : List GValue => AV.lst (q.flatMap GValue.cs) q.length) b1)), (12, .i (a0.length : Int)), (13, .i t13_0)] [] rfl rfl rfl ?_
          refine AW2_skip ?_
          refine AW2_reg [0, 1] rfl ?_
          refine rp rfl rfl (p_bin rfl rfl rfl rfl) ?_
          refine rp rfl rfl (p_move rfl rfl) ?_
          refine rz [(0, .p ((fun q : List GValue => AV.lst (q.flatMap GValue.cs) q.length) a0)), (1, .p ((fun q : List GValue => AV.lst (q.flatMap GValue.cs) q.length) b1)), (12, .i (a0.length : Int)), (13, .i (w64 (t13_0 + (1 : Int))))] [] rfl rfl rfl ?_
          have hz := some_elim H
          subst hz
          exact ⟨rfl, rfl⟩
      · replace H := ite_else h2 H
        refine as2 [] [] rfl rfl rfl ?_
        refine AW2_exit ?_
        refine thenQ2_exit ?_
        have hz := some_elim H
        subst hz
        exact ⟨rfl, rfl⟩
    · rcases o'4 with y'5 | y'6
      · obtain ⟨rfl, hs⟩ := hs
        refine ⟨by simp, ?_⟩
        have hz := some_elim H
        subst hz
        exact ⟨hs.1, hs.2⟩
      · obtain ⟨rfl, rfl⟩ := hs
        refine ⟨by simp, ?_⟩
        refine blockQ2_exit ?_
        refine sg [0] rfl ?_
        refine rp rfl rfl (p_asg rfl rfl) ?_
        refine rz [(4, .b true)] [] rfl rfl rfl ?_
        refine AW2_ret ?_
        have hz := some_elim H
        subst hz
        exact ⟨⟨res_tmp (.same _), trivial⟩, trivial⟩

/-! chirographlaw.sameTable -/
noncomputable def g_law_sameTable_l1 (a0 : GTable) (b1 : GTable) (t29_0 : Int) : Int → Option (Int ⊕ (Bool ⊕ Unit))
  | t32_1 => (if t32_1 < (4 : Int) then if 0 ≤ t29_0 ∧ t29_0 < (2 : Int) then if 0 ≤ t32_1 ∧ t32_1 < (4 : Int) then if 0 ≤ t29_0 ∧ t29_0 < (2 : Int) then if 0 ≤ t32_1 ∧ t32_1 < (4 : Int) then ((if ((vrd (vrd a0.Drawers t29_0.toNat) t32_1.toNat).Full) ≠ ((vrd (vrd b1.Drawers t29_0.toNat) t32_1.toNat).Full) then some true else (g_law_sameRow ((vrd (vrd a0.Drawers t29_0.toNat) t32_1.toNat).Row) ((vrd (vrd b1.Drawers t29_0.toNat) t32_1.toNat).Row)).bind fun r'5 => some (!r'5))).bind fun g'6 => (if g'6 = true then some (.inr (.inl false)) else some (.inl (w64 (t32_1 + (1 : Int))))) else none else none else none else none else some (.inr (.inr ())))
noncomputable def g_law_sameTable_l0 (a0 : GTable) (b1 : GTable) : Int → Option (Int ⊕ (Bool ⊕ Unit))
  | t29_0 => (if t29_0 < (2 : Int) then (loopO (g_law_sameTable_l1 a0 b1 t29_0) (0 : Int)).bind fun o'10 => match o'10 with | .inl y'11 => some (.inr (.inl y'11)) | .inr (y'12) => some (.inl (w64 (t29_0 + (1 : Int)))) else some (.inr (.inr ())))
noncomputable def g_law_sameTable (a0 : GTable) (b1 : GTable) : Option (Bool) :=
  ((if a0.There ≠ b1.There then some true else (if a0.Name ≠ b1.Name then some true else (g_law_sameColumns a0.Cols b1.Cols).bind fun r'2 => some (!r'2)))).bind fun g'3 => (if g'3 = true then some false else (loopO (g_law_sameTable_l0 a0 b1) (0 : Int)).bind fun o'16 => match o'16 with | .inl y'17 => some y'17 | .inr (y'18) => some true)
set_option maxHeartbeats 4000000 in
set_option maxRecDepth 100000 in
theorem g_law_sameTable_ac {a0 : GTable} {b1 : GTable} {r : Bool} (H : g_law_sameTable a0 b1 = some r) : ACp Try.prog 50 [(.agg (GTable.cs a0)), (.agg (GTable.cs b1))] (AV.bool r) := by
  refine ACp_of (AC2_of_body (vs := [.b r]) Try.func50 rfl rfl (Nat.le_of_ble_eq_true rfl) rfl ?_) (fun _ => .same _)
  unfold g_law_sameTable at H
  refine as2 [(0, .g (GTable.cs a0)), (1, .g (GTable.cs b1))] [] rfl rfl rfl ?_
  refine sg [0, 1, 2] rfl ?_
  refine r_op rfl rfl (MakeD.opD (n_box 2 rfl rfl) rfl rfl rfl rfl) ?_
  refine r_op rfl rfl (MakeD.opD (n_box 3 rfl rfl) rfl rfl rfl rfl) ?_
  refine rp rfl rfl (p_asg rfl rfl) ?_
  refine rz [(2, .q 2 (0)), (3, .q 3 (0))] [(2, .pure (GTable.cs a0)), (3, .pure (GTable.cs b1))] rfl rfl rfl ?_
  refine AW2_seq ?_
  refine AW2_seq ?_
  refine bindK H fun g'3 h5 H => ?_
  refine AW2_mid (⟨[(2, .q 2 (0)), (3, .q 3 (0)), (28, .b g'3)], [(2, .pure (GTable.cs a0)), (3, .pure (GTable.cs b1))], 62⟩ : TS) ?_ ?_
  · clear H
    have H := h5
    clear h5
    refine AW2_reg [0, 1, 2, 3, 4, 5, 6, 7, 8, 9, 10, 11, 12, 13, 14, 15, 16, 17, 18, 19] rfl ?_
    refine rp rfl rfl (u_fa rfl rfl Try.underlying56 rfl in_4 (Nat.succ_ne_zero _) rfl rfl (ne_of_lt (n := 0) (Nat.lt_of_lt_of_eq (by decide) (Eq.symm (GTable.len a0))))) ?_
    refine rp rfl rfl (u_ld rfl rfl Try.underlying4 rfl rfl ((Sub.refl _).trans (GTable.sub0 a0))) ?_
    refine rp rfl rfl (u_fa rfl rfl Try.underlying56 rfl in_4 (Nat.succ_ne_zero _) rfl rfl (ne_of_lt (n := 0) (Nat.lt_of_lt_of_eq (by decide) (Eq.symm (GTable.len b1))))) ?_
    refine rp rfl rfl (u_ld rfl rfl Try.underlying4 rfl rfl ((Sub.refl _).trans (GTable.sub0 b1))) ?_
    refine rp rfl rfl (p_bnep rfl Try.underlying4 rfl rfl) ?_
    refine rp rfl rfl (p_move rfl rfl) ?_
    refine (Classical.em (a0.There ≠ b1.There)).elim (fun h2 => ?_) (fun h2 => ?_)
    · replace H := ite_then h2 H
      refine r_off rfl rfl rfl rfl (decide_eq_true (p := a0.There ≠ b1.There) h2) rfl rfl ?_
      refine r_off rfl rfl rfl rfl (decide_eq_true (p := a0.There ≠ b1.There) h2) rfl rfl ?_
      refine r_off rfl rfl rfl rfl (decide_eq_true (p := a0.There ≠ b1.There) h2) rfl rfl ?_
      refine r_off rfl rfl rfl rfl (decide_eq_true (p := a0.There ≠ b1.There) h2) rfl rfl ?_
      refine r_off rfl rfl rfl rfl (decide_eq_true (p := a0.There ≠ b1.There) h2) rfl rfl ?_
      refine rp rfl rfl (p_pkt rfl rfl (decide_eq_true (p := a0.There ≠ b1.There) h2) (.same _)) ?_
      refine rp rfl rfl (p_move rfl rfl) ?_
      refine r_off rfl rfl rfl rfl rfl rfl rfl ?_
      refine r_off rfl rfl rfl rfl rfl rfl rfl ?_
      refine r_off rfl rfl rfl rfl rfl rfl rfl ?_
      refine r_off rfl rfl rfl rfl rfl rfl rfl ?_
      refine r_off rfl rfl rfl rfl rfl rfl rfl ?_
      refine r_off rfl rfl rfl rfl rfl rfl rfl ?_
      refine rp rfl rfl (p_pkt rfl rfl rfl (.same _)) ?_
      refine rs [(2, .q 2 (0)), (3, .q 3 (0)), (28, .b true)] [(2, .pure (GTable.cs a0)), (3, .pure (GTable.cs b1))] rfl rfl rfl ?_
      have hz := some_elim H
      subst hz
      exact RunW_nil rfl
    · replace H := ite_else h2 H
      refine r_on rfl rfl rfl rfl (decide_eq_false (p := a0.There ≠ b1.There) h2) rfl (PureD.opD (u_fa rfl rfl Try.underlying56 rfl in_9 (Nat.succ_ne_zero _) rfl rfl (ne_of_lt (n := 0) (Nat.lt_of_lt_of_eq (by decide) (Eq.symm (GTable.len a0)))))) ?_
      refine r_on rfl rfl rfl rfl (decide_eq_false (p := a0.There ≠ b1.There) h2) rfl (PureD.opD (u_ld rfl rfl Try.underlying9 rfl rfl ((Sub.refl _).trans (GTable.sub1 a0)))) ?_
      refine r_on rfl rfl rfl rfl (decide_eq_false (p := a0.There ≠ b1.There) h2) rfl (PureD.opD (u_fa rfl rfl Try.underlying56 rfl in_9 (Nat.succ_ne_zero _) rfl rfl (ne_of_lt (n := 0) (Nat.lt_of_lt_of_eq (by decide) (Eq.symm (GTable.len b1)))))) ?_
      refine r_on rfl rfl rfl rfl (decide_eq_false (p := a0.There ≠ b1.There) h2) rfl (PureD.opD (u_ld rfl rfl Try.underlying9 rfl rfl ((Sub.refl _).trans (GTable.sub1 b1)))) ?_
      refine r_on rfl rfl rfl rfl (decide_eq_false (p := a0.There ≠ b1.There) h2) rfl (PureD.opD (p_sne rfl rfl rfl)) ?_
      refine rp rfl rfl (p_pkf rfl rfl (decide_eq_false (p := a0.There ≠ b1.There) h2) (.same _)) ?_
      refine rp rfl rfl (p_move rfl rfl) ?_
      refine (Classical.em (a0.Name ≠ b1.Name)).elim (fun h3 => ?_) (fun h3 => ?_)
      · replace H := ite_then h3 H
        refine r_off rfl rfl rfl rfl (decide_eq_true (p := a0.Name ≠ b1.Name) h3) rfl rfl ?_
        refine r_off rfl rfl rfl rfl (decide_eq_true (p := a0.Name ≠ b1.Name) h3) rfl rfl ?_
        refine r_off rfl rfl rfl rfl (decide_eq_true (p := a0.Name ≠ b1.Name) h3) rfl rfl ?_
        refine r_off rfl rfl rfl rfl (decide_eq_true (p := a0.Name ≠ b1.Name) h3) rfl rfl ?_
        refine r_off rfl rfl rfl rfl (decide_eq_true (p := a0.Name ≠ b1.Name) h3) rfl rfl ?_
        refine r_off rfl rfl rfl rfl (decide_eq_true (p := a0.Name ≠ b1.Name) h3) rfl rfl ?_
        refine rp rfl rfl (p_pkt rfl rfl (decide_eq_true (p := a0.Name ≠ b1.Name) h3) (.same _)) ?_
        refine rs [(2, .q 2 (0)), (3, .q 3 (0)), (28, .b true)] [(2, .pure (GTable.cs a0)), (3, .pure (GTable.cs b1))] rfl rfl rfl ?_
        have hz := some_elim H
        subst hz
        exact RunW_nil rfl
      · replace H := ite_else h3 H
        refine r_on rfl rfl rfl rfl (decide_eq_false (p := a0.Name ≠ b1.Name) h3) rfl (PureD.opD (u_fa rfl rfl Try.underlying56 rfl in_49 (Nat.succ_ne_zero _) rfl rfl (ne_of_lt (n := 0) (Nat.lt_of_lt_of_eq (by decide) (Eq.symm (GTable.len a0)))))) ?_
        refine r_on rfl rfl rfl rfl (decide_eq_false (p := a0.Name ≠ b1.Name) h3) rfl (PureD.opD (u_ld rfl rfl Try.underlying49 rfl rfl ((Sub.refl _).trans (GTable.sub2 a0)))) ?_
        refine r_on rfl rfl rfl rfl (decide_eq_false (p := a0.Name ≠ b1.Name) h3) rfl (PureD.opD (u_fa rfl rfl Try.underlying56 rfl in_49 (Nat.succ_ne_zero _) rfl rfl (ne_of_lt (n := 0) (Nat.lt_of_lt_of_eq (by decide) (Eq.symm (GTable.len b1)))))) ?_
        refine r_on rfl rfl rfl rfl (decide_eq_false (p := a0.Name ≠ b1.Name) h3) rfl (PureD.opD (u_ld rfl rfl Try.underlying49 rfl rfl ((Sub.refl _).trans (GTable.sub2 b1)))) ?_
        refine bindK H fun r'2 h4 H => ?_
        refine r_on rfl rfl rfl rfl (decide_eq_false (p := a0.Name ≠ b1.Name) h3) rfl (PureD.opD (p_callp rfl rfl rfl Try.func52 rfl rfl (g_law_sameColumns_ac h4) ⟨rfl, rfl, trivial⟩)) ?_
        refine r_on rfl rfl rfl rfl (decide_eq_false (p := a0.Name ≠ b1.Name) h3) rfl (PureD.opD (p_not rfl rfl)) ?_
        refine rp rfl rfl (p_pkf rfl rfl (decide_eq_false (p := a0.Name ≠ b1.Name) h3) (.same _)) ?_
        refine rs [(2, .q 2 (0)), (3, .q 3 (0)), (28, .b (!r'2))] [(2, .pure (GTable.cs a0)), (3, .pure (GTable.cs b1))] rfl rfl rfl ?_
        have hz := some_elim H
        subst hz
        exact RunW_nil rfl
  · refine AW2_cond rfl (fun h6 => ?_) (fun h6 => ?_)
    · replace H := ite_then h6 H
      refine sg [0] rfl ?_
      refine rp rfl rfl (p_asg rfl rfl) ?_
      refine rz [(4, .b false)] [] rfl rfl rfl ?_
      refine AW2_ret ?_
      have hz := some_elim H
      subst hz
      exact ⟨⟨res_tmp (.same _), trivial⟩, trivial⟩
    · replace H := ite_else (ne_true h6) H
      refine as2 [(2, .q 2 (0)), (3, .q 3 (0))] [(2, .pure (GTable.cs a0)), (3, .pure (GTable.cs b1))] rfl rfl rfl ?_
      refine AW2_skip ?_
      refine AW2_seq ?_
      refine sg [0] rfl ?_
      refine rp rfl rfl (p_move rfl rfl) ?_
      refine rz [(2, .q 2 (0)), (3, .q 3 (0)), (29, .i (0 : Int))] [(2, .pure (GTable.cs a0)), (3, .pure (GTable.cs b1))] rfl rfl rfl ?_
      refine AW2_block ?_
      refine as2 [(2, .q 2 (0)), (3, .q 3 (0)), (29, .i (0 : Int))] [(2, .pure (GTable.cs a0)), (3, .pure (GTable.cs b1))] rfl rfl rfl ?_
      refine bindK H fun o'16 h20 H => ?_
      refine AW2_loopO (fun a'13 : Int => (⟨[(2, .q 2 (0)), (3, .q 3 (0)), (29, .i a'13)], [(2, .pure (GTable.cs a0)), (3, .pure (GTable.cs b1))], 62⟩ : TS)) (fun (o : Bool ⊕ Unit) e s' => match o with | .inl y'14 => e = Go.Exit.ret ∧ ResAll Try.prog s' [ResultVar.tmp 4] [.b y'14] ∧ HFits s' [] | .inr (y'15) => e = Go.Exit.exit 0 ∧ s' = (⟨[], [], 62⟩ : TS)) h20 rfl (fun t29_0 x hx => ?_) (fun e s' hs => ?_)
      · clear H
        have H := hx
        clear hx
        unfold g_law_sameTable_l0 at H
        refine sg [0] rfl ?_
        refine rp rfl rfl (p_bin rfl rfl rfl rfl) ?_
        refine rz [(2, .q 2 (0)), (3, .q 3 (0)), (29, .i t29_0), (30, .b (decide (t29_0 < (2 : Int))))] [(2, .pure (GTable.cs a0)), (3, .pure (GTable.cs b1))] rfl rfl rfl ?_
        refine AW2_seq ?_
        refine AW2_if (p := t29_0 < (2 : Int)) rfl (fun h7 => ?_) (fun h7 => ?_)
        · replace H := ite_then h7 H
          refine as2 [(2, .q 2 (0)), (3, .q 3 (0)), (29, .i t29_0)] [(2, .pure (GTable.cs a0)), (3, .pure (GTable.cs b1))] rfl rfl rfl ?_
          refine AW2_skip ?_
          refine AW2_seq ?_
          refine AW2_block ?_
          refine sg [0, 1] rfl ?_
          refine rp rfl rfl (p_move rfl rfl) ?_
          refine rp rfl rfl (p_asg rfl rfl) ?_
          refine rz [(2, .q 2 (0)), (3, .q 3 (0)), (5, .i t29_0), (29, .i t29_0)] [(2, .pure (GTable.cs a0)), (3, .pure (GTable.cs b1))] rfl rfl rfl ?_
          refine sg [0] rfl ?_
          refine rp rfl rfl (p_move rfl rfl) ?_
          refine rz [(2, .q 2 (0)), (3, .q 3 (0)), (5, .i t29_0), (29, .i t29_0), (32, .i (0 : Int))] [(2, .pure (GTable.cs a0)), (3, .pure (GTable.cs b1))] rfl rfl rfl ?_
          refine AW2_block ?_
          refine as2 [(2, .q 2 (0)), (3, .q 3 (0)), (5, .i t29_0), (29, .i t29_0), (32, .i (0 : Int))] [(2, .pure (GTable.cs a0)), (3, .pure (GTable.cs b1))] rfl rfl rfl ?_
          refine bindK H fun o'10 h19 H => ?_
          refine AW2_loopO (fun a'7 : Int => (⟨[(2, .q 2 (0)), (3, .q 3 (0)), (5, .i t29_0), (29, .i t29_0), (32, .i a'7)], [(2, .pure (GTable.cs a0)), (3, .pure (GTable.cs b1))], 62⟩ : TS)) (fun (o : Bool ⊕ Unit) e s' => match o with | .inl y'8 => e = Go.Exit.ret ∧ ResAll Try.prog s' [ResultVar.tmp 4] [.b y'8] ∧ HFits s' [] | .inr (y'9) => e = Go.Exit.exit 2 ∧ s' = (⟨[(2, .q 2 (0)), (3, .q 3 (0)), (29, .i t29_0)], [(2, .pure (GTable.cs a0)), (3, .pure (GTable.cs b1))], 62⟩ : TS)) h19 rfl (fun t32_1 x hx => ?_) (fun e s' hs => ?_)
          · clear H
            have H := hx
            clear hx
            unfold g_law_sameTable_l1 at H
            refine sg [0] rfl ?_
            refine rp rfl rfl (p_bin rfl rfl rfl rfl) ?_
            refine rz [(2, .q 2 (0)), (3, .q 3 (0)), (5, .i t29_0), (29, .i t29_0), (32, .i t32_1), (33, .b (decide (t32_1 < (4 : Int))))] [(2, .pure (GTable.cs a0)), (3, .pure (GTable.cs b1))] rfl rfl rfl ?_
            refine AW2_seq ?_
            refine AW2_if (p := t32_1 < (4 : Int)) rfl (fun h8 => ?_) (fun h8 => ?_)
            · replace H := ite_then h8 H
              refine as2 [(2, .q 2 (0)), (3, .q 3 (0)), (5, .i t29_0), (29, .i t29_0), (32, .i t32_1)] [(2, .pure (GTable.cs a0)), (3, .pure (GTable.cs b1))] rfl rfl rfl ?_
              refine AW2_skip ?_
              refine AW2_seq ?_
              refine AW2_block ?_
              refine sg [0, 1] rfl ?_
              refine rp rfl rfl (p_move rfl rfl) ?_
              refine rp rfl rfl (p_asg rfl rfl) ?_
              refine rz [(2, .q 2 (0)), (3, .q 3 (0)), (5, .i t29_0), (6, .i t32_1), (29, .i t29_0), (32, .i t32_1)] [(2, .pure (GTable.cs a0)), (3, .pure (GTable.cs b1))] rfl rfl rfl ?_
              refine AW2_seq ?_
              refine chkK H fun h9 H => ?_
              refine chkK H fun h10 H => ?_
              refine chkK H fun h11 H => ?_
              refine chkK H fun h12 H => ?_
              refine AW2_ghoQ ?_
              refine AW2_drawU 15 [15] (fun k => ([.i t29_0, .i t32_1, .q 2 (0 + 3), .q 2 (0 + 3 + t29_0.toNat * 8), .q 2 (0 + 3 + t29_0.toNat * 8 + t32_1.toNat * 2), .g (GCell.cs (vrd (vrd a0.Drawers t29_0.toNat) t32_1.toNat)), .i t29_0, .i t32_1, .q 3 (0 + 3), .q 3 (0 + 3 + t29_0.toNat * 8), .q 3 (0 + 3 + t29_0.toNat * 8 + t32_1.toNat * 2), .g (GCell.cs (vrd (vrd b1.Drawers t29_0.toNat) t32_1.toNat)), .q 7 (0), .q 8 (0), .p (.tup [])] : List TV).getD k TV.any) (fun k => ([[(5, none)], [(6, none)], [(2, none)], [(35, some 0), (37, some 2)], [(36, some 1), (38, some 3)], [(39, some 4)], [(5, none)], [(6, none)], [(3, none)], [(41, some 6), (43, some 8)], [(42, some 7), (44, some 9)], [(45, some 10)], [], [], [(7, some 12), (40, some 5)]] : List (List (Nat × Option Nat))).getD k []) [(2, none), (3, none), (5, none), (7, some 12), (8, some 13), (29, none), (32, none), (46, some 11)] [(12, 7, (GCell.cs GCell.zero)), (13, 8, (GCell.cs GCell.zero))] [(14, 7, .pure (GCell.cs (vrd (vrd a0.Drawers t29_0.toNat) t32_1.toNat)))] [] (fun k => ([[], [], [(2, false)], [(2, false)], [(2, false)], [(2, false)], [], [], [(3, false)], [(3, false)], [(3, false)], [(3, false)], [], [], [(7, false)]] : List (List (Nat × Bool))).getD k []) (fun k => ([[], [], [], [0, 2], [0, 1, 2, 3], [0, 1, 2, 3, 4], [], [], [], [6, 8], [6, 7, 8, 9], [6, 7, 8, 9, 10], [], [], [0, 1, 2, 3, 4, 5, 12, 13], [0, 1, 2, 3, 4, 5, 6, 7, 8, 9, 10, 11, 12, 13, 14]] : List (List Nat)).getD k []) mixed (by kernel_rfl) rfl rfl rfl (a_op (gu_x rfl (y_p rfl rfl (p_move rfl rfl) rfl)) (a_op (gu_x rfl (y_p rfl rfl (p_move rfl rfl) rfl)) (a_op (gu_x rfl (y_p rfl rfl (u_fa rfl rfl Try.underlying56 rfl in_54 (Nat.succ_ne_zero _) rfl rfl (ne_of_lt (n := 0) (Nat.lt_of_lt_of_eq (by decide) (Eq.symm (GTable.len a0))))) rfl)) (a_op (gu_x rfl (y_p rfl rfl (u_ixp rfl rfl Try.underlying54 in_53 rfl rfl (ne_of_lt (n := 0) (Nat.lt_of_lt_of_eq (by decide) (Eq.symm (GTable.len a0)))) rfl (ixe h9) (ixn h9)) rfl)) (a_op (gu_x rfl (y_p rfl rfl (u_ixp rfl rfl Try.underlying53 in_52 rfl rfl (ne_of_lt (n := 0) (Nat.lt_of_lt_of_eq (by decide) (Eq.symm (GTable.len a0)))) rfl (ixe h10) (ixn h10)) rfl)) (a_op (gu_x rfl (y_p rfl rfl (u_lda rfl rfl Try.underlying52 rfl in_52 rfl (Nat.succ_pos _) ((((Sub.refl _).trans (GTable.sub3 a0)).trans (Sub.vfm (fun x => (vfm_len (fun x => (GCell.len x)) x)) (ixn h9))).trans (Sub.vfm (fun x => (GCell.len x)) (ixn h10))) (GCell.len (vrd (vrd a0.Drawers t29_0.toNat) t32_1.toNat))) rfl)) (a_op (gu_x rfl (y_p rfl rfl (p_move rfl rfl) rfl)) (a_op (gu_x rfl (y_p rfl rfl (p_move rfl rfl) rfl)) (a_op (gu_x rfl (y_p rfl rfl (u_fa rfl rfl Try.underlying56 rfl in_54 (Nat.succ_ne_zero _) rfl rfl (ne_of_lt (n := 0) (Nat.lt_of_lt_of_eq (by decide) (Eq.symm (GTable.len b1))))) rfl)) (a_op (gu_x rfl (y_p rfl rfl (u_ixp rfl rfl Try.underlying54 in_53 rfl rfl (ne_of_lt (n := 0) (Nat.lt_of_lt_of_eq (by decide) (Eq.symm (GTable.len b1)))) rfl (ixe h11) (ixn h11)) rfl)) (a_op (gu_x rfl (y_p rfl rfl (u_ixp rfl rfl Try.underlying53 in_52 rfl rfl (ne_of_lt (n := 0) (Nat.lt_of_lt_of_eq (by decide) (Eq.symm (GTable.len b1)))) rfl (ixe h12) (ixn h12)) rfl)) (a_op (gu_x rfl (y_p rfl rfl (u_lda rfl rfl Try.underlying52 rfl in_52 rfl (Nat.succ_pos _) ((((Sub.refl _).trans (GTable.sub3 b1)).trans (Sub.vfm (fun x => (vfm_len (fun x => (GCell.len x)) x)) (ixn h11))).trans (Sub.vfm (fun x => (GCell.len x)) (ixn h12))) (GCell.len (vrd (vrd b1.Drawers t29_0.toNat) t32_1.toNat))) rfl)) (a_op (gu_x rfl (y_m rfl rfl (u_alloc 7 rfl in_52 one_52 zc_52) rfl rfl)) (a_op (gu_x rfl (y_m rfl rfl (u_alloc 8 rfl in_52 one_52 zc_52) rfl rfl)) (a_op (gu_x rfl (y_u rfl rfl rfl rfl (UpdD_st rfl rfl rfl rfl rfl in_52 (GCell.len (vrd (vrd a0.Drawers t29_0.toNat) t32_1.toNat)) (ne_of_lt (n := 0) (Nat.lt_of_lt_of_eq (by decide) (Eq.symm (GCell.len GCell.zero)))) (Upd.refl ((GCell.len (vrd (vrd a0.Drawers t29_0.toNat) t32_1.toNat)).trans (GCell.len GCell.zero).symm))) rfl rfl)) (a_nil)))))))))))))))) ?_
              refine t_op rfl rfl (u_st rfl rfl rfl rfl rfl in_52 (GCell.len (vrd (vrd b1.Drawers t29_0.toNat) t32_1.toNat)) (ne_of_lt (n := 0) (Nat.lt_of_lt_of_eq (by decide) (Eq.symm (GCell.len GCell.zero)))) (Upd.refl ((GCell.len (vrd (vrd b1.Drawers t29_0.toNat) t32_1.toNat)).trans (GCell.len GCell.zero).symm))) ?_
              refine t_gho (Gho_st (L := [(2, .q 2 (0)), (3, .q 3 (0)), (5, .i t29_0), (7, .q 7 (0)), (8, .q 8 (0)), (29, .i t29_0), (32, .i t32_1)]) (H := [(2, .pure (GTable.cs a0)), (3, .pure (GTable.cs b1)), (7, .pure (GCell.cs (vrd (vrd a0.Drawers t29_0.toNat) t32_1.toNat))), (8, .pure (GCell.cs (vrd (vrd b1.Drawers t29_0.toNat) t32_1.toNat)))]) (N := 62) rfl ⟨TLes.same _, TLes.same _, TLes.same _, TLes.same _, TLes.same _, TLes.same _, TLes.same _, trivial⟩ ⟨rfl, rfl, rfl, rfl, trivial⟩) ?_
              refine AW2_seq ?_
              refine bindK H fun g'6 h16 H => ?_
              refine AW2_mid (⟨[(2, .q 2 (0)), (3, .q 3 (0)), (5, .i t29_0), (29, .i t29_0), (32, .i t32_1), (59, .b g'6)], [(2, .pure (GTable.cs a0)), (3, .pure (GTable.cs b1))], 62⟩ : TS) ?_ ?_
              · clear H
                have H := h16
                clear h16
                refine AW2_reg [0, 1, 2, 3, 4, 5, 6, 7, 8, 9, 10, 11, 12] rfl ?_
                refine rp rfl rfl (u_fa rfl rfl Try.underlying52 rfl in_4 (Nat.succ_ne_zero _) rfl rfl (ne_of_lt (n := 0) (Nat.lt_of_lt_of_eq (by decide) (Eq.symm (GCell.len (vrd (vrd a0.Drawers t29_0.toNat) t32_1.toNat)))))) ?_
                refine rp rfl rfl (u_ld rfl rfl Try.underlying4 rfl rfl ((Sub.refl _).trans (GCell.sub0 (vrd (vrd a0.Drawers t29_0.toNat) t32_1.toNat)))) ?_
                refine rp rfl rfl (u_fa rfl rfl Try.underlying52 rfl in_4 (Nat.succ_ne_zero _) rfl rfl (ne_of_lt (n := 0) (Nat.lt_of_lt_of_eq (by decide) (Eq.symm (GCell.len (vrd (vrd b1.Drawers t29_0.toNat) t32_1.toNat)))))) ?_
                refine rp rfl rfl (u_ld rfl rfl Try.underlying4 rfl rfl ((Sub.refl _).trans (GCell.sub0 (vrd (vrd b1.Drawers t29_0.toNat) t32_1.toNat)))) ?_
                refine rp rfl rfl (p_bnep rfl Try.underlying4 rfl rfl) ?_
                refine rp rfl rfl (p_move rfl rfl) ?_
                refine (Classical.em (((vrd (vrd a0.Drawers t29_0.toNat) t32_1.toNat).Full) ≠ ((vrd (vrd b1.Drawers t29_0.toNat) t32_1.toNat).Full))).elim (fun h14 => ?_) (fun h14 => ?_)
                · replace H := ite_then h14 H
                  refine r_off rfl rfl rfl rfl (decide_eq_true (p := ((vrd (vrd a0.Drawers t29_0.toNat) t32_1.toNat).Full) ≠ ((vrd (vrd b1.Drawers t29_0.toNat) t32_1.toNat).Full)) h14) rfl rfl ?_
                  refine r_off rfl rfl rfl rfl (decide_eq_true (p := ((vrd (vrd a0.Drawers t29_0.toNat) t32_1.toNat).Full) ≠ ((vrd (vrd b1.Drawers t29_0.toNat) t32_1.toNat).Full)) h14) rfl rfl ?_
                  refine r_off rfl rfl rfl rfl (decide_eq_true (p := ((vrd (vrd a0.Drawers t29_0.toNat) t32_1.toNat).Full) ≠ ((vrd (vrd b1.Drawers t29_0.toNat) t32_1.toNat).Full)) h14) rfl rfl ?_
                  refine r_off rfl rfl rfl rfl (decide_eq_true (p := ((vrd (vrd a0.Drawers t29_0.toNat) t32_1.toNat).Full) ≠ ((vrd (vrd b1.Drawers t29_0.toNat) t32_1.toNat).Full)) h14) rfl rfl ?_
                  refine r_off rfl rfl rfl rfl (decide_eq_true (p := ((vrd (vrd a0.Drawers t29_0.toNat) t32_1.toNat).Full) ≠ ((vrd (vrd b1.Drawers t29_0.toNat) t32_1.toNat).Full)) h14) rfl rfl ?_
                  refine r_off rfl rfl rfl rfl (decide_eq_true (p := ((vrd (vrd a0.Drawers t29_0.toNat) t32_1.toNat).Full) ≠ ((vrd (vrd b1.Drawers t29_0.toNat) t32_1.toNat).Full)) h14) rfl rfl ?_
                  refine rp rfl rfl (p_pkt rfl rfl (decide_eq_true (p := ((vrd (vrd a0.Drawers t29_0.toNat) t32_1.toNat).Full) ≠ ((vrd (vrd b1.Drawers t29_0.toNat) t32_1.toNat).Full)) h14) (.same _)) ?_
                  refine rs [(2, .q 2 (0)), (3, .q 3 (0)), (5, .i t29_0), (29, .i t29_0), (32, .i t32_1), (59, .b true)] [(2, .pure (GTable.cs a0)), (3, .pure (GTable.cs b1))] rfl rfl rfl ?_
                  have hz := some_elim H
                  subst hz
                  exact RunW_nil rfl
                · replace H := ite_else h14 H
                  refine r_on rfl rfl rfl rfl (decide_eq_false (p := ((vrd (vrd a0.Drawers t29_0.toNat) t32_1.toNat).Full) ≠ ((vrd (vrd b1.Drawers t29_0.toNat) t32_1.toNat).Full)) h14) rfl (PureD.opD (u_fa rfl rfl Try.underlying52 rfl in_50 (Nat.succ_ne_zero _) rfl rfl (ne_of_lt (n := 0) (Nat.lt_of_lt_of_eq (by decide) (Eq.symm (GCell.len (vrd (vrd a0.Drawers t29_0.toNat) t32_1.toNat))))))) ?_
                  refine r_on rfl rfl rfl rfl (decide_eq_false (p := ((vrd (vrd a0.Drawers t29_0.toNat) t32_1.toNat).Full) ≠ ((vrd (vrd b1.Drawers t29_0.toNat) t32_1.toNat).Full)) h14) rfl (PureD.opD (u_ld rfl rfl Try.underlying50 rfl rfl ((Sub.refl _).trans (GCell.sub1 (vrd (vrd a0.Drawers t29_0.toNat) t32_1.toNat))))) ?_
                  refine r_on rfl rfl rfl rfl (decide_eq_false (p := ((vrd (vrd a0.Drawers t29_0.toNat) t32_1.toNat).Full) ≠ ((vrd (vrd b1.Drawers t29_0.toNat) t32_1.toNat).Full)) h14) rfl (PureD.opD (u_fa rfl rfl Try.underlying52 rfl in_50 (Nat.succ_ne_zero _) rfl rfl (ne_of_lt (n := 0) (Nat.lt_of_lt_of_eq (by decide) (Eq.symm (GCell.len (vrd (vrd b1.Drawers t29_0.toNat) t32_1.toNat))))))) ?_
                  refine r_on rfl rfl rfl rfl (decide_eq_false (p := ((vrd (vrd a0.Drawers t29_0.toNat) t32_1.toNat).Full) ≠ ((vrd (vrd b1.Drawers t29_0.toNat) t32_1.toNat).Full)) h14) rfl (PureD.opD (u_ld rfl rfl Try.underlying50 rfl rfl ((Sub.refl _).trans (GCell.sub1 (vrd (vrd b1.Drawers t29_0.toNat) t32_1.toNat))))) ?_
                  refine bindK H fun r'5 h15 H => ?_
                  refine r_on rfl rfl rfl rfl (decide_eq_false (p := ((vrd (vrd a0.Drawers t29_0.toNat) t32_1.toNat).Full) ≠ ((vrd (vrd b1.Drawers t29_0.toNat) t32_1.toNat).Full)) h14) rfl (PureD.opD (p_callp rfl rfl rfl Try.func53 rfl rfl (g_law_sameRow_ac h15) ⟨rfl, rfl, trivial⟩)) ?_
                  refine r_on rfl rfl rfl rfl (decide_eq_false (p := ((vrd (vrd a0.Drawers t29_0.toNat) t32_1.toNat).Full) ≠ ((vrd (vrd b1.Drawers t29_0.toNat) t32_1.toNat).Full)) h14) rfl (PureD.opD (p_not rfl rfl)) ?_
                  refine rp rfl rfl (p_pkf rfl rfl (decide_eq_false (p := ((vrd (vrd a0.Drawers t29_0.toNat) t32_1.toNat).Full) ≠ ((vrd (vrd b1.Drawers t29_0.toNat) t32_1.toNat).Full)) h14) (.same _)) ?_
                  refine rs [(2, .q 2 (0)), (3, .q 3 (0)), (5, .i t29_0), (29, .i t29_0), (32, .i t32_1), (59, .b (!r'5))] [(2, .pure (GTable.cs a0)), (3, .pure (GTable.cs b1))] rfl rfl rfl ?_
                  have hz := some_elim H
                  subst hz
                  exact RunW_nil rfl
              · refine AW2_cond rfl (fun h17 => ?_) (fun h17 => ?_)
                · replace H := ite_then h17 H
                  refine sg [0] rfl ?_
                  refine rp rfl rfl (p_asg rfl rfl) ?_
                  refine rz [(4, .b false)] [] rfl rfl rfl ?_
                  refine AW2_ret ?_
                  have hz := some_elim H
                  subst hz
                  exact ⟨rfl, ⟨res_tmp (.same _), trivial⟩, trivial⟩
                · replace H := ite_else (ne_true h17) H
                  refine as2 [(2, .q 2 (0)), (3, .q 3 (0)), (5, .i t29_0), (29, .i t29_0), (32, .i t32_1)] [(2, .pure (GTable.cs a0)), (3, .pure (GTable.cs b1))] rfl rfl rfl ?_
                  refine AW2_skip ?_
                  refine AW2_reg [0, 1] rfl ?_
                  refine rp rfl rfl (p_bin rfl rfl rfl rfl) ?_
                  refine rp rfl rfl (p_move rfl rfl) ?_
                  refine rz [(2, .q 2 (0)), (3, .q 3 (0)), (5, .i t29_0), (29, .i t29_0), (32, .i (w64 (t32_1 + (1 : Int))))] [(2, .pure (GTable.cs a0)), (3, .pure (GTable.cs b1))] rfl rfl rfl ?_
                  have hz := some_elim H
                  subst hz
                  exact ⟨rfl, rfl⟩
            · replace H := ite_else h8 H
              refine as2 [(2, .q 2 (0)), (3, .q 3 (0)), (29, .i t29_0)] [(2, .pure (GTable.cs a0)), (3, .pure (GTable.cs b1))] rfl rfl rfl ?_
              refine AW2_exit ?_
              refine thenQ2_exit ?_
              have hz := some_elim H
              subst hz
              exact ⟨rfl, rfl⟩
          · rcases o'10 with y'11 | y'12
            · obtain ⟨rfl, hs⟩ := hs
              refine ⟨by simp, ?_⟩
              have hz := some_elim H
              subst hz
              exact ⟨rfl, hs.1, hs.2⟩
            · obtain ⟨rfl, rfl⟩ := hs
              refine ⟨by simp, ?_⟩
              refine blockQ2_exit ?_
              refine AW2_reg [0, 1] rfl ?_
              refine rp rfl rfl (p_bin rfl rfl rfl rfl) ?_
              refine rp rfl rfl (p_move rfl rfl) ?_
              refine rz [(2, .q 2 (0)), (3, .q 3 (0)), (29, .i (w64 (t29_0 + (1 : Int))))] [(2, .pure (GTable.cs a0)), (3, .pure (GTable.cs b1))] rfl rfl rfl ?_
              have hz := some_elim H
              subst hz
              exact ⟨rfl, rfl⟩
        · replace H := ite_else h7 H
          refine as2 [] [] rfl rfl rfl ?_
          refine AW2_exit ?_
          refine thenQ2_exit ?_
          have hz := some_elim H
          subst hz
          exact ⟨rfl, rfl⟩
      · rcases o'16 with y'17 | y'18
        · obtain ⟨rfl, hs⟩ := hs
          refine ⟨by simp, ?_⟩
          have hz := some_elim H
          subst hz
          exact ⟨hs.1, hs.2⟩
        · obtain ⟨rfl, rfl⟩ := hs
          refine ⟨by simp, ?_⟩
          refine blockQ2_exit ?_
          refine sg [0] rfl ?_
          refine rp rfl rfl (p_asg rfl rfl) ?_
          refine rz [(4, .b true)] [] rfl rfl rfl ?_
          refine AW2_ret ?_
          have hz := some_elim H
          subst hz
          exact ⟨⟨res_tmp (.same _), trivial⟩, trivial⟩

/-! chirographlaw.sameGrants -/
noncomputable def g_law_sameGrants_l0 (a0 : List GGrant) (b1 : List GGrant) : Int → Option (Int ⊕ (Bool ⊕ Unit))
  | t13_0 => (if t13_0 < (a0.length : Int) then if 0 ≤ t13_0 ∧ t13_0 < (a0.length : Int) then if 0 ≤ t13_0 ∧ t13_0 < (b1.length : Int) then (if (lrd a0 t13_0.toNat) ≠ (lrd b1 t13_0.toNat) then some (.inr (.inl false)) else some (.inl (w64 (t13_0 + (1 : Int))))) else none else none else some (.inr (.inr ())))
noncomputable def g_law_sameGrants (a0 : List GGrant) (b1 : List GGrant) : Option (Bool) :=
  (if (a0.length : Int) ≠ (b1.length : Int) then some false else (loopO (g_law_sameGrants_l0 a0 b1) (0 : Int)).bind fun o'4 => match o'4 with | .inl y'5 => some y'5 | .inr (y'6) => some true)
set_option maxHeartbeats 4000000 in
set_option maxRecDepth 100000 in
theorem g_law_sameGrants_ac {a0 : List GGrant} {b1 : List GGrant} {r : Bool} (H : g_law_sameGrants a0 b1 = some r) : ACp Try.prog 51 [((fun q : List GGrant => AV.lst (q.flatMap GGrant.cs) q.length) a0), ((fun q : List GGrant => AV.lst (q.flatMap GGrant.cs) q.length) b1)] (AV.bool r) := by
  refine ACp_of (AC2_of_body (vs := [.b r]) Try.func51 rfl rfl (Nat.le_of_ble_eq_true rfl) rfl ?_) (fun _ => .same _)
  unfold g_law_sameGrants at H
  refine as2 [(0, .p ((fun q : List GGrant => AV.lst (q.flatMap GGrant.cs) q.length) a0)), (1, .p ((fun q : List GGrant => AV.lst (q.flatMap GGrant.cs) q.length) b1))] [] rfl rfl rfl ?_
  refine sg [0] rfl ?_
  refine rp rfl rfl (p_asg rfl rfl) ?_
  refine rz [(0, .p ((fun q : List GGrant => AV.lst (q.flatMap GGrant.cs) q.length) a0)), (1, .p ((fun q : List GGrant => AV.lst (q.flatMap GGrant.cs) q.length) b1))] [] rfl rfl rfl ?_
  refine AW2_seq ?_
  refine sg [0, 1, 2, 3, 4] rfl ?_
  refine rp rfl rfl (p_move rfl rfl) ?_
  refine rp rfl rfl (p_lenl rfl Try.underlying59 rfl rfl) ?_
  refine rp rfl rfl (p_move rfl rfl) ?_
  refine rp rfl rfl (p_lenl rfl Try.underlying59 rfl rfl) ?_
  refine rp rfl rfl (p_ine rfl rfl rfl) ?_
  refine rz [(0, .p ((fun q : List GGrant => AV.lst (q.flatMap GGrant.cs) q.length) a0)), (1, .p ((fun q : List GGrant => AV.lst (q.flatMap GGrant.cs) q.length) b1)), (10, .b (decide ((a0.length : Int) ≠ (b1.length : Int))))] [] rfl rfl rfl ?_
  refine AW2_if (p := (a0.length : Int) ≠ (b1.length : Int)) rfl (fun h1 => ?_) (fun h1 => ?_)
  · replace H := ite_then h1 H
    refine sg [0] rfl ?_
    refine rp rfl rfl (p_asg rfl rfl) ?_
    refine rz [(4, .b false)] [] rfl rfl rfl ?_
    refine AW2_ret ?_
    have hz := some_elim H
    subst hz
    exact ⟨⟨res_tmp (.same _), trivial⟩, trivial⟩
  · replace H := ite_else h1 H
    refine as2 [(0, .p ((fun q : List GGrant => AV.lst (q.flatMap GGrant.cs) q.length) a0)), (1, .p ((fun q : List GGrant => AV.lst (q.flatMap GGrant.cs) q.length) b1))] [] rfl rfl rfl ?_
    refine AW2_skip ?_
    refine AW2_seq ?_
    refine sg [0, 1, 2] rfl ?_
    refine rp rfl rfl (p_move rfl rfl) ?_
    refine rp rfl rfl (p_lenl rfl Try.underlying59 rfl rfl) ?_
    refine rp rfl rfl (p_move rfl rfl) ?_
    refine rz [(0, .p ((fun q : List GGrant => AV.lst (q.flatMap GGrant.cs) q.length) a0)), (1, .p ((fun q : List GGrant => AV.lst (q.flatMap GGrant.cs) q.length) b1)), (12, .i (a0.length : Int)), (13, .i (0 : Int))] [] rfl rfl rfl ?_
    refine AW2_block ?_
    refine as2 [(0, .p ((fun q : List GGrant => AV.lst (q.flatMap GGrant.cs) q.length) a0)), (1, .p ((fun q : List GGrant => AV.lst (q.flatMap GGrant.cs) q.length) b1)), (12, .i (a0.length : Int)), (13, .i (0 : Int))] [] rfl rfl rfl ?_
    refine bindK H fun o'4 h6 H => ?_
    refine AW2_loopO (fun a'1 : Int => (⟨[(0, .p ((fun q : List GGrant => AV.lst (q.flatMap GGrant.cs) q.length) a0)), (1, .p ((fun q : List GGrant => AV.lst (q.flatMap GGrant.cs) q.length) b1)), (12, .i (a0.length : Int)), (13, .i a'1)], [], 26⟩ : TS)) (fun (o : Bool ⊕ Unit) e s' => match o with | .inl y'2 => e = Go.Exit.ret ∧ ResAll Try.prog s' [ResultVar.tmp 4] [.b y'2] ∧ HFits s' [] | .inr (y'3) => e = Go.Exit.exit 0 ∧ s' = (⟨[], [], 26⟩ : TS)) h6 rfl (fun t13_0 x hx => ?_) (fun e s' hs => ?_)
    · clear H
      have H := hx
      clear hx
      unfold g_law_sameGrants_l0 at H
      refine sg [0] rfl ?_
      refine rp rfl rfl (p_bin rfl rfl rfl rfl) ?_
      refine rz [(0, .p ((fun q : List GGrant => AV.lst (q.flatMap GGrant.cs) q.length) a0)), (1, .p ((fun q : List GGrant => AV.lst (q.flatMap GGrant.cs) q.length) b1)), (12, .i (a0.length : Int)), (13, .i t13_0), (14, .b (decide (t13_0 < (a0.length : Int))))] [] rfl rfl rfl ?_
      refine AW2_seq ?_
      refine AW2_if (p := t13_0 < (a0.length : Int)) rfl (fun h2 => ?_) (fun h2 => ?_)
      · replace H := ite_then h2 H
        refine as2 [(0, .p ((fun q : List GGrant => AV.lst (q.flatMap GGrant.cs) q.length) a0)), (1, .p ((fun q : List GGrant => AV.lst (q.flatMap GGrant.cs) q.length) b1)), (12, .i (a0.length : Int)), (13, .i t13_0)] [] rfl rfl rfl ?_
        refine AW2_skip ?_
        refine AW2_seq ?_
        refine AW2_block ?_
        refine sg [0, 1] rfl ?_
        refine rp rfl rfl (p_move rfl rfl) ?_
        refine rp rfl rfl (p_asg rfl rfl) ?_
        refine rz [(0, .p ((fun q : List GGrant => AV.lst (q.flatMap GGrant.cs) q.length) a0)), (1, .p ((fun q : List GGrant => AV.lst (q.flatMap GGrant.cs) q.length) b1)), (5, .i t13_0), (12, .i (a0.length : Int)), (13, .i t13_0)] [] rfl rfl rfl ?_
        refine AW2_seq ?_
        refine chkK H fun h3 H => ?_
        refine chkK H fun h4 H => ?_
        refine AW2_ghoQ ?_
        refine AW2_draw 8 [8] (fun k => ([.p ((fun q : List GGrant => AV.lst (q.flatMap GGrant.cs) q.length) a0), .i t13_0, .p (.rptr (a0.flatMap GGrant.cs) (t13_0.toNat * 5)), .g (GGrant.cs (lrd a0 t13_0.toNat)), .p ((fun q : List GGrant => AV.lst (q.flatMap GGrant.cs) q.length) b1), .i t13_0, .p (.rptr (b1.flatMap GGrant.cs) (t13_0.toNat * 5)), .g (GGrant.cs (lrd b1 t13_0.toNat))] : List TV).getD k TV.any) (fun k => ([[(0, none)], [(5, none)], [(16, some 0), (17, some 1)], [(18, some 2)], [(1, none)], [(5, none)], [(20, some 4), (21, some 5)], [(22, some 6)]] : List (List (Nat × Option Nat))).getD k []) [(0, none), (1, none), (12, none), (13, none), (19, some 3), (23, some 7)] [] (fun k => ([[], [], [0, 1], [0, 1, 2], [], [], [4, 5], [4, 5, 6], [0, 1, 2, 3, 4, 5, 6, 7]] : List (List Nat)).getD k []) mixed (by kernel_rfl) rfl rfl (a_op (g_x rfl (x_p rfl (p_move rfl rfl) rfl)) (a_op (g_x rfl (x_p rfl (p_move rfl rfl) rfl)) (a_op (g_x rfl (x_p rfl (u_ixl rfl rfl Try.underlying59 in_101 rfl rfl (ixe h3) (ixn h3) (fne (fun x => (GGrant.len x)) (by decide) (ixn h3))) rfl)) (a_op (g_x rfl (x_p rfl (u_lda rfl rfl Try.underlying101 rfl in_101 rfl (Nat.succ_pos _) (Sub.fm default (fun x => (GGrant.len x)) (ixn h3)) (GGrant.len (lrd a0 t13_0.toNat))) rfl)) (a_op (g_x rfl (x_p rfl (p_move rfl rfl) rfl)) (a_op (g_x rfl (x_p rfl (p_move rfl rfl) rfl)) (a_op (g_x rfl (x_p rfl (u_ixl rfl rfl Try.underlying59 in_101 rfl rfl (ixe h4) (ixn h4) (fne (fun x => (GGrant.len x)) (by decide) (ixn h4))) rfl)) (a_op (g_x rfl (x_p rfl (u_lda rfl rfl Try.underlying101 rfl in_101 rfl (Nat.succ_pos _) (Sub.fm default (fun x => (GGrant.len x)) (ixn h4)) (GGrant.len (lrd b1 t13_0.toNat))) rfl)) (a_nil))))))))) ?_
        refine t_op rfl rfl (PureD.opD (p_nea (a := (lrd a0 t13_0.toNat)) (b := (lrd b1 t13_0.toNat)) rfl eq_101 rfl (by kernel_rfl) rfl rfl)) ?_
        refine t_gho (Gho_st (L := [(0, .p ((fun q : List GGrant => AV.lst (q.flatMap GGrant.cs) q.length) a0)), (1, .p ((fun q : List GGrant => AV.lst (q.flatMap GGrant.cs) q.length) b1)), (12, .i (a0.length : Int)), (13, .i t13_0), (24, .b (decide ((lrd a0 t13_0.toNat) ≠ (lrd b1 t13_0.toNat))))]) (H := []) (N := 26) rfl ⟨TLes.same _, TLes.same _, TLes.same _, TLes.same _, TLes.same _, trivial⟩ trivial) ?_
        refine AW2_if (p := (lrd a0 t13_0.toNat) ≠ (lrd b1 t13_0.toNat)) rfl (fun h5 => ?_) (fun h5 => ?_)
        · replace H := ite_then h5 H
          refine sg [0] rfl ?_
          refine rp rfl rfl (p_asg rfl rfl) ?_
          refine rz [(4, .b false)] [] rfl rfl rfl ?_
          refine AW2_ret ?_
          have hz := some_elim H
          subst hz
          exact ⟨rfl, ⟨res_tmp (.same _), trivial⟩, trivial⟩
        · replace H := ite_else h5 H
          refine as2 [(0, .p ((fun q : List GGrant => AV.lst (q.flatMap GGrant.cs) q.length) a0)), (1, .p ((fun q : List GGrant => AV.lst (q.flatMap GGrant.cs) q.length) b1)), (12, .i (a0.length : Int)), (13, .i t13_0)] [] rfl rfl rfl ?_
          refine AW2_skip ?_
          refine AW2_reg [0, 1] rfl ?_
          refine rp rfl rfl (p_bin rfl rfl rfl rfl) ?_
          refine rp rfl rfl (p_move rfl rfl) ?_
          refine rz [(0, .p ((fun q : List GGrant => AV.lst (q.flatMap GGrant.cs) q.length) a0)), (1, .p ((fun q : List GGrant => AV.lst (q.flatMap GGrant.cs) q.length) b1)), (12, .i (a0.length : Int)), (13, .i (w64 (t13_0 + (1 : Int))))] [] rfl rfl rfl ?_
          have hz := some_elim H
          subst hz
          exact ⟨rfl, rfl⟩
      · replace H := ite_else h2 H
        refine as2 [] [] rfl rfl rfl ?_
        refine AW2_exit ?_
        refine thenQ2_exit ?_
        have hz := some_elim H
        subst hz
        exact ⟨rfl, rfl⟩
    · rcases o'4 with y'5 | y'6
      · obtain ⟨rfl, hs⟩ := hs
        refine ⟨by simp, ?_⟩
        have hz := some_elim H
        subst hz
        exact ⟨hs.1, hs.2⟩
      · obtain ⟨rfl, rfl⟩ := hs
        refine ⟨by simp, ?_⟩
        refine blockQ2_exit ?_
        refine sg [0] rfl ?_
        refine rp rfl rfl (p_asg rfl rfl) ?_
        refine rz [(4, .b true)] [] rfl rfl rfl ?_
        refine AW2_ret ?_
        have hz := some_elim H
        subst hz
        exact ⟨⟨res_tmp (.same _), trivial⟩, trivial⟩

/-! chirographlaw.sameState -/
noncomputable def g_law_sameState_l1 (a0 : GState) (b1 : GState) (t7_0 : Int) : Int → Option (Int ⊕ (Bool ⊕ Unit))
  | t10_1 => (if t10_1 < (2 : Int) then if 0 ≤ t7_0 ∧ t7_0 < (3 : Int) then if 0 ≤ t10_1 ∧ t10_1 < (2 : Int) then if 0 ≤ t7_0 ∧ t7_0 < (3 : Int) then if 0 ≤ t10_1 ∧ t10_1 < (2 : Int) then (g_law_sameTable (vrd (vrd a0.Tables t7_0.toNat) t10_1.toNat) (vrd (vrd b1.Tables t7_0.toNat) t10_1.toNat)).bind fun r'1 => (if (!r'1) = true then some (.inr (.inl false)) else some (.inl (w64 (t10_1 + (1 : Int))))) else none else none else none else none else some (.inr (.inr ())))
noncomputable def g_law_sameState_l0 (a0 : GState) (b1 : GState) : Int → Option (Int ⊕ (Bool ⊕ Unit))
  | t7_0 => (if t7_0 < (3 : Int) then (loopO (g_law_sameState_l1 a0 b1 t7_0) (0 : Int)).bind fun o'5 => match o'5 with | .inl y'6 => some (.inr (.inl y'6)) | .inr (y'7) => some (.inl (w64 (t7_0 + (1 : Int)))) else some (.inr (.inr ())))
noncomputable def g_law_sameState (a0 : GState) (b1 : GState) : Option (Bool) :=
  (loopO (g_law_sameState_l0 a0 b1) (0 : Int)).bind fun o'11 => match o'11 with | .inl y'12 => some y'12 | .inr (y'13) => (g_law_sameGrants a0.Grants b1.Grants).bind fun r'14 => some (decide ((r'14 = true) ∧ (a0.Asked = b1.Asked)))
set_option maxHeartbeats 4000000 in
set_option maxRecDepth 100000 in
theorem g_law_sameState_ac {a0 : GState} {b1 : GState} {r : Bool} (H : g_law_sameState a0 b1 = some r) : ACp Try.prog 46 [(.agg (GState.cs a0)), (.agg (GState.cs b1))] (AV.bool r) := by
  refine ACp_of (AC2_of_body (vs := [.b r]) Try.func46 rfl rfl (Nat.le_of_ble_eq_true rfl) rfl ?_) (fun _ => .same _)
  unfold g_law_sameState at H
  refine as2 [(0, .g (GState.cs a0)), (1, .g (GState.cs b1))] [] rfl rfl rfl ?_
  refine sg [0, 1, 2] rfl ?_
  refine r_op rfl rfl (MakeD.opD (n_box 2 rfl rfl) rfl rfl rfl rfl) ?_
  refine r_op rfl rfl (MakeD.opD (n_box 3 rfl rfl) rfl rfl rfl rfl) ?_
  refine rp rfl rfl (p_asg rfl rfl) ?_
  refine rz [(2, .q 2 (0)), (3, .q 3 (0))] [(2, .pure (GState.cs a0)), (3, .pure (GState.cs b1))] rfl rfl rfl ?_
  refine AW2_seq ?_
  refine sg [0] rfl ?_
  refine rp rfl rfl (p_move rfl rfl) ?_
  refine rz [(2, .q 2 (0)), (3, .q 3 (0)), (7, .i (0 : Int))] [(2, .pure (GState.cs a0)), (3, .pure (GState.cs b1))] rfl rfl rfl ?_
  refine AW2_block ?_
  refine as2 [(2, .q 2 (0)), (3, .q 3 (0)), (7, .i (0 : Int))] [(2, .pure (GState.cs a0)), (3, .pure (GState.cs b1))] rfl rfl rfl ?_
  refine bindK H fun o'11 h10 H => ?_
  refine AW2_loopO (fun a'8 : Int => (⟨[(2, .q 2 (0)), (3, .q 3 (0)), (7, .i a'8)], [(2, .pure (GState.cs a0)), (3, .pure (GState.cs b1))], 41⟩ : TS)) (fun (o : Bool ⊕ Unit) e s' => match o with | .inl y'9 => e = Go.Exit.ret ∧ ResAll Try.prog s' [ResultVar.tmp 4] [.b y'9] ∧ HFits s' [] | .inr (y'10) => e = Go.Exit.exit 0 ∧ s' = (⟨[(2, .q 2 (0)), (3, .q 3 (0))], [(2, .pure (GState.cs a0)), (3, .pure (GState.cs b1))], 41⟩ : TS)) h10 rfl (fun t7_0 x hx => ?_) (fun e s' hs => ?_)
  · clear H
    have H := hx
    clear hx
    unfold g_law_sameState_l0 at H
    refine sg [0] rfl ?_
    refine rp rfl rfl (p_bin rfl rfl rfl rfl) ?_
    refine rz [(2, .q 2 (0)), (3, .q 3 (0)), (7, .i t7_0), (8, .b (decide (t7_0 < (3 : Int))))] [(2, .pure (GState.cs a0)), (3, .pure (GState.cs b1))] rfl rfl rfl ?_
    refine AW2_seq ?_
    refine AW2_if (p := t7_0 < (3 : Int)) rfl (fun h1 => ?_) (fun h1 => ?_)
    · replace H := ite_then h1 H
      refine as2 [(2, .q 2 (0)), (3, .q 3 (0)), (7, .i t7_0)] [(2, .pure (GState.cs a0)), (3, .pure (GState.cs b1))] rfl rfl rfl ?_
      refine AW2_skip ?_
      refine AW2_seq ?_
      refine AW2_block ?_
      refine sg [0, 1] rfl ?_
      refine rp rfl rfl (p_move rfl rfl) ?_
      refine rp rfl rfl (p_asg rfl rfl) ?_
      refine rz [(2, .q 2 (0)), (3, .q 3 (0)), (5, .i t7_0), (7, .i t7_0)] [(2, .pure (GState.cs a0)), (3, .pure (GState.cs b1))] rfl rfl rfl ?_
      refine sg [0] rfl ?_
      refine rp rfl rfl (p_move rfl rfl) ?_
      refine rz [(2, .q 2 (0)), (3, .q 3 (0)), (5, .i t7_0), (7, .i t7_0), (10, .i (0 : Int))] [(2, .pure (GState.cs a0)), (3, .pure (GState.cs b1))] rfl rfl rfl ?_
      refine AW2_block ?_
      refine as2 [(2, .q 2 (0)), (3, .q 3 (0)), (5, .i t7_0), (7, .i t7_0), (10, .i (0 : Int))] [(2, .pure (GState.cs a0)), (3, .pure (GState.cs b1))] rfl rfl rfl ?_
      refine bindK H fun o'5 h9 H => ?_
      refine AW2_loopO (fun a'2 : Int => (⟨[(2, .q 2 (0)), (3, .q 3 (0)), (5, .i t7_0), (7, .i t7_0), (10, .i a'2)], [(2, .pure (GState.cs a0)), (3, .pure (GState.cs b1))], 41⟩ : TS)) (fun (o : Bool ⊕ Unit) e s' => match o with | .inl y'3 => e = Go.Exit.ret ∧ ResAll Try.prog s' [ResultVar.tmp 4] [.b y'3] ∧ HFits s' [] | .inr (y'4) => e = Go.Exit.exit 2 ∧ s' = (⟨[(2, .q 2 (0)), (3, .q 3 (0)), (7, .i t7_0)], [(2, .pure (GState.cs a0)), (3, .pure (GState.cs b1))], 41⟩ : TS)) h9 rfl (fun t10_1 x hx => ?_) (fun e s' hs => ?_)
      · clear H
        have H := hx
        clear hx
        unfold g_law_sameState_l1 at H
        refine sg [0] rfl ?_
        refine rp rfl rfl (p_bin rfl rfl rfl rfl) ?_
        refine rz [(2, .q 2 (0)), (3, .q 3 (0)), (5, .i t7_0), (7, .i t7_0), (10, .i t10_1), (11, .b (decide (t10_1 < (2 : Int))))] [(2, .pure (GState.cs a0)), (3, .pure (GState.cs b1))] rfl rfl rfl ?_
        refine AW2_seq ?_
        refine AW2_if (p := t10_1 < (2 : Int)) rfl (fun h2 => ?_) (fun h2 => ?_)
        · replace H := ite_then h2 H
          refine as2 [(2, .q 2 (0)), (3, .q 3 (0)), (5, .i t7_0), (7, .i t7_0), (10, .i t10_1)] [(2, .pure (GState.cs a0)), (3, .pure (GState.cs b1))] rfl rfl rfl ?_
          refine AW2_skip ?_
          refine AW2_seq ?_
          refine AW2_block ?_
          refine sg [0, 1] rfl ?_
          refine rp rfl rfl (p_move rfl rfl) ?_
          refine rp rfl rfl (p_asg rfl rfl) ?_
          refine rz [(2, .q 2 (0)), (3, .q 3 (0)), (5, .i t7_0), (6, .i t10_1), (7, .i t7_0), (10, .i t10_1)] [(2, .pure (GState.cs a0)), (3, .pure (GState.cs b1))] rfl rfl rfl ?_
          refine AW2_seq ?_
          refine chkK H fun h3 H => ?_
          refine chkK H fun h4 H => ?_
          refine chkK H fun h5 H => ?_
          refine chkK H fun h6 H => ?_
          refine bindK H fun r'1 h7 H => ?_
          refine AW2_ghoQ ?_
          refine AW2_draw 12 [12, 13] (fun k => ([.i t7_0, .i t10_1, .q 2 (0 + 0), .q 2 (0 + 0 + t7_0.toNat * 38), .q 2 (0 + 0 + t7_0.toNat * 38 + t10_1.toNat * 19), .g (GTable.cs (vrd (vrd a0.Tables t7_0.toNat) t10_1.toNat)), .i t7_0, .i t10_1, .q 3 (0 + 0), .q 3 (0 + 0 + t7_0.toNat * 38), .q 3 (0 + 0 + t7_0.toNat * 38 + t10_1.toNat * 19), .g (GTable.cs (vrd (vrd b1.Tables t7_0.toNat) t10_1.toNat))] : List TV).getD k TV.any) (fun k => ([[(5, none)], [(6, none)], [(2, none)], [(13, some 0), (15, some 2)], [(14, some 1), (16, some 3)], [(17, some 4)], [(5, none)], [(6, none)], [(3, none)], [(19, some 6), (21, some 8)], [(20, some 7), (22, some 9)], [(23, some 10)]] : List (List (Nat × Option Nat))).getD k []) [(2, none), (3, none), (5, none), (7, none), (10, none), (18, some 5), (24, some 11)] [] (fun k => ([[], [], [], [0, 2], [0, 1, 2, 3], [0, 1, 2, 3, 4], [], [], [], [6, 8], [6, 7, 8, 9], [6, 7, 8, 9, 10], [0, 1, 2, 3, 4, 5, 6, 7, 8, 9, 10, 11], [0, 1, 2, 3, 4, 5, 6, 7, 8, 9, 10, 11, 12]] : List (List Nat)).getD k []) mixed (by kernel_rfl) rfl rfl (a_op (g_x rfl (x_p rfl (p_move rfl rfl) rfl)) (a_op (g_x rfl (x_p rfl (p_move rfl rfl) rfl)) (a_op (g_x rfl (x_p rfl (u_fa rfl rfl Try.underlying62 rfl in_58 (Nat.succ_ne_zero _) rfl rfl (ne_of_lt (n := 0) (Nat.lt_of_lt_of_eq (by decide) (Eq.symm (GState.len a0))))) rfl)) (a_op (g_x rfl (x_p rfl (u_ixp rfl rfl Try.underlying58 in_57 rfl rfl (ne_of_lt (n := 0) (Nat.lt_of_lt_of_eq (by decide) (Eq.symm (GState.len a0)))) rfl (ixe h3) (ixn h3)) rfl)) (a_op (g_x rfl (x_p rfl (u_ixp rfl rfl Try.underlying57 in_56 rfl rfl (ne_of_lt (n := 0) (Nat.lt_of_lt_of_eq (by decide) (Eq.symm (GState.len a0)))) rfl (ixe h4) (ixn h4)) rfl)) (a_op (g_x rfl (x_p rfl (u_lda rfl rfl Try.underlying56 rfl in_56 rfl (Nat.succ_pos _) ((((Sub.refl _).trans (GState.sub0 a0)).trans (Sub.vfm (fun x => (vfm_len (fun x => (GTable.len x)) x)) (ixn h3))).trans (Sub.vfm (fun x => (GTable.len x)) (ixn h4))) (GTable.len (vrd (vrd a0.Tables t7_0.toNat) t10_1.toNat))) rfl)) (a_op (g_x rfl (x_p rfl (p_move rfl rfl) rfl)) (a_op (g_x rfl (x_p rfl (p_move rfl rfl) rfl)) (a_op (g_x rfl (x_p rfl (u_fa rfl rfl Try.underlying62 rfl in_58 (Nat.succ_ne_zero _) rfl rfl (ne_of_lt (n := 0) (Nat.lt_of_lt_of_eq (by decide) (Eq.symm (GState.len b1))))) rfl)) (a_op (g_x rfl (x_p rfl (u_ixp rfl rfl Try.underlying58 in_57 rfl rfl (ne_of_lt (n := 0) (Nat.lt_of_lt_of_eq (by decide) (Eq.symm (GState.len b1)))) rfl (ixe h5) (ixn h5)) rfl)) (a_op (g_x rfl (x_p rfl (u_ixp rfl rfl Try.underlying57 in_56 rfl rfl (ne_of_lt (n := 0) (Nat.lt_of_lt_of_eq (by decide) (Eq.symm (GState.len b1)))) rfl (ixe h6) (ixn h6)) rfl)) (a_op (g_x rfl (x_p rfl (u_lda rfl rfl Try.underlying56 rfl in_56 rfl (Nat.succ_pos _) ((((Sub.refl _).trans (GState.sub0 b1)).trans (Sub.vfm (fun x => (vfm_len (fun x => (GTable.len x)) x)) (ixn h5))).trans (Sub.vfm (fun x => (GTable.len x)) (ixn h6))) (GTable.len (vrd (vrd b1.Tables t7_0.toNat) t10_1.toNat))) rfl)) (a_nil))))))))))))) ?_
          refine t_op rfl rfl (PureD.opD (p_callp rfl rfl rfl Try.func50 rfl rfl (g_law_sameTable_ac h7) ⟨rfl, rfl, trivial⟩)) ?_
          refine t_op rfl rfl (PureD.opD (p_not rfl rfl)) ?_
          refine t_gho (Gho_st (L := [(2, .q 2 (0)), (3, .q 3 (0)), (5, .i t7_0), (7, .i t7_0), (10, .i t10_1), (26, .b (!r'1))]) (H := [(2, .pure (GState.cs a0)), (3, .pure (GState.cs b1))]) (N := 41) rfl ⟨TLes.same _, TLes.same _, TLes.same _, TLes.same _, TLes.same _, TLes.same _, trivial⟩ ⟨rfl, rfl, trivial⟩) ?_
          refine AW2_cond rfl (fun h8 => ?_) (fun h8 => ?_)
          · replace H := ite_then h8 H
            refine sg [0] rfl ?_
            refine rp rfl rfl (p_asg rfl rfl) ?_
            refine rz [(4, .b false)] [] rfl rfl rfl ?_
            refine AW2_ret ?_
            have hz := some_elim H
            subst hz
            exact ⟨rfl, ⟨res_tmp (.same _), trivial⟩, trivial⟩
          · replace H := ite_else (ne_true h8) H
            refine as2 [(2, .q 2 (0)), (3, .q 3 (0)), (5, .i t7_0), (7, .i t7_0), (10, .i t10_1)] [(2, .pure (GState.cs a0)), (3, .pure (GState.cs b1))] rfl rfl rfl ?_
            refine AW2_skip ?_
            refine AW2_reg [0, 1] rfl ?_
            refine rp rfl rfl (p_bin rfl rfl rfl rfl) ?_
            refine rp rfl rfl (p_move rfl rfl) ?_
            refine rz [(2, .q 2 (0)), (3, .q 3 (0)), (5, .i t7_0), (7, .i t7_0), (10, .i (w64 (t10_1 + (1 : Int))))] [(2, .pure (GState.cs a0)), (3, .pure (GState.cs b1))] rfl rfl rfl ?_
            have hz := some_elim H
            subst hz
            exact ⟨rfl, rfl⟩
        · replace H := ite_else h2 H
          refine as2 [(2, .q 2 (0)), (3, .q 3 (0)), (7, .i t7_0)] [(2, .pure (GState.cs a0)), (3, .pure (GState.cs b1))] rfl rfl rfl ?_
          refine AW2_exit ?_
          refine thenQ2_exit ?_
          have hz := some_elim H
          subst hz
          exact ⟨rfl, rfl⟩
      · rcases o'5 with y'6 | y'7
        · obtain ⟨rfl, hs⟩ := hs
          refine ⟨by simp, ?_⟩
          have hz := some_elim H
          subst hz
          exact ⟨rfl, hs.1, hs.2⟩
        · obtain ⟨rfl, rfl⟩ := hs
          refine ⟨by simp, ?_⟩
          refine blockQ2_exit ?_
          refine AW2_reg [0, 1] rfl ?_
          refine rp rfl rfl (p_bin rfl rfl rfl rfl) ?_
          refine rp rfl rfl (p_move rfl rfl) ?_
          refine rz [(2, .q 2 (0)), (3, .q 3 (0)), (7, .i (w64 (t7_0 + (1 : Int))))] [(2, .pure (GState.cs a0)), (3, .pure (GState.cs b1))] rfl rfl rfl ?_
          have hz := some_elim H
          subst hz
          exact ⟨rfl, rfl⟩
    · replace H := ite_else h1 H
      refine as2 [(2, .q 2 (0)), (3, .q 3 (0))] [(2, .pure (GState.cs a0)), (3, .pure (GState.cs b1))] rfl rfl rfl ?_
      refine AW2_exit ?_
      refine thenQ2_exit ?_
      have hz := some_elim H
      subst hz
      exact ⟨rfl, rfl⟩
  · rcases o'11 with y'12 | y'13
    · obtain ⟨rfl, hs⟩ := hs
      refine ⟨by simp, ?_⟩
      have hz := some_elim H
      subst hz
      exact ⟨hs.1, hs.2⟩
    · obtain ⟨rfl, rfl⟩ := hs
      refine ⟨by simp, ?_⟩
      refine blockQ2_exit ?_
      refine AW2_seq ?_
      refine bindK H fun r'14 h11 H => ?_
      refine AW2_mid (⟨[(4, .b (decide ((r'14 = true) ∧ (a0.Asked = b1.Asked))))], [], 41⟩ : TS) ?_ ?_
      · refine AW2_reg [0, 1, 2, 3, 4, 5, 6, 7, 8, 9, 10, 11, 12] rfl ?_
        refine rp rfl rfl (u_fa rfl rfl Try.underlying62 rfl in_59 (Nat.succ_ne_zero _) rfl rfl (ne_of_lt (n := 0) (Nat.lt_of_lt_of_eq (by decide) (Eq.symm (GState.len a0))))) ?_
        refine rp rfl rfl (u_ld rfl rfl Try.underlying59 rfl rfl ((Sub.refl _).trans (GState.sub1 a0))) ?_
        refine rp rfl rfl (u_fa rfl rfl Try.underlying62 rfl in_59 (Nat.succ_ne_zero _) rfl rfl (ne_of_lt (n := 0) (Nat.lt_of_lt_of_eq (by decide) (Eq.symm (GState.len b1))))) ?_
        refine rp rfl rfl (u_ld rfl rfl Try.underlying59 rfl rfl ((Sub.refl _).trans (GState.sub1 b1))) ?_
        refine rp rfl rfl (p_callp rfl rfl rfl Try.func51 rfl rfl (g_law_sameGrants_ac h11) ⟨rfl, rfl, trivial⟩) ?_
        refine rp rfl rfl (p_move rfl rfl) ?_
        refine (Classical.em (r'14 = true)).elim (fun h12 => ?_) (fun h12 => ?_)
        · refine rn rfl rfl rfl rfl h12 rfl (u_fa rfl rfl Try.underlying62 rfl in_60 (Nat.succ_ne_zero _) rfl rfl (ne_of_lt (n := 0) (Nat.lt_of_lt_of_eq (by decide) (Eq.symm (GState.len a0))))) ?_
          refine rn rfl rfl rfl rfl h12 rfl (u_lda rfl rfl Try.underlying60 rfl in_60 rfl (Nat.succ_pos _) ((Sub.refl _).trans (GState.sub2 a0)) (vmap_len (f := AV.int) a0.Asked)) ?_
          refine rn rfl rfl rfl rfl h12 rfl (u_fa rfl rfl Try.underlying62 rfl in_60 (Nat.succ_ne_zero _) rfl rfl (ne_of_lt (n := 0) (Nat.lt_of_lt_of_eq (by decide) (Eq.symm (GState.len b1))))) ?_
          refine rn rfl rfl rfl rfl h12 rfl (u_lda rfl rfl Try.underlying60 rfl in_60 rfl (Nat.succ_pos _) ((Sub.refl _).trans (GState.sub2 b1)) (vmap_len (f := AV.int) b1.Asked)) ?_
          refine rn rfl rfl rfl rfl h12 rfl (p_eqa (a := a0.Asked) (b := b1.Asked) rfl eq_60 rfl (by kernel_rfl) rfl rfl) ?_
          refine rp rfl rfl (p_pkt rfl rfl h12 (tb ((and_l (p := r'14 = true) (q := a0.Asked = b1.Asked) h12)))) ?_
          refine rp rfl rfl (p_asg rfl rfl) ?_
          refine rs [(4, .b (decide ((r'14 = true) ∧ (a0.Asked = b1.Asked))))] [] rfl rfl rfl ?_
          exact RunW_nil rfl
        · refine r_off rfl rfl rfl rfl (bfalse h12) rfl rfl ?_
          refine r_off rfl rfl rfl rfl (bfalse h12) rfl rfl ?_
          refine r_off rfl rfl rfl rfl (bfalse h12) rfl rfl ?_
          refine r_off rfl rfl rfl rfl (bfalse h12) rfl rfl ?_
          refine r_off rfl rfl rfl rfl (bfalse h12) rfl rfl ?_
          refine rp rfl rfl (p_pkf rfl rfl (bfalse h12) (tb (decide_eq_false (p := (r'14 = true) ∧ (a0.Asked = b1.Asked)) (fun x => h12 x.1)).symm)) ?_
          refine rp rfl rfl (p_asg rfl rfl) ?_
          refine rs [(4, .b (decide ((r'14 = true) ∧ (a0.Asked = b1.Asked))))] [] rfl rfl rfl ?_
          exact RunW_nil rfl
      · refine AW2_ret ?_
        have hz := some_elim H
        subst hz
        exact ⟨⟨res_tmp (.same _), trivial⟩, trivial⟩

/-! chirographlaw.sameLists -/
noncomputable def g_law_sameLists_l0 (a0 : List (List UInt8)) (b1 : List (List UInt8)) : Int → Option (Int ⊕ (Bool ⊕ Unit))
  | t13_0 => (if t13_0 < (a0.length : Int) then if 0 ≤ t13_0 ∧ t13_0 < (a0.length : Int) then if 0 ≤ t13_0 ∧ t13_0 < (b1.length : Int) then (if (lrd a0 t13_0.toNat) ≠ (lrd b1 t13_0.toNat) then some (.inr (.inl false)) else some (.inl (w64 (t13_0 + (1 : Int))))) else none else none else some (.inr (.inr ())))
noncomputable def g_law_sameLists (a0 : List (List UInt8)) (b1 : List (List UInt8)) : Option (Bool) :=
  (if (a0.length : Int) ≠ (b1.length : Int) then some false else (loopO (g_law_sameLists_l0 a0 b1) (0 : Int)).bind fun o'4 => match o'4 with | .inl y'5 => some y'5 | .inr (y'6) => some true)
set_option maxHeartbeats 4000000 in
set_option maxRecDepth 100000 in
theorem g_law_sameLists_ac {a0 : List (List UInt8)} {b1 : List (List UInt8)} {r : Bool} (H : g_law_sameLists a0 b1 = some r) : ACp Try.prog 23 [(AV.lists a0), (AV.lists b1)] (AV.bool r) := by
  refine ACp_of (AC2_of_body (vs := [.b r]) Try.func23 rfl rfl (Nat.le_of_ble_eq_true rfl) rfl ?_) (fun _ => .same _)
  unfold g_law_sameLists at H
  refine as2 [(0, .p (AV.lists a0)), (1, .p (AV.lists b1))] [] rfl rfl rfl ?_
  refine sg [0] rfl ?_
  refine rp rfl rfl (p_asg rfl rfl) ?_
  refine rz [(0, .p (AV.lists a0)), (1, .p (AV.lists b1))] [] rfl rfl rfl ?_
  refine AW2_seq ?_
  refine sg [0, 1, 2, 3, 4] rfl ?_
  refine rp rfl rfl (p_move rfl rfl) ?_
  refine rp rfl rfl (p_lenl rfl Try.underlying40 rfl rfl) ?_
  refine rp rfl rfl (p_move rfl rfl) ?_
  refine rp rfl rfl (p_lenl rfl Try.underlying40 rfl rfl) ?_
  refine rp rfl rfl (p_ine rfl rfl rfl) ?_
  refine rz [(0, .p (AV.lists a0)), (1, .p (AV.lists b1)), (10, .b (decide ((a0.length : Int) ≠ (b1.length : Int))))] [] rfl rfl rfl ?_
  refine AW2_if (p := (a0.length : Int) ≠ (b1.length : Int)) rfl (fun h1 => ?_) (fun h1 => ?_)
  · replace H := ite_then h1 H
    refine sg [0] rfl ?_
    refine rp rfl rfl (p_asg rfl rfl) ?_
    refine rz [(4, .b false)] [] rfl rfl rfl ?_
    refine AW2_ret ?_
    have hz := some_elim H
    subst hz
    exact ⟨⟨res_tmp (.same _), trivial⟩, trivial⟩
  · replace H := ite_else h1 H
    refine as2 [(0, .p (AV.lists a0)), (1, .p (AV.lists b1))] [] rfl rfl rfl ?_
    refine AW2_skip ?_
    refine AW2_seq ?_
    refine sg [0, 1, 2] rfl ?_
    refine rp rfl rfl (p_move rfl rfl) ?_
    refine rp rfl rfl (p_lenl rfl Try.underlying40 rfl rfl) ?_
    refine rp rfl rfl (p_move rfl rfl) ?_
    refine rz [(0, .p (AV.lists a0)), (1, .p (AV.lists b1)), (12, .i (a0.length : Int)), (13, .i (0 : Int))] [] rfl rfl rfl ?_
    refine AW2_block ?_
    refine as2 [(0, .p (AV.lists a0)), (1, .p (AV.lists b1)), (12, .i (a0.length : Int)), (13, .i (0 : Int))] [] rfl rfl rfl ?_
    refine bindK H fun o'4 h6 H => ?_
    refine AW2_loopO (fun a'1 : Int => (⟨[(0, .p (AV.lists a0)), (1, .p (AV.lists b1)), (12, .i (a0.length : Int)), (13, .i a'1)], [], 28⟩ : TS)) (fun (o : Bool ⊕ Unit) e s' => match o with | .inl y'2 => e = Go.Exit.ret ∧ ResAll Try.prog s' [ResultVar.tmp 4] [.b y'2] ∧ HFits s' [] | .inr (y'3) => e = Go.Exit.exit 0 ∧ s' = (⟨[], [], 28⟩ : TS)) h6 rfl (fun t13_0 x hx => ?_) (fun e s' hs => ?_)
    · clear H
      have H := hx
      clear hx
      unfold g_law_sameLists_l0 at H
      refine sg [0] rfl ?_
      refine rp rfl rfl (p_bin rfl rfl rfl rfl) ?_
      refine rz [(0, .p (AV.lists a0)), (1, .p (AV.lists b1)), (12, .i (a0.length : Int)), (13, .i t13_0), (14, .b (decide (t13_0 < (a0.length : Int))))] [] rfl rfl rfl ?_
      refine AW2_seq ?_
      refine AW2_if (p := t13_0 < (a0.length : Int)) rfl (fun h2 => ?_) (fun h2 => ?_)
      · replace H := ite_then h2 H
        refine as2 [(0, .p (AV.lists a0)), (1, .p (AV.lists b1)), (12, .i (a0.length : Int)), (13, .i t13_0)] [] rfl rfl rfl ?_
        refine AW2_skip ?_
        refine AW2_seq ?_
        refine AW2_block ?_
        refine sg [0, 1] rfl ?_
        refine rp rfl rfl (p_move rfl rfl) ?_
        refine rp rfl rfl (p_asg rfl rfl) ?_
        refine rz [(0, .p (AV.lists a0)), (1, .p (AV.lists b1)), (5, .i t13_0), (12, .i (a0.length : Int)), (13, .i t13_0)] [] rfl rfl rfl ?_
        refine AW2_seq ?_
        refine chkK H fun h3 H => ?_
        refine chkK H fun h4 H => ?_
        refine AW2_ghoQ ?_
        refine AW2_draw 10 [10] (fun k => ([.p (AV.lists a0), .i t13_0, .p (.rptr (a0.map AV.bytes) (t13_0.toNat * 1)), .y (lrd a0 t13_0.toNat), .t (lrd a0 t13_0.toNat), .p (AV.lists b1), .i t13_0, .p (.rptr (b1.map AV.bytes) (t13_0.toNat * 1)), .y (lrd b1 t13_0.toNat), .t (lrd b1 t13_0.toNat)] : List TV).getD k TV.any) (fun k => ([[(0, none)], [(5, none)], [(16, some 0), (17, some 1)], [(18, some 2)], [(19, some 3)], [(1, none)], [(5, none)], [(21, some 5), (22, some 6)], [(23, some 7)], [(24, some 8)]] : List (List (Nat × Option Nat))).getD k []) [(0, none), (1, none), (12, none), (13, none), (20, some 4), (25, some 9)] [] (fun k => ([[], [], [0, 1], [0, 1, 2], [0, 1, 2, 3], [], [], [5, 6], [5, 6, 7], [5, 6, 7, 8], [0, 1, 2, 3, 4, 5, 6, 7, 8, 9]] : List (List Nat)).getD k []) mixed (by kernel_rfl) rfl rfl (a_op (g_x rfl (x_p rfl (p_move rfl rfl) rfl)) (a_op (g_x rfl (x_p rfl (p_move rfl rfl) rfl)) (a_op (g_x rfl (x_p rfl (u_ixl rfl rfl Try.underlying40 in_45 rfl rfl (ixe h3) (ixn h3) (lne (ixn h3))) rfl)) (a_op (g_x rfl (x_p rfl (u_ld rfl rfl Try.underlying45 rfl rfl (Sub.map default (ixn h3))) rfl)) (a_op (g_x rfl (x_p rfl (p_cb rfl rfl Try.underlying45 Try.underlying5 Try.underlying9 rfl) rfl)) (a_op (g_x rfl (x_p rfl (p_move rfl rfl) rfl)) (a_op (g_x rfl (x_p rfl (p_move rfl rfl) rfl)) (a_op (g_x rfl (x_p rfl (u_ixl rfl rfl Try.underlying40 in_45 rfl rfl (ixe h4) (ixn h4) (lne (ixn h4))) rfl)) (a_op (g_x rfl (x_p rfl (u_ld rfl rfl Try.underlying45 rfl rfl (Sub.map default (ixn h4))) rfl)) (a_op (g_x rfl (x_p rfl (p_cb rfl rfl Try.underlying45 Try.underlying5 Try.underlying9 rfl) rfl)) (a_nil))))))))))) ?_
        refine t_op rfl rfl (PureD.opD (p_sne rfl rfl rfl)) ?_
        refine t_gho (Gho_st (L := [(0, .p (AV.lists a0)), (1, .p (AV.lists b1)), (12, .i (a0.length : Int)), (13, .i t13_0), (26, .b (decide ((lrd a0 t13_0.toNat) ≠ (lrd b1 t13_0.toNat))))]) (H := []) (N := 28) rfl ⟨TLes.same _, TLes.same _, TLes.same _, TLes.same _, TLes.same _, trivial⟩ trivial) ?_
        refine AW2_if (p := (lrd a0 t13_0.toNat) ≠ (lrd b1 t13_0.toNat)) rfl (fun h5 => ?_) (fun h5 => ?_)
        · replace H := ite_then h5 H
          refine sg [0] rfl ?_
          refine rp rfl rfl (p_asg rfl rfl) ?_
          refine rz [(4, .b false)] [] rfl rfl rfl ?_
          refine AW2_ret ?_
          have hz := some_elim H
          subst hz
          exact ⟨rfl, ⟨res_tmp (.same _), trivial⟩, trivial⟩
        · replace H := ite_else h5 H
          refine as2 [(0, .p (AV.lists a0)), (1, .p (AV.lists b1)), (12, .i (a0.length : Int)), (13, .i t13_0)] [] rfl rfl rfl ?_
          refine AW2_skip ?_
          refine AW2_reg [0, 1] rfl ?_
          refine rp rfl rfl (p_bin rfl rfl rfl rfl) ?_
          refine rp rfl rfl (p_move rfl rfl) ?_
          refine rz [(0, .p (AV.lists a0)), (1, .p (AV.lists b1)), (12, .i (a0.length : Int)), (13, .i (w64 (t13_0 + (1 : Int))))] [] rfl rfl rfl ?_
          have hz := some_elim H
          subst hz
          exact ⟨rfl, rfl⟩
      · replace H := ite_else h2 H
        refine as2 [] [] rfl rfl rfl ?_
        refine AW2_exit ?_
        refine thenQ2_exit ?_
        have hz := some_elim H
        subst hz
        exact ⟨rfl, rfl⟩
    · rcases o'4 with y'5 | y'6
      · obtain ⟨rfl, hs⟩ := hs
        refine ⟨by simp, ?_⟩
        have hz := some_elim H
        subst hz
        exact ⟨hs.1, hs.2⟩
      · obtain ⟨rfl, rfl⟩ := hs
        refine ⟨by simp, ?_⟩
        refine blockQ2_exit ?_
        refine sg [0] rfl ?_
        refine rp rfl rfl (p_asg rfl rfl) ?_
        refine rz [(4, .b true)] [] rfl rfl rfl ?_
        refine AW2_ret ?_
        have hz := some_elim H
        subst hz
        exact ⟨⟨res_tmp (.same _), trivial⟩, trivial⟩

/-! chirographlaw.sameDisk -/
noncomputable def g_law_sameDisk_l0 (a0 : GDisk) (b1 : GDisk) : Int → Option (Int ⊕ (Bool ⊕ Unit))
  | t26_0 => (if t26_0 < (a0.Lasts.length : Int) then if 0 ≤ t26_0 ∧ t26_0 < (a0.Lasts.length : Int) then if 0 ≤ t26_0 ∧ t26_0 < (b1.Lasts.length : Int) then (if (lrd a0.Lasts t26_0.toNat) ≠ (lrd b1.Lasts t26_0.toNat) then some (.inr (.inl false)) else some (.inl (w64 (t26_0 + (1 : Int))))) else none else none else some (.inr (.inr ())))
noncomputable def g_law_sameDisk_l1 (a0 : GDisk) (b1 : GDisk) : Int → Option (Int ⊕ (Bool ⊕ Unit))
  | t44_1 => (if t44_1 < (a0.Writes.length : Int) then if 0 ≤ t44_1 ∧ t44_1 < (a0.Writes.length : Int) then if 0 ≤ t44_1 ∧ t44_1 < (b1.Writes.length : Int) then (if (lrd a0.Writes t44_1.toNat) ≠ (lrd b1.Writes t44_1.toNat) then some (.inr (.inl false)) else some (.inl (w64 (t44_1 + (1 : Int))))) else none else none else some (.inr (.inr ())))
noncomputable def g_law_sameDisk (a0 : GDisk) (b1 : GDisk) : Option (Bool) :=
  (if ((a0.Lasts.length : Int) ≠ (b1.Lasts.length : Int)) ∨ ((a0.Writes.length : Int) ≠ (b1.Writes.length : Int)) then some false else (loopO (g_law_sameDisk_l0 a0 b1) (0 : Int)).bind fun o'4 => match o'4 with | .inl y'5 => some y'5 | .inr (y'6) => (loopO (g_law_sameDisk_l1 a0 b1) (0 : Int)).bind fun o'10 => match o'10 with | .inl y'11 => some y'11 | .inr (y'12) => some true)
set_option maxHeartbeats 4000000 in
set_option maxRecDepth 100000 in
theorem g_law_sameDisk_ac {a0 : GDisk} {b1 : GDisk} {r : Bool} (H : g_law_sameDisk a0 b1 = some r) : ACp Try.prog 13 [(.agg (GDisk.cs a0)), (.agg (GDisk.cs b1))] (AV.bool r) := by
  refine ACp_of (AC2_of_body (vs := [.b r]) Try.func13 rfl rfl (Nat.le_of_ble_eq_true rfl) rfl ?_) (fun _ => .same _)
  unfold g_law_sameDisk at H
  refine as2 [(0, .g (GDisk.cs a0)), (1, .g (GDisk.cs b1))] [] rfl rfl rfl ?_
  refine sg [0, 1, 2] rfl ?_
  refine r_op rfl rfl (MakeD.opD (n_box 2 rfl rfl) rfl rfl rfl rfl) ?_
  refine r_op rfl rfl (MakeD.opD (n_box 3 rfl rfl) rfl rfl rfl rfl) ?_
  refine rp rfl rfl (p_asg rfl rfl) ?_
  refine rz [(2, .q 2 (0)), (3, .q 3 (0))] [(2, .pure (GDisk.cs a0)), (3, .pure (GDisk.cs b1))] rfl rfl rfl ?_
  refine AW2_seq ?_
  refine AW2_seq ?_
  refine AW2_mid (⟨[(2, .q 2 (0)), (3, .q 3 (0)), (22, .b (decide (((a0.Lasts.length : Int) ≠ (b1.Lasts.length : Int)) ∨ ((a0.Writes.length : Int) ≠ (b1.Writes.length : Int)))))], [(2, .pure (GDisk.cs a0)), (3, .pure (GDisk.cs b1))], 59⟩ : TS) ?_ ?_
  · refine AW2_reg [0, 1, 2, 3, 4, 5, 6, 7, 8, 9, 10, 11, 12, 13, 14, 15] rfl ?_
    refine rp rfl rfl (u_fa rfl rfl Try.underlying25 rfl in_22 (Nat.succ_ne_zero _) rfl rfl (ne_of_lt (n := 0) (Nat.lt_of_lt_of_eq (by decide) (Eq.symm (GDisk.len a0))))) ?_
    refine rp rfl rfl (u_ld rfl rfl Try.underlying22 rfl rfl ((Sub.refl _).trans (GDisk.sub0 a0))) ?_
    refine rp rfl rfl (p_lenl rfl Try.underlying22 rfl rfl) ?_
    refine rp rfl rfl (u_fa rfl rfl Try.underlying25 rfl in_22 (Nat.succ_ne_zero _) rfl rfl (ne_of_lt (n := 0) (Nat.lt_of_lt_of_eq (by decide) (Eq.symm (GDisk.len b1))))) ?_
    refine rp rfl rfl (u_ld rfl rfl Try.underlying22 rfl rfl ((Sub.refl _).trans (GDisk.sub0 b1))) ?_
    refine rp rfl rfl (p_lenl rfl Try.underlying22 rfl rfl) ?_
    refine rp rfl rfl (p_ine rfl rfl rfl) ?_
    refine rp rfl rfl (p_move rfl rfl) ?_
    refine (Classical.em ((a0.Lasts.length : Int) ≠ (b1.Lasts.length : Int))).elim (fun h1 => ?_) (fun h1 => ?_)
    · refine r_off rfl rfl rfl rfl (decide_eq_true (p := (a0.Lasts.length : Int) ≠ (b1.Lasts.length : Int)) h1) rfl rfl ?_
      refine r_off rfl rfl rfl rfl (decide_eq_true (p := (a0.Lasts.length : Int) ≠ (b1.Lasts.length : Int)) h1) rfl rfl ?_
      refine r_off rfl rfl rfl rfl (decide_eq_true (p := (a0.Lasts.length : Int) ≠ (b1.Lasts.length : Int)) h1) rfl rfl ?_
      refine r_off rfl rfl rfl rfl (decide_eq_true (p := (a0.Lasts.length : Int) ≠ (b1.Lasts.length : Int)) h1) rfl rfl ?_
      refine r_off rfl rfl rfl rfl (decide_eq_true (p := (a0.Lasts.length : Int) ≠ (b1.Lasts.length : Int)) h1) rfl rfl ?_
      refine r_off rfl rfl rfl rfl (decide_eq_true (p := (a0.Lasts.length : Int) ≠ (b1.Lasts.length : Int)) h1) rfl rfl ?_
      refine r_off rfl rfl rfl rfl (decide_eq_true (p := (a0.Lasts.length : Int) ≠ (b1.Lasts.length : Int)) h1) rfl rfl ?_
      refine rp rfl rfl (p_pkt rfl rfl (decide_eq_true (p := (a0.Lasts.length : Int) ≠ (b1.Lasts.length : Int)) h1) (tb (decide_eq_true (p := ((a0.Lasts.length : Int) ≠ (b1.Lasts.length : Int)) ∨ ((a0.Writes.length : Int) ≠ (b1.Writes.length : Int))) (Or.inl h1)).symm)) ?_
      refine rs [(2, .q 2 (0)), (3, .q 3 (0)), (22, .b (decide (((a0.Lasts.length : Int) ≠ (b1.Lasts.length : Int)) ∨ ((a0.Writes.length : Int) ≠ (b1.Writes.length : Int)))))] [(2, .pure (GDisk.cs a0)), (3, .pure (GDisk.cs b1))] rfl rfl rfl ?_
      exact RunW_nil rfl
    · refine r_on rfl rfl rfl rfl (decide_eq_false (p := (a0.Lasts.length : Int) ≠ (b1.Lasts.length : Int)) h1) rfl (PureD.opD (u_fa rfl rfl Try.underlying25 rfl in_23 (Nat.succ_ne_zero _) rfl rfl (ne_of_lt (n := 0) (Nat.lt_of_lt_of_eq (by decide) (Eq.symm (GDisk.len a0)))))) ?_
      refine r_on rfl rfl rfl rfl (decide_eq_false (p := (a0.Lasts.length : Int) ≠ (b1.Lasts.length : Int)) h1) rfl (PureD.opD (u_ld rfl rfl Try.underlying23 rfl rfl ((Sub.refl _).trans (GDisk.sub1 a0)))) ?_
      refine r_on rfl rfl rfl rfl (decide_eq_false (p := (a0.Lasts.length : Int) ≠ (b1.Lasts.length : Int)) h1) rfl (PureD.opD (p_lenl rfl Try.underlying23 rfl rfl)) ?_
      refine r_on rfl rfl rfl rfl (decide_eq_false (p := (a0.Lasts.length : Int) ≠ (b1.Lasts.length : Int)) h1) rfl (PureD.opD (u_fa rfl rfl Try.underlying25 rfl in_23 (Nat.succ_ne_zero _) rfl rfl (ne_of_lt (n := 0) (Nat.lt_of_lt_of_eq (by decide) (Eq.symm (GDisk.len b1)))))) ?_
      refine r_on rfl rfl rfl rfl (decide_eq_false (p := (a0.Lasts.length : Int) ≠ (b1.Lasts.length : Int)) h1) rfl (PureD.opD (u_ld rfl rfl Try.underlying23 rfl rfl ((Sub.refl _).trans (GDisk.sub1 b1)))) ?_
      refine r_on rfl rfl rfl rfl (decide_eq_false (p := (a0.Lasts.length : Int) ≠ (b1.Lasts.length : Int)) h1) rfl (PureD.opD (p_lenl rfl Try.underlying23 rfl rfl)) ?_
      refine r_on rfl rfl rfl rfl (decide_eq_false (p := (a0.Lasts.length : Int) ≠ (b1.Lasts.length : Int)) h1) rfl (PureD.opD (p_ine rfl rfl rfl)) ?_
      refine rp rfl rfl (p_pkf rfl rfl (decide_eq_false (p := (a0.Lasts.length : Int) ≠ (b1.Lasts.length : Int)) h1) (tb ((or_l (p := (a0.Lasts.length : Int) ≠ (b1.Lasts.length : Int)) (q := (a0.Writes.length : Int) ≠ (b1.Writes.length : Int)) h1)))) ?_
      refine rs [(2, .q 2 (0)), (3, .q 3 (0)), (22, .b (decide (((a0.Lasts.length : Int) ≠ (b1.Lasts.length : Int)) ∨ ((a0.Writes.length : Int) ≠ (b1.Writes.length : Int)))))] [(2, .pure (GDisk.cs a0)), (3, .pure (GDisk.cs b1))] rfl rfl rfl ?_
      exact RunW_nil rfl
  · refine AW2_if (p := ((a0.Lasts.length : Int) ≠ (b1.Lasts.length : Int)) ∨ ((a0.Writes.length : Int) ≠ (b1.Writes.length : Int))) rfl (fun h2 => ?_) (fun h2 => ?_)
    · replace H := ite_then h2 H
      refine sg [0] rfl ?_
      refine rp rfl rfl (p_asg rfl rfl) ?_
      refine rz [(4, .b false)] [] rfl rfl rfl ?_
      refine AW2_ret ?_
      have hz := some_elim H
      subst hz
      exact ⟨⟨res_tmp (.same _), trivial⟩, trivial⟩
    · replace H := ite_else h2 H
      refine as2 [(2, .q 2 (0)), (3, .q 3 (0))] [(2, .pure (GDisk.cs a0)), (3, .pure (GDisk.cs b1))] rfl rfl rfl ?_
      refine AW2_skip ?_
      refine AW2_seq ?_
      refine sg [0, 1, 2, 3] rfl ?_
      refine rp rfl rfl (u_fa rfl rfl Try.underlying25 rfl in_22 (Nat.succ_ne_zero _) rfl rfl (ne_of_lt (n := 0) (Nat.lt_of_lt_of_eq (by decide) (Eq.symm (GDisk.len a0))))) ?_
      refine rp rfl rfl (u_ld rfl rfl Try.underlying22 rfl rfl ((Sub.refl _).trans (GDisk.sub0 a0))) ?_
      refine rp rfl rfl (p_lenl rfl Try.underlying22 rfl rfl) ?_
      refine rp rfl rfl (p_move rfl rfl) ?_
      refine rz [(2, .q 2 (0)), (3, .q 3 (0)), (25, .i (a0.Lasts.length : Int)), (26, .i (0 : Int))] [(2, .pure (GDisk.cs a0)), (3, .pure (GDisk.cs b1))] rfl rfl rfl ?_
      refine AW2_block ?_
      refine as2 [(2, .q 2 (0)), (3, .q 3 (0)), (25, .i (a0.Lasts.length : Int)), (26, .i (0 : Int))] [(2, .pure (GDisk.cs a0)), (3, .pure (GDisk.cs b1))] rfl rfl rfl ?_
      refine bindK H fun o'4 h7 H => ?_
      refine AW2_loopO (fun a'1 : Int => (⟨[(2, .q 2 (0)), (3, .q 3 (0)), (25, .i (a0.Lasts.length : Int)), (26, .i a'1)], [(2, .pure (GDisk.cs a0)), (3, .pure (GDisk.cs b1))], 59⟩ : TS)) (fun (o : Bool ⊕ Unit) e s' => match o with | .inl y'2 => e = Go.Exit.ret ∧ ResAll Try.prog s' [ResultVar.tmp 4] [.b y'2] ∧ HFits s' [] | .inr (y'3) => e = Go.Exit.exit 0 ∧ s' = (⟨[(2, .q 2 (0)), (3, .q 3 (0))], [(2, .pure (GDisk.cs a0)), (3, .pure (GDisk.cs b1))], 59⟩ : TS)) h7 rfl (fun t26_0 x hx => ?_) (fun e s' hs => ?_)
      · clear H
        have H := hx
        clear hx
        unfold g_law_sameDisk_l0 at H
        refine sg [0] rfl ?_
        refine rp rfl rfl (p_bin rfl rfl rfl rfl) ?_
        refine rz [(2, .q 2 (0)), (3, .q 3 (0)), (25, .i (a0.Lasts.length : Int)), (26, .i t26_0), (27, .b (decide (t26_0 < (a0.Lasts.length : Int))))] [(2, .pure (GDisk.cs a0)), (3, .pure (GDisk.cs b1))] rfl rfl rfl ?_
        refine AW2_seq ?_
        refine AW2_if (p := t26_0 < (a0.Lasts.length : Int)) rfl (fun h3 => ?_) (fun h3 => ?_)
        · replace H := ite_then h3 H
          refine as2 [(2, .q 2 (0)), (3, .q 3 (0)), (25, .i (a0.Lasts.length : Int)), (26, .i t26_0)] [(2, .pure (GDisk.cs a0)), (3, .pure (GDisk.cs b1))] rfl rfl rfl ?_
          refine AW2_skip ?_
          refine AW2_seq ?_
          refine AW2_block ?_
          refine sg [0, 1] rfl ?_
          refine rp rfl rfl (p_move rfl rfl) ?_
          refine rp rfl rfl (p_asg rfl rfl) ?_
          refine rz [(2, .q 2 (0)), (3, .q 3 (0)), (5, .i t26_0), (25, .i (a0.Lasts.length : Int)), (26, .i t26_0)] [(2, .pure (GDisk.cs a0)), (3, .pure (GDisk.cs b1))] rfl rfl rfl ?_
          refine AW2_seq ?_
          refine chkK H fun h4 H => ?_
          refine chkK H fun h5 H => ?_
          refine AW2_ghoQ ?_
          refine AW2_draw 10 [10] (fun k => ([.q 2 (0 + 0), .p ((fun q : List (Vector UInt8 32) => AV.lst (q.flatMap (fun v : Vector UInt8 32 => bcells v.toList)) q.length) a0.Lasts), .i t26_0, .p (.rptr (a0.Lasts.flatMap (fun v : Vector UInt8 32 => bcells v.toList)) (t26_0.toNat * 32)), .g (bcells ((lrd a0.Lasts t26_0.toNat).toList)), .q 3 (0 + 0), .p ((fun q : List (Vector UInt8 32) => AV.lst (q.flatMap (fun v : Vector UInt8 32 => bcells v.toList)) q.length) b1.Lasts), .i t26_0, .p (.rptr (b1.Lasts.flatMap (fun v : Vector UInt8 32 => bcells v.toList)) (t26_0.toNat * 32)), .g (bcells ((lrd b1.Lasts t26_0.toNat).toList))] : List TV).getD k TV.any) (fun k => ([[(2, none)], [(29, some 0)], [(5, none)], [(30, some 1), (31, some 2)], [(32, some 3)], [(3, none)], [(34, some 5)], [(5, none)], [(35, some 6), (36, some 7)], [(37, some 8)]] : List (List (Nat × Option Nat))).getD k []) [(2, none), (3, none), (25, none), (26, none), (33, some 4), (38, some 9)] [] (fun k => ([[], [0], [], [0, 1, 2], [0, 1, 2, 3], [], [5], [], [5, 6, 7], [5, 6, 7, 8], [0, 1, 2, 3, 4, 5, 6, 7, 8, 9]] : List (List Nat)).getD k []) mixed (by kernel_rfl) rfl rfl (a_op (g_x rfl (x_p rfl (u_fa rfl rfl Try.underlying25 rfl in_22 (Nat.succ_ne_zero _) rfl rfl (ne_of_lt (n := 0) (Nat.lt_of_lt_of_eq (by decide) (Eq.symm (GDisk.len a0))))) rfl)) (a_op (g_x rfl (x_p rfl (u_ld rfl rfl Try.underlying22 rfl rfl ((Sub.refl _).trans (GDisk.sub0 a0))) rfl)) (a_op (g_x rfl (x_p rfl (p_move rfl rfl) rfl)) (a_op (g_x rfl (x_p rfl (u_ixl rfl rfl Try.underlying22 in_32 rfl rfl (ixe h4) (ixn h4) (fne (fun x => ((bcells_length _).trans (vlen x))) (by decide) (ixn h4))) rfl)) (a_op (g_x rfl (x_p rfl (u_lda rfl rfl Try.underlying32 rfl in_32 rfl (Nat.succ_pos _) (Sub.fm default (fun x => ((bcells_length _).trans (vlen x))) (ixn h4)) ((bcells_length _).trans (vlen (lrd a0.Lasts t26_0.toNat)))) rfl)) (a_op (g_x rfl (x_p rfl (u_fa rfl rfl Try.underlying25 rfl in_22 (Nat.succ_ne_zero _) rfl rfl (ne_of_lt (n := 0) (Nat.lt_of_lt_of_eq (by decide) (Eq.symm (GDisk.len b1))))) rfl)) (a_op (g_x rfl (x_p rfl (u_ld rfl rfl Try.underlying22 rfl rfl ((Sub.refl _).trans (GDisk.sub0 b1))) rfl)) (a_op (g_x rfl (x_p rfl (p_move rfl rfl) rfl)) (a_op (g_x rfl (x_p rfl (u_ixl rfl rfl Try.underlying22 in_32 rfl rfl (ixe h5) (ixn h5) (fne (fun x => ((bcells_length _).trans (vlen x))) (by decide) (ixn h5))) rfl)) (a_op (g_x rfl (x_p rfl (u_lda rfl rfl Try.underlying32 rfl in_32 rfl (Nat.succ_pos _) (Sub.fm default (fun x => ((bcells_length _).trans (vlen x))) (ixn h5)) ((bcells_length _).trans (vlen (lrd b1.Lasts t26_0.toNat)))) rfl)) (a_nil))))))))))) ?_
          refine t_op rfl rfl (PureD.opD (p_nea (a := (lrd a0.Lasts t26_0.toNat)) (b := (lrd b1.Lasts t26_0.toNat)) rfl eq_32 rfl (by kernel_rfl) rfl rfl)) ?_
          refine t_gho (Gho_st (L := [(2, .q 2 (0)), (3, .q 3 (0)), (25, .i (a0.Lasts.length : Int)), (26, .i t26_0), (39, .b (decide ((lrd a0.Lasts t26_0.toNat) ≠ (lrd b1.Lasts t26_0.toNat))))]) (H := [(2, .pure (GDisk.cs a0)), (3, .pure (GDisk.cs b1))]) (N := 59) rfl ⟨TLes.same _, TLes.same _, TLes.same _, TLes.same _, TLes.same _, trivial⟩ ⟨rfl, rfl, trivial⟩) ?_
          refine AW2_if (p := (lrd a0.Lasts t26_0.toNat) ≠ (lrd b1.Lasts t26_0.toNat)) rfl (fun h6 => ?_) (fun h6 => ?_)
          · replace H := ite_then h6 H
            refine sg [0] rfl ?_
            refine rp rfl rfl (p_asg rfl rfl) ?_
            refine rz [(4, .b false)] [] rfl rfl rfl ?_
            refine AW2_ret ?_
            have hz := some_elim H
            subst hz
            exact ⟨rfl, ⟨res_tmp (.same _), trivial⟩, trivial⟩
          · replace H := ite_else h6 H
            refine as2 [(2, .q 2 (0)), (3, .q 3 (0)), (25, .i (a0.Lasts.length : Int)), (26, .i t26_0)] [(2, .pure (GDisk.cs a0)), (3, .pure (GDisk.cs b1))] rfl rfl rfl ?_
            refine AW2_skip ?_
            refine AW2_reg [0, 1] rfl ?_
            refine rp rfl rfl (p_bin rfl rfl rfl rfl) ?_
            refine rp rfl rfl (p_move rfl rfl) ?_
            refine rz [(2, .q 2 (0)), (3, .q 3 (0)), (25, .i (a0.Lasts.length : Int)), (26, .i (w64 (t26_0 + (1 : Int))))] [(2, .pure (GDisk.cs a0)), (3, .pure (GDisk.cs b1))] rfl rfl rfl ?_
            have hz := some_elim H
            subst hz
            exact ⟨rfl, rfl⟩
        · replace H := ite_else h3 H
          refine as2 [(2, .q 2 (0)), (3, .q 3 (0))] [(2, .pure (GDisk.cs a0)), (3, .pure (GDisk.cs b1))] rfl rfl rfl ?_
          refine AW2_exit ?_
          refine thenQ2_exit ?_
          have hz := some_elim H
          subst hz
          exact ⟨rfl, rfl⟩
      · rcases o'4 with y'5 | y'6
        · obtain ⟨rfl, hs⟩ := hs
          refine ⟨by simp, ?_⟩
          have hz := some_elim H
          subst hz
          exact ⟨hs.1, hs.2⟩
        · obtain ⟨rfl, rfl⟩ := hs
          refine ⟨by simp, ?_⟩
          refine blockQ2_exit ?_
          refine AW2_seq ?_
          refine sg [0, 1, 2, 3] rfl ?_
          refine rp rfl rfl (u_fa rfl rfl Try.underlying25 rfl in_23 (Nat.succ_ne_zero _) rfl rfl (ne_of_lt (n := 0) (Nat.lt_of_lt_of_eq (by decide) (Eq.symm (GDisk.len a0))))) ?_
          refine rp rfl rfl (u_ld rfl rfl Try.underlying23 rfl rfl ((Sub.refl _).trans (GDisk.sub1 a0))) ?_
          refine rp rfl rfl (p_lenl rfl Try.underlying23 rfl rfl) ?_
          refine rp rfl rfl (p_move rfl rfl) ?_
          refine rz [(2, .q 2 (0)), (3, .q 3 (0)), (43, .i (a0.Writes.length : Int)), (44, .i (0 : Int))] [(2, .pure (GDisk.cs a0)), (3, .pure (GDisk.cs b1))] rfl rfl rfl ?_
          refine AW2_block ?_
          refine as2 [(2, .q 2 (0)), (3, .q 3 (0)), (43, .i (a0.Writes.length : Int)), (44, .i (0 : Int))] [(2, .pure (GDisk.cs a0)), (3, .pure (GDisk.cs b1))] rfl rfl rfl ?_
          refine bindK H fun o'10 h12 H => ?_
          refine AW2_loopO (fun a'7 : Int => (⟨[(2, .q 2 (0)), (3, .q 3 (0)), (43, .i (a0.Writes.length : Int)), (44, .i a'7)], [(2, .pure (GDisk.cs a0)), (3, .pure (GDisk.cs b1))], 59⟩ : TS)) (fun (o : Bool ⊕ Unit) e s' => match o with | .inl y'8 => e = Go.Exit.ret ∧ ResAll Try.prog s' [ResultVar.tmp 4] [.b y'8] ∧ HFits s' [] | .inr (y'9) => e = Go.Exit.exit 2 ∧ s' = (⟨[], [], 59⟩ : TS)) h12 rfl (fun t44_1 x hx => ?_) (fun e s' hs => ?_)
          · clear H
            have H := hx
            clear hx
            unfold g_law_sameDisk_l1 at H
            refine sg [0] rfl ?_
            refine rp rfl rfl (p_bin rfl rfl rfl rfl) ?_
            refine rz [(2, .q 2 (0)), (3, .q 3 (0)), (43, .i (a0.Writes.length : Int)), (44, .i t44_1), (45, .b (decide (t44_1 < (a0.Writes.length : Int))))] [(2, .pure (GDisk.cs a0)), (3, .pure (GDisk.cs b1))] rfl rfl rfl ?_
            refine AW2_seq ?_
            refine AW2_if (p := t44_1 < (a0.Writes.length : Int)) rfl (fun h8 => ?_) (fun h8 => ?_)
            · replace H := ite_then h8 H
              refine as2 [(2, .q 2 (0)), (3, .q 3 (0)), (43, .i (a0.Writes.length : Int)), (44, .i t44_1)] [(2, .pure (GDisk.cs a0)), (3, .pure (GDisk.cs b1))] rfl rfl rfl ?_
              refine AW2_skip ?_
              refine AW2_seq ?_
              refine AW2_block ?_
              refine sg [0, 1] rfl ?_
              refine rp rfl rfl (p_move rfl rfl) ?_
              refine rp rfl rfl (p_asg rfl rfl) ?_
              refine rz [(2, .q 2 (0)), (3, .q 3 (0)), (6, .i t44_1), (43, .i (a0.Writes.length : Int)), (44, .i t44_1)] [(2, .pure (GDisk.cs a0)), (3, .pure (GDisk.cs b1))] rfl rfl rfl ?_
              refine AW2_seq ?_
              refine chkK H fun h9 H => ?_
              refine chkK H fun h10 H => ?_
              refine AW2_ghoQ ?_
              refine AW2_draw 10 [10] (fun k => ([.q 2 (0 + 1), .p ((fun q : List GPut => AV.lst (q.flatMap GPut.cs) q.length) a0.Writes), .i t44_1, .p (.rptr (a0.Writes.flatMap GPut.cs) (t44_1.toNat * 33)), .g (GPut.cs (lrd a0.Writes t44_1.toNat)), .q 3 (0 + 1), .p ((fun q : List GPut => AV.lst (q.flatMap GPut.cs) q.length) b1.Writes), .i t44_1, .p (.rptr (b1.Writes.flatMap GPut.cs) (t44_1.toNat * 33)), .g (GPut.cs (lrd b1.Writes t44_1.toNat))] : List TV).getD k TV.any) (fun k => ([[(2, none)], [(47, some 0)], [(6, none)], [(48, some 1), (49, some 2)], [(50, some 3)], [(3, none)], [(52, some 5)], [(6, none)], [(53, some 6), (54, some 7)], [(55, some 8)]] : List (List (Nat × Option Nat))).getD k []) [(2, none), (3, none), (43, none), (44, none), (51, some 4), (56, some 9)] [] (fun k => ([[], [0], [], [0, 1, 2], [0, 1, 2, 3], [], [5], [], [5, 6, 7], [5, 6, 7, 8], [0, 1, 2, 3, 4, 5, 6, 7, 8, 9]] : List (List Nat)).getD k []) mixed (by kernel_rfl) rfl rfl (a_op (g_x rfl (x_p rfl (u_fa rfl rfl Try.underlying25 rfl in_23 (Nat.succ_ne_zero _) rfl rfl (ne_of_lt (n := 0) (Nat.lt_of_lt_of_eq (by decide) (Eq.symm (GDisk.len a0))))) rfl)) (a_op (g_x rfl (x_p rfl (u_ld rfl rfl Try.underlying23 rfl rfl ((Sub.refl _).trans (GDisk.sub1 a0))) rfl)) (a_op (g_x rfl (x_p rfl (p_move rfl rfl) rfl)) (a_op (g_x rfl (x_p rfl (u_ixl rfl rfl Try.underlying23 in_70 rfl rfl (ixe h9) (ixn h9) (fne (fun x => (GPut.len x)) (by decide) (ixn h9))) rfl)) (a_op (g_x rfl (x_p rfl (u_lda rfl rfl Try.underlying70 rfl in_70 rfl (Nat.succ_pos _) (Sub.fm default (fun x => (GPut.len x)) (ixn h9)) (GPut.len (lrd a0.Writes t44_1.toNat))) rfl)) (a_op (g_x rfl (x_p rfl (u_fa rfl rfl Try.underlying25 rfl in_23 (Nat.succ_ne_zero _) rfl rfl (ne_of_lt (n := 0) (Nat.lt_of_lt_of_eq (by decide) (Eq.symm (GDisk.len b1))))) rfl)) (a_op (g_x rfl (x_p rfl (u_ld rfl rfl Try.underlying23 rfl rfl ((Sub.refl _).trans (GDisk.sub1 b1))) rfl)) (a_op (g_x rfl (x_p rfl (p_move rfl rfl) rfl)) (a_op (g_x rfl (x_p rfl (u_ixl rfl rfl Try.underlying23 in_70 rfl rfl (ixe h10) (ixn h10) (fne (fun x => (GPut.len x)) (by decide) (ixn h10))) rfl)) (a_op (g_x rfl (x_p rfl (u_lda rfl rfl Try.underlying70 rfl in_70 rfl (Nat.succ_pos _) (Sub.fm default (fun x => (GPut.len x)) (ixn h10)) (GPut.len (lrd b1.Writes t44_1.toNat))) rfl)) (a_nil))))))))))) ?_
              refine t_op rfl rfl (PureD.opD (p_nea (a := (lrd a0.Writes t44_1.toNat)) (b := (lrd b1.Writes t44_1.toNat)) rfl eq_70 rfl (by kernel_rfl) rfl rfl)) ?_
              refine t_gho (Gho_st (L := [(2, .q 2 (0)), (3, .q 3 (0)), (43, .i (a0.Writes.length : Int)), (44, .i t44_1), (57, .b (decide ((lrd a0.Writes t44_1.toNat) ≠ (lrd b1.Writes t44_1.toNat))))]) (H := [(2, .pure (GDisk.cs a0)), (3, .pure (GDisk.cs b1))]) (N := 59) rfl ⟨TLes.same _, TLes.same _, TLes.same _, TLes.same _, TLes.same _, trivial⟩ ⟨rfl, rfl, trivial⟩) ?_
              refine AW2_if (p := (lrd a0.Writes t44_1.toNat) ≠ (lrd b1.Writes t44_1.toNat)) rfl (fun h11 => ?_) (fun h11 => ?_)
              · replace H := ite_then h11 H
                refine sg [0] rfl ?_
                refine rp rfl rfl (p_asg rfl rfl) ?_
                refine rz [(4, .b false)] [] rfl rfl rfl ?_
                refine AW2_ret ?_
                have hz := some_elim H
                subst hz
                exact ⟨rfl, ⟨res_tmp (.same _), trivial⟩, trivial⟩
              · replace H := ite_else h11 H
                refine as2 [(2, .q 2 (0)), (3, .q 3 (0)), (43, .i (a0.Writes.length : Int)), (44, .i t44_1)] [(2, .pure (GDisk.cs a0)), (3, .pure (GDisk.cs b1))] rfl rfl rfl ?_
                refine AW2_skip ?_
                refine AW2_reg [0, 1] rfl ?_
                refine rp rfl rfl (p_bin rfl rfl rfl rfl) ?_
                refine rp rfl rfl (p_move rfl rfl) ?_
                refine rz [(2, .q 2 (0)), (3, .q 3 (0)), (43, .i (a0.Writes.length : Int)), (44, .i (w64 (t44_1 + (1 : Int))))] [(2, .pure (GDisk.cs a0)), (3, .pure (GDisk.cs b1))] rfl rfl rfl ?_
                have hz := some_elim H
                subst hz
                exact ⟨rfl, rfl⟩
            · replace H := ite_else h8 H
              refine as2 [] [] rfl rfl rfl ?_
              refine AW2_exit ?_
              refine thenQ2_exit ?_
              have hz := some_elim H
              subst hz
              exact ⟨rfl, rfl⟩
          · rcases o'10 with y'11 | y'12
            · obtain ⟨rfl, hs⟩ := hs
              refine ⟨by simp, ?_⟩
              have hz := some_elim H
              subst hz
              exact ⟨hs.1, hs.2⟩
            · obtain ⟨rfl, rfl⟩ := hs
              refine ⟨by simp, ?_⟩
              refine blockQ2_exit ?_
              refine sg [0] rfl ?_
              refine rp rfl rfl (p_asg rfl rfl) ?_
              refine rz [(4, .b true)] [] rfl rfl rfl ?_
              refine AW2_ret ?_
              have hz := some_elim H
              subst hz
              exact ⟨⟨res_tmp (.same _), trivial⟩, trivial⟩

/-! chirographlaw.sameServer -/
noncomputable def g_law_sameServer (a0 : GServer) (b1 : GServer) : Option (Bool) :=
  ((if a0.Mode = b1.Mode then (g_law_sameBytes a0.Secret b1.Secret).bind fun r'2 => (if r'2 = true then (g_law_sameState a0.State b1.State).bind fun r'3 => (if r'3 = true then (g_law_sameLists a0.Roll b1.Roll).bind fun r'4 => (if r'4 = true then (g_law_sameDisk a0.Disk b1.Disk).bind fun r'5 => some r'5 else some false) else some false) else some false) else some false)).bind fun g'6 => some g'6
set_option maxHeartbeats 4000000 in
set_option maxRecDepth 100000 in
theorem g_law_sameServer_ac {a0 : GServer} {b1 : GServer} {r : Bool} (H : g_law_sameServer a0 b1 = some r) : ACp Try.prog 28 [(.agg (GServer.cs a0)), (.agg (GServer.cs b1))] (AV.bool r) := by
  refine ACp_of (AC2_of_body (vs := [.b r]) Try.func28 rfl rfl (Nat.le_of_ble_eq_true rfl) rfl ?_) (fun _ => .same _)
  unfold g_law_sameServer at H
  refine as2 [(0, .g (GServer.cs a0)), (1, .g (GServer.cs b1))] [] rfl rfl rfl ?_
  refine sg [0, 1, 2] rfl ?_
  refine r_op rfl rfl (MakeD.opD (n_box 2 rfl rfl) rfl rfl rfl rfl) ?_
  refine r_op rfl rfl (MakeD.opD (n_box 3 rfl rfl) rfl rfl rfl rfl) ?_
  refine rp rfl rfl (p_asg rfl rfl) ?_
  refine rz [(2, .q 2 (0)), (3, .q 3 (0))] [(2, .pure (GServer.cs a0)), (3, .pure (GServer.cs b1))] rfl rfl rfl ?_
  refine AW2_seq ?_
  refine bindK H fun g'6 h10 H => ?_
  refine AW2_mid (⟨[(4, .b g'6)], [], 38⟩ : TS) ?_ ?_
  · clear H
    have H := h10
    clear h10
    refine AW2_reg [0, 1, 2, 3, 4, 5, 6, 7, 8, 9, 10, 11, 12, 13, 14, 15, 16, 17, 18, 19, 20, 21, 22, 23, 24, 25, 26, 27, 28, 29, 30, 31, 32, 33] rfl ?_
    refine rp rfl rfl (u_fa rfl rfl Try.underlying64 rfl in_3 (Nat.succ_ne_zero _) rfl rfl (ne_of_lt (n := 0) (Nat.lt_of_lt_of_eq (by decide) (Eq.symm (GServer.len a0))))) ?_
    refine rp rfl rfl (u_ld rfl rfl Try.underlying3 rfl rfl ((Sub.refl _).trans (GServer.sub0 a0))) ?_
    refine rp rfl rfl (u_fa rfl rfl Try.underlying64 rfl in_3 (Nat.succ_ne_zero _) rfl rfl (ne_of_lt (n := 0) (Nat.lt_of_lt_of_eq (by decide) (Eq.symm (GServer.len b1))))) ?_
    refine rp rfl rfl (u_ld rfl rfl Try.underlying3 rfl rfl ((Sub.refl _).trans (GServer.sub0 b1))) ?_
    refine rp rfl rfl (p_ieq rfl rfl rfl) ?_
    refine rp rfl rfl (p_move rfl rfl) ?_
    refine (Classical.em (a0.Mode = b1.Mode)).elim (fun h2 => ?_) (fun h2 => ?_)
    · replace H := ite_then h2 H
      refine r_on rfl rfl rfl rfl (decide_eq_true (p := a0.Mode = b1.Mode) h2) rfl (PureD.opD (u_fa rfl rfl Try.underlying64 rfl in_45 (Nat.succ_ne_zero _) rfl rfl (ne_of_lt (n := 0) (Nat.lt_of_lt_of_eq (by decide) (Eq.symm (GServer.len a0)))))) ?_
      refine r_on rfl rfl rfl rfl (decide_eq_true (p := a0.Mode = b1.Mode) h2) rfl (PureD.opD (u_ld rfl rfl Try.underlying45 rfl rfl ((Sub.refl _).trans (GServer.sub1 a0)))) ?_
      refine r_on rfl rfl rfl rfl (decide_eq_true (p := a0.Mode = b1.Mode) h2) rfl (PureD.opD (u_fa rfl rfl Try.underlying64 rfl in_45 (Nat.succ_ne_zero _) rfl rfl (ne_of_lt (n := 0) (Nat.lt_of_lt_of_eq (by decide) (Eq.symm (GServer.len b1)))))) ?_
      refine r_on rfl rfl rfl rfl (decide_eq_true (p := a0.Mode = b1.Mode) h2) rfl (PureD.opD (u_ld rfl rfl Try.underlying45 rfl rfl ((Sub.refl _).trans (GServer.sub1 b1)))) ?_
      refine bindK H fun r'2 h3 H => ?_
      refine r_on rfl rfl rfl rfl (decide_eq_true (p := a0.Mode = b1.Mode) h2) rfl (PureD.opD (p_callp rfl rfl rfl Try.func45 rfl rfl (g_law_sameBytes_ac h3) ⟨rfl, rfl, trivial⟩)) ?_
      refine rp rfl rfl (p_pkt rfl rfl (decide_eq_true (p := a0.Mode = b1.Mode) h2) (.same _)) ?_
      refine rp rfl rfl (p_move rfl rfl) ?_
      refine (Classical.em (r'2 = true)).elim (fun h4 => ?_) (fun h4 => ?_)
      · replace H := ite_then h4 H
        refine rn rfl rfl rfl rfl h4 rfl (u_fa rfl rfl Try.underlying64 rfl in_62 (Nat.succ_ne_zero _) rfl rfl (ne_of_lt (n := 0) (Nat.lt_of_lt_of_eq (by decide) (Eq.symm (GServer.len a0))))) ?_
        refine rn rfl rfl rfl rfl h4 rfl (u_lda rfl rfl Try.underlying62 rfl in_62 rfl (Nat.succ_pos _) ((Sub.refl _).trans (GServer.sub2 a0)) (GState.len a0.State)) ?_
        refine rn rfl rfl rfl rfl h4 rfl (u_fa rfl rfl Try.underlying64 rfl in_62 (Nat.succ_ne_zero _) rfl rfl (ne_of_lt (n := 0) (Nat.lt_of_lt_of_eq (by decide) (Eq.symm (GServer.len b1))))) ?_
        refine rn rfl rfl rfl rfl h4 rfl (u_lda rfl rfl Try.underlying62 rfl in_62 rfl (Nat.succ_pos _) ((Sub.refl _).trans (GServer.sub2 b1)) (GState.len b1.State)) ?_
        refine bindK H fun r'3 h5 H => ?_
        refine rn rfl rfl rfl rfl h4 rfl (p_callp rfl rfl rfl Try.func46 rfl rfl (g_law_sameState_ac h5) ⟨rfl, rfl, trivial⟩) ?_
        refine rp rfl rfl (p_pkt rfl rfl h4 (.same _)) ?_
        refine rp rfl rfl (p_move rfl rfl) ?_
        refine (Classical.em (r'3 = true)).elim (fun h6 => ?_) (fun h6 => ?_)
        · replace H := ite_then h6 H
          refine rn rfl rfl rfl rfl h6 rfl (u_fa rfl rfl Try.underlying64 rfl in_40 (Nat.succ_ne_zero _) rfl rfl (ne_of_lt (n := 0) (Nat.lt_of_lt_of_eq (by decide) (Eq.symm (GServer.len a0))))) ?_
          refine rn rfl rfl rfl rfl h6 rfl (u_ld rfl rfl Try.underlying40 rfl rfl ((Sub.refl _).trans (GServer.sub3 a0))) ?_
          refine rn rfl rfl rfl rfl h6 rfl (u_fa rfl rfl Try.underlying64 rfl in_40 (Nat.succ_ne_zero _) rfl rfl (ne_of_lt (n := 0) (Nat.lt_of_lt_of_eq (by decide) (Eq.symm (GServer.len b1))))) ?_
          refine rn rfl rfl rfl rfl h6 rfl (u_ld rfl rfl Try.underlying40 rfl rfl ((Sub.refl _).trans (GServer.sub3 b1))) ?_
          refine bindK H fun r'4 h7 H => ?_
          refine rn rfl rfl rfl rfl h6 rfl (p_callp rfl rfl rfl Try.func23 rfl rfl (g_law_sameLists_ac h7) ⟨rfl, rfl, trivial⟩) ?_
          refine rp rfl rfl (p_pkt rfl rfl h6 (.same _)) ?_
          refine rp rfl rfl (p_move rfl rfl) ?_
          refine (Classical.em (r'4 = true)).elim (fun h8 => ?_) (fun h8 => ?_)
          · replace H := ite_then h8 H
            refine rn rfl rfl rfl rfl h8 rfl (u_fa rfl rfl Try.underlying64 rfl in_25 (Nat.succ_ne_zero _) rfl rfl (ne_of_lt (n := 0) (Nat.lt_of_lt_of_eq (by decide) (Eq.symm (GServer.len a0))))) ?_
            refine rn rfl rfl rfl rfl h8 rfl (u_lda rfl rfl Try.underlying25 rfl in_25 rfl (Nat.succ_pos _) ((Sub.refl _).trans (GServer.sub4 a0)) (GDisk.len a0.Disk)) ?_
            refine rn rfl rfl rfl rfl h8 rfl (u_fa rfl rfl Try.underlying64 rfl in_25 (Nat.succ_ne_zero _) rfl rfl (ne_of_lt (n := 0) (Nat.lt_of_lt_of_eq (by decide) (Eq.symm (GServer.len b1))))) ?_
            refine rn rfl rfl rfl rfl h8 rfl (u_lda rfl rfl Try.underlying25 rfl in_25 rfl (Nat.succ_pos _) ((Sub.refl _).trans (GServer.sub4 b1)) (GDisk.len b1.Disk)) ?_
            refine bindK H fun r'5 h9 H => ?_
            refine rn rfl rfl rfl rfl h8 rfl (p_callp rfl rfl rfl Try.func13 rfl rfl (g_law_sameDisk_ac h9) ⟨rfl, rfl, trivial⟩) ?_
            refine rp rfl rfl (p_pkt rfl rfl h8 (.same _)) ?_
            refine rp rfl rfl (p_asg rfl rfl) ?_
            refine rs [(4, .b r'5)] [] rfl rfl rfl ?_
            have hz := some_elim H
            subst hz
            exact RunW_nil rfl
          · replace H := ite_else h8 H
            refine r_off rfl rfl rfl rfl (bfalse h8) rfl rfl ?_
            refine r_off rfl rfl rfl rfl (bfalse h8) rfl rfl ?_
            refine r_off rfl rfl rfl rfl (bfalse h8) rfl rfl ?_
            refine r_off rfl rfl rfl rfl (bfalse h8) rfl rfl ?_
            refine r_off rfl rfl rfl rfl (bfalse h8) rfl rfl ?_
            refine rp rfl rfl (p_pkf rfl rfl (bfalse h8) (.same _)) ?_
            refine rp rfl rfl (p_asg rfl rfl) ?_
            refine rs [(4, .b false)] [] rfl rfl rfl ?_
            have hz := some_elim H
            subst hz
            exact RunW_nil rfl
        · replace H := ite_else h6 H
          refine r_off rfl rfl rfl rfl (bfalse h6) rfl rfl ?_
          refine r_off rfl rfl rfl rfl (bfalse h6) rfl rfl ?_
          refine r_off rfl rfl rfl rfl (bfalse h6) rfl rfl ?_
          refine r_off rfl rfl rfl rfl (bfalse h6) rfl rfl ?_
          refine r_off rfl rfl rfl rfl (bfalse h6) rfl rfl ?_
          refine rp rfl rfl (p_pkf rfl rfl (bfalse h6) (.same _)) ?_
          refine rp rfl rfl (p_move rfl rfl) ?_
          refine r_off rfl rfl rfl rfl (bfalse (by decide)) rfl rfl ?_
          refine r_off rfl rfl rfl rfl (bfalse (by decide)) rfl rfl ?_
          refine r_off rfl rfl rfl rfl (bfalse (by decide)) rfl rfl ?_
          refine r_off rfl rfl rfl rfl (bfalse (by decide)) rfl rfl ?_
          refine r_off rfl rfl rfl rfl (bfalse (by decide)) rfl rfl ?_
          refine rp rfl rfl (p_pkf rfl rfl (bfalse (by decide)) (.same _)) ?_
          refine rp rfl rfl (p_asg rfl rfl) ?_
          refine rs [(4, .b false)] [] rfl rfl rfl ?_
          have hz := some_elim H
          subst hz
          exact RunW_nil rfl
      · replace H := ite_else h4 H
        refine r_off rfl rfl rfl rfl (bfalse h4) rfl rfl ?_
        refine r_off rfl rfl rfl rfl (bfalse h4) rfl rfl ?_
        refine r_off rfl rfl rfl rfl (bfalse h4) rfl rfl ?_
        refine r_off rfl rfl rfl rfl (bfalse h4) rfl rfl ?_
        refine r_off rfl rfl rfl rfl (bfalse h4) rfl rfl ?_
        refine rp rfl rfl (p_pkf rfl rfl (bfalse h4) (.same _)) ?_
        refine rp rfl rfl (p_move rfl rfl) ?_
        refine r_off rfl rfl rfl rfl (bfalse (by decide)) rfl rfl ?_
        refine r_off rfl rfl rfl rfl (bfalse (by decide)) rfl rfl ?_
        refine r_off rfl rfl rfl rfl (bfalse (by decide)) rfl rfl ?_
        refine r_off rfl rfl rfl rfl (bfalse (by decide)) rfl rfl ?_
        refine r_off rfl rfl rfl rfl (bfalse (by decide)) rfl rfl ?_
        refine rp rfl rfl (p_pkf rfl rfl (bfalse (by decide)) (.same _)) ?_
        refine rp rfl rfl (p_move rfl rfl) ?_
        refine r_off rfl rfl rfl rfl (bfalse (by decide)) rfl rfl ?_
        refine r_off rfl rfl rfl rfl (bfalse (by decide)) rfl rfl ?_
        refine r_off rfl rfl rfl rfl (bfalse (by decide)) rfl rfl ?_
        refine r_off rfl rfl rfl rfl (bfalse (by decide)) rfl rfl ?_
        refine r_off rfl rfl rfl rfl (bfalse (by decide)) rfl rfl ?_
        refine rp rfl rfl (p_pkf rfl rfl (bfalse (by decide)) (.same _)) ?_
        refine rp rfl rfl (p_asg rfl rfl) ?_
        refine rs [(4, .b false)] [] rfl rfl rfl ?_
        have hz := some_elim H
        subst hz
        exact RunW_nil rfl
    · replace H := ite_else h2 H
      refine r_off rfl rfl rfl rfl (decide_eq_false (p := a0.Mode = b1.Mode) h2) rfl rfl ?_
      refine r_off rfl rfl rfl rfl (decide_eq_false (p := a0.Mode = b1.Mode) h2) rfl rfl ?_
      refine r_off rfl rfl rfl rfl (decide_eq_false (p := a0.Mode = b1.Mode) h2) rfl rfl ?_
      refine r_off rfl rfl rfl rfl (decide_eq_false (p := a0.Mode = b1.Mode) h2) rfl rfl ?_
      refine r_off rfl rfl rfl rfl (decide_eq_false (p := a0.Mode = b1.Mode) h2) rfl rfl ?_
      refine rp rfl rfl (p_pkf rfl rfl (decide_eq_false (p := a0.Mode = b1.Mode) h2) (.same _)) ?_
      refine rp rfl rfl (p_move rfl rfl) ?_
      refine r_off rfl rfl rfl rfl (bfalse (by decide)) rfl rfl ?_
      refine r_off rfl rfl rfl rfl (bfalse (by decide)) rfl rfl ?_
      refine r_off rfl rfl rfl rfl (bfalse (by decide)) rfl rfl ?_
      refine r_off rfl rfl rfl rfl (bfalse (by decide)) rfl rfl ?_
      refine r_off rfl rfl rfl rfl (bfalse (by decide)) rfl rfl ?_
      refine rp rfl rfl (p_pkf rfl rfl (bfalse (by decide)) (.same _)) ?_
      refine rp rfl rfl (p_move rfl rfl) ?_
      refine r_off rfl rfl rfl rfl (bfalse (by decide)) rfl rfl ?_
      refine r_off rfl rfl rfl rfl (bfalse (by decide)) rfl rfl ?_
      refine r_off rfl rfl rfl rfl (bfalse (by decide)) rfl rfl ?_
      refine r_off rfl rfl rfl rfl (bfalse (by decide)) rfl rfl ?_
      refine r_off rfl rfl rfl rfl (bfalse (by decide)) rfl rfl ?_
      refine rp rfl rfl (p_pkf rfl rfl (bfalse (by decide)) (.same _)) ?_
      refine rp rfl rfl (p_move rfl rfl) ?_
      refine r_off rfl rfl rfl rfl (bfalse (by decide)) rfl rfl ?_
      refine r_off rfl rfl rfl rfl (bfalse (by decide)) rfl rfl ?_
      refine r_off rfl rfl rfl rfl (bfalse (by decide)) rfl rfl ?_
      refine r_off rfl rfl rfl rfl (bfalse (by decide)) rfl rfl ?_
      refine r_off rfl rfl rfl rfl (bfalse (by decide)) rfl rfl ?_
      refine rp rfl rfl (p_pkf rfl rfl (bfalse (by decide)) (.same _)) ?_
      refine rp rfl rfl (p_asg rfl rfl) ?_
      refine rs [(4, .b false)] [] rfl rfl rfl ?_
      have hz := some_elim H
      subst hz
      exact RunW_nil rfl
  · refine AW2_ret ?_
    have hz := some_elim H
    subst hz
    exact ⟨⟨res_tmp (.same _), trivial⟩, trivial⟩

/-! chirographlaw.ServerStarts -/
noncomputable def g_law_ServerStarts (mode0 : Int) (secret1 : List UInt8) : Option (Bool) :=
  (g_server_Start mode0 secret1).bind fun r'1 => (g_ref_Started mode0 secret1).bind fun r'2 => ((if r'1.2 = r'2.2 then (g_law_sameServer r'1.1 r'2.1).bind fun r'4 => some r'4 else some false)).bind fun g'5 => some g'5
set_option maxHeartbeats 4000000 in
set_option maxRecDepth 100000 in
theorem g_law_ServerStarts_ac {mode0 : Int} {secret1 : List UInt8} {r : Bool} (H : g_law_ServerStarts mode0 secret1 = some r) : ACp Try.prog 9 [(AV.int mode0), (AV.bytes secret1)] (AV.bool r) := by
  refine ACp_of (AC2_of_body (vs := [.b r]) Try.func9 rfl rfl (Nat.le_of_ble_eq_true rfl) rfl ?_) (fun _ => .same _)
  unfold g_law_ServerStarts at H
  refine as2 [(0, .i mode0), (1, .y secret1)] [] rfl rfl rfl ?_
  refine sg [0] rfl ?_
  refine rp rfl rfl (p_asg rfl rfl) ?_
  refine rz [(0, .i mode0), (1, .y secret1)] [] rfl rfl rfl ?_
  refine sg [0, 1, 2, 3, 4, 5, 6, 7, 8] rfl ?_
  refine rp rfl rfl (p_move rfl rfl) ?_
  refine rp rfl rfl (p_move rfl rfl) ?_
  refine bindK H fun r'1 h1 H => ?_
  refine rp rfl rfl (p_callp rfl rfl rfl Try.func26 rfl rfl (g_server_Start_ac h1) ⟨rfl, rfl, trivial⟩) ?_
  refine rp rfl rfl (p_move rfl rfl) ?_
  refine rp rfl rfl (p_ext rfl rfl rfl rfl) ?_
  refine rp rfl rfl (p_ext rfl rfl rfl rfl) ?_
  refine r_op rfl rfl (MakeD.opD (u_alloc 5 rfl in_64 one_64 zc_64) rfl rfl rfl rfl) ?_
  refine r_op rfl rfl (u_st rfl rfl rfl rfl rfl in_64 (GServer.len r'1.1) (ne_of_lt (n := 0) (Nat.lt_of_lt_of_eq (by decide) (Eq.symm (GServer.len GServer.zero)))) (Upd.refl ((GServer.len r'1.1).trans (GServer.len GServer.zero).symm))) ?_
  refine rp rfl rfl (p_asg rfl rfl) ?_
  refine rz [(0, .i mode0), (1, .y secret1), (5, .q 5 (0)), (6, .i r'1.2)] [(5, .pure (GServer.cs r'1.1))] rfl rfl rfl ?_
  refine sg [0, 1, 2, 3, 4, 5, 6, 7, 8] rfl ?_
  refine rp rfl rfl (p_move rfl rfl) ?_
  refine rp rfl rfl (p_move rfl rfl) ?_
  refine bindK H fun r'2 h2 H => ?_
  refine rp rfl rfl (p_callp rfl rfl rfl Try.func27 rfl rfl (g_ref_Started_ac h2) ⟨rfl, rfl, trivial⟩) ?_
  refine rp rfl rfl (p_move rfl rfl) ?_
  refine rp rfl rfl (p_ext rfl rfl rfl rfl) ?_
  refine rp rfl rfl (p_ext rfl rfl rfl rfl) ?_
  refine r_op rfl rfl (MakeD.opD (u_alloc 7 rfl in_64 one_64 zc_64) rfl rfl rfl rfl) ?_
  refine r_op rfl rfl (u_st rfl rfl rfl rfl rfl in_64 (GServer.len r'2.1) (ne_of_lt (n := 0) (Nat.lt_of_lt_of_eq (by decide) (Eq.symm (GServer.len GServer.zero)))) (Upd.refl ((GServer.len r'2.1).trans (GServer.len GServer.zero).symm))) ?_
  refine rp rfl rfl (p_asg rfl rfl) ?_
  refine rz [(5, .q 5 (0)), (6, .i r'1.2), (7, .q 7 (0)), (8, .i r'2.2)] [(5, .pure (GServer.cs r'1.1)), (7, .pure (GServer.cs r'2.1))] rfl rfl rfl ?_
  refine AW2_seq ?_
  refine bindK H fun g'5 h6 H => ?_
  refine AW2_mid (⟨[(4, .b g'5)], [], 29⟩ : TS) ?_ ?_
  · clear H
    have H := h6
    clear h6
    refine AW2_reg [0, 1, 2, 3, 4, 5, 6, 7, 8] rfl ?_
    refine rp rfl rfl (p_move rfl rfl) ?_
    refine rp rfl rfl (p_move rfl rfl) ?_
    refine rp rfl rfl (p_ieq rfl rfl rfl) ?_
    refine rp rfl rfl (p_move rfl rfl) ?_
    refine (Classical.em (r'1.2 = r'2.2)).elim (fun h4 => ?_) (fun h4 => ?_)
    · replace H := ite_then h4 H
      refine r_on rfl rfl rfl rfl (decide_eq_true (p := r'1.2 = r'2.2) h4) rfl (PureD.opD (u_lda rfl rfl Try.underlying64 rfl in_64 rfl (Nat.succ_pos _) (Sub.refl _) (GServer.len r'1.1))) ?_
      refine r_on rfl rfl rfl rfl (decide_eq_true (p := r'1.2 = r'2.2) h4) rfl (PureD.opD (u_lda rfl rfl Try.underlying64 rfl in_64 rfl (Nat.succ_pos _) (Sub.refl _) (GServer.len r'2.1))) ?_
      refine bindK H fun r'4 h5 H => ?_
      refine r_on rfl rfl rfl rfl (decide_eq_true (p := r'1.2 = r'2.2) h4) rfl (PureD.opD (p_callp rfl rfl rfl Try.func28 rfl rfl (g_law_sameServer_ac h5) ⟨rfl, rfl, trivial⟩)) ?_
      refine rp rfl rfl (p_pkt rfl rfl (decide_eq_true (p := r'1.2 = r'2.2) h4) (.same _)) ?_
      refine rp rfl rfl (p_asg rfl rfl) ?_
      refine rs [(4, .b r'4)] [] rfl rfl rfl ?_
      have hz := some_elim H
      subst hz
      exact RunW_nil rfl
    · replace H := ite_else h4 H
      refine r_off rfl rfl rfl rfl (decide_eq_false (p := r'1.2 = r'2.2) h4) rfl rfl ?_
      refine r_off rfl rfl rfl rfl (decide_eq_false (p := r'1.2 = r'2.2) h4) rfl rfl ?_
      refine r_off rfl rfl rfl rfl (decide_eq_false (p := r'1.2 = r'2.2) h4) rfl rfl ?_
      refine rp rfl rfl (p_pkf rfl rfl (decide_eq_false (p := r'1.2 = r'2.2) h4) (.same _)) ?_
      refine rp rfl rfl (p_asg rfl rfl) ?_
      refine rs [(4, .b false)] [] rfl rfl rfl ?_
      have hz := some_elim H
      subst hz
      exact RunW_nil rfl
  · refine AW2_ret ?_
    have hz := some_elim H
    subst hz
    exact ⟨⟨res_tmp (.same _), trivial⟩, trivial⟩
end Go.Proofs.Ytglgdaeimfdpfaa.VM
