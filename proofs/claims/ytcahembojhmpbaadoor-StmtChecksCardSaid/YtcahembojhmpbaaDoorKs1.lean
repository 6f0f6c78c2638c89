/- Functions of the program, as they answer, and that their code comes to these answers. -/
import Derived.Test.YtcahembojhmpbaaDoorKs0
namespace Go.Proofs.YtcahembojhmpbaaDoor.VM
open Go Go.RowKit

structure GToken where
  Kind : Int
  Text : List UInt8
  Int_ : Int
  Bits : UInt64
deriving DecidableEq, Inhabited
def GToken.zero : GToken := ⟨(0 : Int), [], (0 : Int), (0 : UInt64)⟩
def GToken.cs (x : GToken) : List AV := ([(AV.int x.Kind)]) ++ (([(AV.txt x.Text)]) ++ (([(AV.int x.Int_)]) ++ ([(AV.u64 x.Bits)])))
theorem GToken.len (x : GToken) : (GToken.cs x).length = 4 := by
  simp only [GToken.cs, List.length_append]
  rw [show ([(AV.int x.Kind)]).length = 1 from (show ([(AV.int x.Kind)]).length = 1 from rfl), show ([(AV.txt x.Text)]).length = 1 from (show ([(AV.txt x.Text)]).length = 1 from rfl), show ([(AV.int x.Int_)]).length = 1 from (show ([(AV.int x.Int_)]).length = 1 from rfl), show ([(AV.u64 x.Bits)]).length = 1 from (show ([(AV.u64 x.Bits)]).length = 1 from rfl)]
theorem GToken.sub0 (x : GToken) : Sub (GToken.cs x) 0 ([(AV.int x.Kind)]) := Sub.head _ _
abbrev GToken.w0 (x : GToken) (y : Int) : GToken := { x with Kind := y }
theorem GToken.upd0 (x : GToken) (y : Int) : Upd (GToken.cs x) 0 ([(AV.int y)]) (GToken.cs { x with Kind := y }) := Upd.head (show ([(AV.int y)]).length = ([(AV.int x.Kind)]).length from rfl)
theorem GToken.sub1 (x : GToken) : Sub (GToken.cs x) 1 ([(AV.txt x.Text)]) := Sub.skip (k := 1) (show ([(AV.int x.Kind)]).length = 1 from rfl) (Sub.head _ _)
abbrev GToken.w1 (x : GToken) (y : List UInt8) : GToken := { x with Text := y }
theorem GToken.upd1 (x : GToken) (y : List UInt8) : Upd (GToken.cs x) 1 ([(AV.txt y)]) (GToken.cs { x with Text := y }) := Upd.skip (k := 1) (show ([(AV.int x.Kind)]).length = 1 from rfl) (Upd.head (show ([(AV.txt y)]).length = ([(AV.txt x.Text)]).length from rfl))
theorem GToken.sub2 (x : GToken) : Sub (GToken.cs x) 2 ([(AV.int x.Int_)]) := Sub.skip (k := 1) (show ([(AV.int x.Kind)]).length = 1 from rfl) (Sub.skip (k := 1) (show ([(AV.txt x.Text)]).length = 1 from rfl) (Sub.head _ _))
abbrev GToken.w2 (x : GToken) (y : Int) : GToken := { x with Int_ := y }
theorem GToken.upd2 (x : GToken) (y : Int) : Upd (GToken.cs x) 2 ([(AV.int y)]) (GToken.cs { x with Int_ := y }) := Upd.skip (k := 1) (show ([(AV.int x.Kind)]).length = 1 from rfl) (Upd.skip (k := 1) (show ([(AV.txt x.Text)]).length = 1 from rfl) (Upd.head (show ([(AV.int y)]).length = ([(AV.int x.Int_)]).length from rfl)))
theorem GToken.sub3 (x : GToken) : Sub (GToken.cs x) 3 ([(AV.u64 x.Bits)]) := Sub.skip (k := 1) (show ([(AV.int x.Kind)]).length = 1 from rfl) (Sub.skip (k := 1) (show ([(AV.txt x.Text)]).length = 1 from rfl) (Sub.skip (k := 1) (show ([(AV.int x.Int_)]).length = 1 from rfl) (Sub.refl _)))
abbrev GToken.w3 (x : GToken) (y : UInt64) : GToken := { x with Bits := y }
theorem GToken.upd3 (x : GToken) (y : UInt64) : Upd (GToken.cs x) 3 ([(AV.u64 y)]) (GToken.cs { x with Bits := y }) := Upd.skip (k := 1) (show ([(AV.int x.Kind)]).length = 1 from rfl) (Upd.skip (k := 1) (show ([(AV.txt x.Text)]).length = 1 from rfl) (Upd.skip (k := 1) (show ([(AV.int x.Int_)]).length = 1 from rfl) (Upd.refl (show ([(AV.u64 y)]).length = ([(AV.u64 x.Bits)]).length from rfl))))
theorem GToken.nl (x : GToken) : (GToken.cs x).all noLst1 = true := nlA rfl (nlA rfl (nlA rfl (rfl)))
structure GColumn where
  Name : List UInt8
  Kind : Int
  Null : Bool
deriving DecidableEq, Inhabited
def GColumn.zero : GColumn := ⟨[], (0 : Int), false⟩
def GColumn.cs (x : GColumn) : List AV := ([(AV.txt x.Name)]) ++ (([(AV.int x.Kind)]) ++ ([(AV.bool x.Null)]))
theorem GColumn.len (x : GColumn) : (GColumn.cs x).length = 3 := by
  simp only [GColumn.cs, List.length_append]
  rw [show ([(AV.txt x.Name)]).length = 1 from (show ([(AV.txt x.Name)]).length = 1 from rfl), show ([(AV.int x.Kind)]).length = 1 from (show ([(AV.int x.Kind)]).length = 1 from rfl), show ([(AV.bool x.Null)]).length = 1 from (show ([(AV.bool x.Null)]).length = 1 from rfl)]
theorem GColumn.sub0 (x : GColumn) : Sub (GColumn.cs x) 0 ([(AV.txt x.Name)]) := Sub.head _ _
abbrev GColumn.w0 (x : GColumn) (y : List UInt8) : GColumn := { x with Name := y }
theorem GColumn.upd0 (x : GColumn) (y : List UInt8) : Upd (GColumn.cs x) 0 ([(AV.txt y)]) (GColumn.cs { x with Name := y }) := Upd.head (show ([(AV.txt y)]).length = ([(AV.txt x.Name)]).length from rfl)
theorem GColumn.sub1 (x : GColumn) : Sub (GColumn.cs x) 1 ([(AV.int x.Kind)]) := Sub.skip (k := 1) (show ([(AV.txt x.Name)]).length = 1 from rfl) (Sub.head _ _)
abbrev GColumn.w1 (x : GColumn) (y : Int) : GColumn := { x with Kind := y }
theorem GColumn.upd1 (x : GColumn) (y : Int) : Upd (GColumn.cs x) 1 ([(AV.int y)]) (GColumn.cs { x with Kind := y }) := Upd.skip (k := 1) (show ([(AV.txt x.Name)]).length = 1 from rfl) (Upd.head (show ([(AV.int y)]).length = ([(AV.int x.Kind)]).length from rfl))
theorem GColumn.sub2 (x : GColumn) : Sub (GColumn.cs x) 2 ([(AV.bool x.Null)]) := Sub.skip (k := 1) (show ([(AV.txt x.Name)]).length = 1 from rfl) (Sub.skip (k := 1) (show ([(AV.int x.Kind)]).length = 1 from rfl) (Sub.refl _))
abbrev GColumn.w2 (x : GColumn) (y : Bool) : GColumn := { x with Null := y }
theorem GColumn.upd2 (x : GColumn) (y : Bool) : Upd (GColumn.cs x) 2 ([(AV.bool y)]) (GColumn.cs { x with Null := y }) := Upd.skip (k := 1) (show ([(AV.txt x.Name)]).length = 1 from rfl) (Upd.skip (k := 1) (show ([(AV.int x.Kind)]).length = 1 from rfl) (Upd.refl (show ([(AV.bool y)]).length = ([(AV.bool x.Null)]).length from rfl)))
theorem GColumn.nl (x : GColumn) : (GColumn.cs x).all noLst1 = true := nlA rfl (nlA rfl (rfl))
structure GSet where
  Col : List UInt8
  Expr : GExpr
def GSet.zero : GSet := ⟨[], GExpr.zero⟩
instance : Inhabited GSet := ⟨GSet.zero⟩
def GSet.cs (x : GSet) : List AV := ([(AV.txt x.Col)]) ++ (GExpr.cs x.Expr)
theorem GSet.len (x : GSet) : (GSet.cs x).length = 8 := by
  simp only [GSet.cs, List.length_append]
  rw [show ([(AV.txt x.Col)]).length = 1 from (show ([(AV.txt x.Col)]).length = 1 from rfl), show (GExpr.cs x.Expr).length = 7 from (GExpr.len x.Expr)]
theorem GSet.sub0 (x : GSet) : Sub (GSet.cs x) 0 ([(AV.txt x.Col)]) := Sub.head _ _
abbrev GSet.w0 (x : GSet) (y : List UInt8) : GSet := { x with Col := y }
theorem GSet.upd0 (x : GSet) (y : List UInt8) : Upd (GSet.cs x) 0 ([(AV.txt y)]) (GSet.cs { x with Col := y }) := Upd.head (show ([(AV.txt y)]).length = ([(AV.txt x.Col)]).length from rfl)
theorem GSet.sub1 (x : GSet) : Sub (GSet.cs x) 1 (GExpr.cs x.Expr) := Sub.skip (k := 1) (show ([(AV.txt x.Col)]).length = 1 from rfl) (Sub.refl _)
abbrev GSet.w1 (x : GSet) (y : GExpr) : GSet := { x with Expr := y }
theorem GSet.upd1 (x : GSet) (y : GExpr) : Upd (GSet.cs x) 1 (GExpr.cs y) (GSet.cs { x with Expr := y }) := Upd.skip (k := 1) (show ([(AV.txt x.Col)]).length = 1 from rfl) (Upd.refl ((GExpr.len y).trans (GExpr.len x.Expr).symm))
structure GItem where
  Agg : Int
  Expr : GExpr
def GItem.zero : GItem := ⟨(0 : Int), GExpr.zero⟩
instance : Inhabited GItem := ⟨GItem.zero⟩
def GItem.cs (x : GItem) : List AV := ([(AV.int x.Agg)]) ++ (GExpr.cs x.Expr)
theorem GItem.len (x : GItem) : (GItem.cs x).length = 8 := by
  simp only [GItem.cs, List.length_append]
  rw [show ([(AV.int x.Agg)]).length = 1 from (show ([(AV.int x.Agg)]).length = 1 from rfl), show (GExpr.cs x.Expr).length = 7 from (GExpr.len x.Expr)]
theorem GItem.sub0 (x : GItem) : Sub (GItem.cs x) 0 ([(AV.int x.Agg)]) := Sub.head _ _
abbrev GItem.w0 (x : GItem) (y : Int) : GItem := { x with Agg := y }
theorem GItem.upd0 (x : GItem) (y : Int) : Upd (GItem.cs x) 0 ([(AV.int y)]) (GItem.cs { x with Agg := y }) := Upd.head (show ([(AV.int y)]).length = ([(AV.int x.Agg)]).length from rfl)
theorem GItem.sub1 (x : GItem) : Sub (GItem.cs x) 1 (GExpr.cs x.Expr) := Sub.skip (k := 1) (show ([(AV.int x.Agg)]).length = 1 from rfl) (Sub.refl _)
abbrev GItem.w1 (x : GItem) (y : GExpr) : GItem := { x with Expr := y }
theorem GItem.upd1 (x : GItem) (y : GExpr) : Upd (GItem.cs x) 1 (GExpr.cs y) (GItem.cs { x with Expr := y }) := Upd.skip (k := 1) (show ([(AV.int x.Agg)]).length = 1 from rfl) (Upd.refl ((GExpr.len y).trans (GExpr.len x.Expr).symm))
structure GSort where
  Item : Int
  Down : Bool
deriving DecidableEq, Inhabited
def GSort.zero : GSort := ⟨(0 : Int), false⟩
def GSort.cs (x : GSort) : List AV := ([(AV.int x.Item)]) ++ ([(AV.bool x.Down)])
theorem GSort.len (x : GSort) : (GSort.cs x).length = 2 := by
  simp only [GSort.cs, List.length_append]
  rw [show ([(AV.int x.Item)]).length = 1 from (show ([(AV.int x.Item)]).length = 1 from rfl), show ([(AV.bool x.Down)]).length = 1 from (show ([(AV.bool x.Down)]).length = 1 from rfl)]
theorem GSort.sub0 (x : GSort) : Sub (GSort.cs x) 0 ([(AV.int x.Item)]) := Sub.head _ _
abbrev GSort.w0 (x : GSort) (y : Int) : GSort := { x with Item := y }
theorem GSort.upd0 (x : GSort) (y : Int) : Upd (GSort.cs x) 0 ([(AV.int y)]) (GSort.cs { x with Item := y }) := Upd.head (show ([(AV.int y)]).length = ([(AV.int x.Item)]).length from rfl)
theorem GSort.sub1 (x : GSort) : Sub (GSort.cs x) 1 ([(AV.bool x.Down)]) := Sub.skip (k := 1) (show ([(AV.int x.Item)]).length = 1 from rfl) (Sub.refl _)
abbrev GSort.w1 (x : GSort) (y : Bool) : GSort := { x with Down := y }
theorem GSort.upd1 (x : GSort) (y : Bool) : Upd (GSort.cs x) 1 ([(AV.bool y)]) (GSort.cs { x with Down := y }) := Upd.skip (k := 1) (show ([(AV.int x.Item)]).length = 1 from rfl) (Upd.refl (show ([(AV.bool y)]).length = ([(AV.bool x.Down)]).length from rfl))
theorem GSort.nl (x : GSort) : (GSort.cs x).all noLst1 = true := nlA rfl (rfl)
structure GQuery where
  Items : List GItem
  Where : GExpr
  Group : List UInt8
  Sorts : List GSort
  Cut : Bool
  Most : Int
def GQuery.zero : GQuery := ⟨[], GExpr.zero, [], [], false, (0 : Int)⟩
instance : Inhabited GQuery := ⟨GQuery.zero⟩
def GQuery.cs (x : GQuery) : List AV := ([((fun q : List GItem => AV.lst (q.flatMap GItem.cs) q.length) x.Items)]) ++ ((GExpr.cs x.Where) ++ (([(AV.txt x.Group)]) ++ (([((fun q : List GSort => AV.lst (q.flatMap GSort.cs) q.length) x.Sorts)]) ++ (([(AV.bool x.Cut)]) ++ ([(AV.int x.Most)])))))
theorem GQuery.len (x : GQuery) : (GQuery.cs x).length = 12 := by
  simp only [GQuery.cs, List.length_append]
  rw [show ([((fun q : List GItem => AV.lst (q.flatMap GItem.cs) q.length) x.Items)]).length = 1 from (show ([((fun q : List GItem => AV.lst (q.flatMap GItem.cs) q.length) x.Items)]).length = 1 from rfl), show (GExpr.cs x.Where).length = 7 from (GExpr.len x.Where), show ([(AV.txt x.Group)]).length = 1 from (show ([(AV.txt x.Group)]).length = 1 from rfl), show ([((fun q : List GSort => AV.lst (q.flatMap GSort.cs) q.length) x.Sorts)]).length = 1 from (show ([((fun q : List GSort => AV.lst (q.flatMap GSort.cs) q.length) x.Sorts)]).length = 1 from rfl), show ([(AV.bool x.Cut)]).length = 1 from (show ([(AV.bool x.Cut)]).length = 1 from rfl), show ([(AV.int x.Most)]).length = 1 from (show ([(AV.int x.Most)]).length = 1 from rfl)]
theorem GQuery.sub0 (x : GQuery) : Sub (GQuery.cs x) 0 ([((fun q : List GItem => AV.lst (q.flatMap GItem.cs) q.length) x.Items)]) := Sub.head _ _
abbrev GQuery.w0 (x : GQuery) (y : List GItem) : GQuery := { x with Items := y }
theorem GQuery.upd0 (x : GQuery) (y : List GItem) : Upd (GQuery.cs x) 0 ([((fun q : List GItem => AV.lst (q.flatMap GItem.cs) q.length) y)]) (GQuery.cs { x with Items := y }) := Upd.head (show ([((fun q : List GItem => AV.lst (q.flatMap GItem.cs) q.length) y)]).length = ([((fun q : List GItem => AV.lst (q.flatMap GItem.cs) q.length) x.Items)]).length from rfl)
theorem GQuery.sub1 (x : GQuery) : Sub (GQuery.cs x) 1 (GExpr.cs x.Where) := Sub.skip (k := 1) (show ([((fun q : List GItem => AV.lst (q.flatMap GItem.cs) q.length) x.Items)]).length = 1 from rfl) (Sub.head _ _)
abbrev GQuery.w1 (x : GQuery) (y : GExpr) : GQuery := { x with Where := y }
theorem GQuery.upd1 (x : GQuery) (y : GExpr) : Upd (GQuery.cs x) 1 (GExpr.cs y) (GQuery.cs { x with Where := y }) := Upd.skip (k := 1) (show ([((fun q : List GItem => AV.lst (q.flatMap GItem.cs) q.length) x.Items)]).length = 1 from rfl) (Upd.head ((GExpr.len y).trans (GExpr.len x.Where).symm))
theorem GQuery.sub2 (x : GQuery) : Sub (GQuery.cs x) 8 ([(AV.txt x.Group)]) := Sub.skip (k := 1) (show ([((fun q : List GItem => AV.lst (q.flatMap GItem.cs) q.length) x.Items)]).length = 1 from rfl) (Sub.skip (k := 7) (GExpr.len x.Where) (Sub.head _ _))
abbrev GQuery.w2 (x : GQuery) (y : List UInt8) : GQuery := { x with Group := y }
theorem GQuery.upd2 (x : GQuery) (y : List UInt8) : Upd (GQuery.cs x) 8 ([(AV.txt y)]) (GQuery.cs { x with Group := y }) := Upd.skip (k := 1) (show ([((fun q : List GItem => AV.lst (q.flatMap GItem.cs) q.length) x.Items)]).length = 1 from rfl) (Upd.skip (k := 7) (GExpr.len x.Where) (Upd.head (show ([(AV.txt y)]).length = ([(AV.txt x.Group)]).length from rfl)))
theorem GQuery.sub3 (x : GQuery) : Sub (GQuery.cs x) 9 ([((fun q : List GSort => AV.lst (q.flatMap GSort.cs) q.length) x.Sorts)]) := Sub.skip (k := 1) (show ([((fun q : List GItem => AV.lst (q.flatMap GItem.cs) q.length) x.Items)]).length = 1 from rfl) (Sub.skip (k := 7) (GExpr.len x.Where) (Sub.skip (k := 1) (show ([(AV.txt x.Group)]).length = 1 from rfl) (Sub.head _ _)))
abbrev GQuery.w3 (x : GQuery) (y : List GSort) : GQuery := { x with Sorts := y }
theorem GQuery.upd3 (x : GQuery) (y : List GSort) : Upd (GQuery.cs x) 9 ([((fun q : List GSort => AV.lst (q.flatMap GSort.cs) q.length) y)]) (GQuery.cs { x with Sorts := y }) := Upd.skip (k := 1) (show ([((fun q : List GItem => AV.lst (q.flatMap GItem.cs) q.length) x.Items)]).length = 1 from rfl) (Upd.skip (k := 7) (GExpr.len x.Where) (Upd.skip (k := 1) (show ([(AV.txt x.Group)]).length = 1 from rfl) (Upd.head (show ([((fun q : List GSort => AV.lst (q.flatMap GSort.cs) q.length) y)]).length = ([((fun q : List GSort => AV.lst (q.flatMap GSort.cs) q.length) x.Sorts)]).length from rfl))))
theorem GQuery.sub4 (x : GQuery) : Sub (GQuery.cs x) 10 ([(AV.bool x.Cut)]) := Sub.skip (k := 1) (show ([((fun q : List GItem => AV.lst (q.flatMap GItem.cs) q.length) x.Items)]).length = 1 from rfl) (Sub.skip (k := 7) (GExpr.len x.Where) (Sub.skip (k := 1) (show ([(AV.txt x.Group)]).length = 1 from rfl) (Sub.skip (k := 1) (show ([((fun q : List GSort => AV.lst (q.flatMap GSort.cs) q.length) x.Sorts)]).length = 1 from rfl) (Sub.head _ _))))
abbrev GQuery.w4 (x : GQuery) (y : Bool) : GQuery := { x with Cut := y }
theorem GQuery.upd4 (x : GQuery) (y : Bool) : Upd (GQuery.cs x) 10 ([(AV.bool y)]) (GQuery.cs { x with Cut := y }) := Upd.skip (k := 1) (show ([((fun q : List GItem => AV.lst (q.flatMap GItem.cs) q.length) x.Items)]).length = 1 from rfl) (Upd.skip (k := 7) (GExpr.len x.Where) (Upd.skip (k := 1) (show ([(AV.txt x.Group)]).length = 1 from rfl) (Upd.skip (k := 1) (show ([((fun q : List GSort => AV.lst (q.flatMap GSort.cs) q.length) x.Sorts)]).length = 1 from rfl) (Upd.head (show ([(AV.bool y)]).length = ([(AV.bool x.Cut)]).length from rfl)))))
theorem GQuery.sub5 (x : GQuery) : Sub (GQuery.cs x) 11 ([(AV.int x.Most)]) := Sub.skip (k := 1) (show ([((fun q : List GItem => AV.lst (q.flatMap GItem.cs) q.length) x.Items)]).length = 1 from rfl) (Sub.skip (k := 7) (GExpr.len x.Where) (Sub.skip (k := 1) (show ([(AV.txt x.Group)]).length = 1 from rfl) (Sub.skip (k := 1) (show ([((fun q : List GSort => AV.lst (q.flatMap GSort.cs) q.length) x.Sorts)]).length = 1 from rfl) (Sub.skip (k := 1) (show ([(AV.bool x.Cut)]).length = 1 from rfl) (Sub.refl _)))))
abbrev GQuery.w5 (x : GQuery) (y : Int) : GQuery := { x with Most := y }
theorem GQuery.upd5 (x : GQuery) (y : Int) : Upd (GQuery.cs x) 11 ([(AV.int y)]) (GQuery.cs { x with Most := y }) := Upd.skip (k := 1) (show ([((fun q : List GItem => AV.lst (q.flatMap GItem.cs) q.length) x.Items)]).length = 1 from rfl) (Upd.skip (k := 7) (GExpr.len x.Where) (Upd.skip (k := 1) (show ([(AV.txt x.Group)]).length = 1 from rfl) (Upd.skip (k := 1) (show ([((fun q : List GSort => AV.lst (q.flatMap GSort.cs) q.length) x.Sorts)]).length = 1 from rfl) (Upd.skip (k := 1) (show ([(AV.bool x.Cut)]).length = 1 from rfl) (Upd.refl (show ([(AV.int y)]).length = ([(AV.int x.Most)]).length from rfl))))))
structure GCommand where
  Kind : Int
  Owner : Int
  Table : List UInt8
  Drawer : Int
  Cols : List GColumn
  Row : List GValue
  Sets : List GSet
  Where : GExpr
  Query : GQuery
  To : Int
  Right : Int
  Option_ : Bool
def GCommand.zero : GCommand := ⟨(0 : Int), (0 : Int), [], (0 : Int), [], [], [], GExpr.zero, GQuery.zero, (0 : Int), (0 : Int), false⟩
instance : Inhabited GCommand := ⟨GCommand.zero⟩
def GCommand.cs (x : GCommand) : List AV := ([(AV.int x.Kind)]) ++ (([(AV.int x.Owner)]) ++ (([(AV.txt x.Table)]) ++ (([(AV.int x.Drawer)]) ++ (([((fun q : List GColumn => AV.lst (q.flatMap GColumn.cs) q.length) x.Cols)]) ++ (([((fun q : List GValue => AV.lst (q.flatMap GValue.cs) q.length) x.Row)]) ++ (([((fun q : List GSet => AV.lst (q.flatMap GSet.cs) q.length) x.Sets)]) ++ ((GExpr.cs x.Where) ++ ((GQuery.cs x.Query) ++ (([(AV.int x.To)]) ++ (([(AV.int x.Right)]) ++ ([(AV.bool x.Option_)])))))))))))
theorem GCommand.len (x : GCommand) : (GCommand.cs x).length = 29 := by
  simp only [GCommand.cs, List.length_append]
  rw [show ([(AV.int x.Kind)]).length = 1 from (show ([(AV.int x.Kind)]).length = 1 from rfl), show ([(AV.int x.Owner)]).length = 1 from (show ([(AV.int x.Owner)]).length = 1 from rfl), show ([(AV.txt x.Table)]).length = 1 from (show ([(AV.txt x.Table)]).length = 1 from rfl), show ([(AV.int x.Drawer)]).length = 1 from (show ([(AV.int x.Drawer)]).length = 1 from rfl), show ([((fun q : List GColumn => AV.lst (q.flatMap GColumn.cs) q.length) x.Cols)]).length = 1 from (show ([((fun q : List GColumn => AV.lst (q.flatMap GColumn.cs) q.length) x.Cols)]).length = 1 from rfl), show ([((fun q : List GValue => AV.lst (q.flatMap GValue.cs) q.length) x.Row)]).length = 1 from (show ([((fun q : List GValue => AV.lst (q.flatMap GValue.cs) q.length) x.Row)]).length = 1 from rfl), show ([((fun q : List GSet => AV.lst (q.flatMap GSet.cs) q.length) x.Sets)]).length = 1 from (show ([((fun q : List GSet => AV.lst (q.flatMap GSet.cs) q.length) x.Sets)]).length = 1 from rfl), show (GExpr.cs x.Where).length = 7 from (GExpr.len x.Where), show (GQuery.cs x.Query).length = 12 from (GQuery.len x.Query), show ([(AV.int x.To)]).length = 1 from (show ([(AV.int x.To)]).length = 1 from rfl), show ([(AV.int x.Right)]).length = 1 from (show ([(AV.int x.Right)]).length = 1 from rfl), show ([(AV.bool x.Option_)]).length = 1 from (show ([(AV.bool x.Option_)]).length = 1 from rfl)]
theorem GCommand.sub0 (x : GCommand) : Sub (GCommand.cs x) 0 ([(AV.int x.Kind)]) := Sub.head _ _
abbrev GCommand.w0 (x : GCommand) (y : Int) : GCommand := { x with Kind := y }
theorem GCommand.upd0 (x : GCommand) (y : Int) : Upd (GCommand.cs x) 0 ([(AV.int y)]) (GCommand.cs { x with Kind := y }) := Upd.head (show ([(AV.int y)]).length = ([(AV.int x.Kind)]).length from rfl)
theorem GCommand.sub1 (x : GCommand) : Sub (GCommand.cs x) 1 ([(AV.int x.Owner)]) := Sub.skip (k := 1) (show ([(AV.int x.Kind)]).length = 1 from rfl) (Sub.head _ _)
abbrev GCommand.w1 (x : GCommand) (y : Int) : GCommand := { x with Owner := y }
theorem GCommand.upd1 (x : GCommand) (y : Int) : Upd (GCommand.cs x) 1 ([(AV.int y)]) (GCommand.cs { x with Owner := y }) := Upd.skip (k := 1) (show ([(AV.int x.Kind)]).length = 1 from rfl) (Upd.head (show ([(AV.int y)]).length = ([(AV.int x.Owner)]).length from rfl))
theorem GCommand.sub2 (x : GCommand) : Sub (GCommand.cs x) 2 ([(AV.txt x.Table)]) := Sub.skip (k := 1) (show ([(AV.int x.Kind)]).length = 1 from rfl) (Sub.skip (k := 1) (show ([(AV.int x.Owner)]).length = 1 from rfl) (Sub.head _ _))
abbrev GCommand.w2 (x : GCommand) (y : List UInt8) : GCommand := { x with Table := y }
theorem GCommand.upd2 (x : GCommand) (y : List UInt8) : Upd (GCommand.cs x) 2 ([(AV.txt y)]) (GCommand.cs { x with Table := y }) := Upd.skip (k := 1) (show ([(AV.int x.Kind)]).length = 1 from rfl) (Upd.skip (k := 1) (show ([(AV.int x.Owner)]).length = 1 from rfl) (Upd.head (show ([(AV.txt y)]).length = ([(AV.txt x.Table)]).length from rfl)))
theorem GCommand.sub3 (x : GCommand) : Sub (GCommand.cs x) 3 ([(AV.int x.Drawer)]) := Sub.skip (k := 1) (show ([(AV.int x.Kind)]).length = 1 from rfl) (Sub.skip (k := 1) (show ([(AV.int x.Owner)]).length = 1 from rfl) (Sub.skip (k := 1) (show ([(AV.txt x.Table)]).length = 1 from rfl) (Sub.head _ _)))
abbrev GCommand.w3 (x : GCommand) (y : Int) : GCommand := { x with Drawer := y }
theorem GCommand.upd3 (x : GCommand) (y : Int) : Upd (GCommand.cs x) 3 ([(AV.int y)]) (GCommand.cs { x with Drawer := y }) := Upd.skip (k := 1) (show ([(AV.int x.Kind)]).length = 1 from rfl) (Upd.skip (k := 1) (show ([(AV.int x.Owner)]).length = 1 from rfl) (Upd.skip (k := 1) (show ([(AV.txt x.Table)]).length = 1 from rfl) (Upd.head (show ([(AV.int y)]).length = ([(AV.int x.Drawer)]).length from rfl))))
theorem GCommand.sub4 (x : GCommand) : Sub (GCommand.cs x) 4 ([((fun q : List GColumn => AV.lst (q.flatMap GColumn.cs) q.length) x.Cols)]) := Sub.skip (k := 1) (show ([(AV.int x.Kind)]).length = 1 from rfl) (Sub.skip (k := 1) (show ([(AV.int x.Owner)]).length = 1 from rfl) (Sub.skip (k := 1) (show ([(AV.txt x.Table)]).length = 1 from rfl) (Sub.skip (k := 1) (show ([(AV.int x.Drawer)]).length = 1 from rfl) (Sub.head _ _))))
abbrev GCommand.w4 (x : GCommand) (y : List GColumn) : GCommand := { x with Cols := y }
theorem GCommand.upd4 (x : GCommand) (y : List GColumn) : Upd (GCommand.cs x) 4 ([((fun q : List GColumn => AV.lst (q.flatMap GColumn.cs) q.length) y)]) (GCommand.cs { x with Cols := y }) := Upd.skip (k := 1) (show ([(AV.int x.Kind)]).length = 1 from rfl) (Upd.skip (k := 1) (show ([(AV.int x.Owner)]).length = 1 from rfl) (Upd.skip (k := 1) (show ([(AV.txt x.Table)]).length = 1 from rfl) (Upd.skip (k := 1) (show ([(AV.int x.Drawer)]).length = 1 from rfl) (Upd.head (show ([((fun q : List GColumn => AV.lst (q.flatMap GColumn.cs) q.length) y)]).length = ([((fun q : List GColumn => AV.lst (q.flatMap GColumn.cs) q.length) x.Cols)]).length from rfl)))))
theorem GCommand.sub5 (x : GCommand) : Sub (GCommand.cs x) 5 ([((fun q : List GValue => AV.lst (q.flatMap GValue.cs) q.length) x.Row)]) := Sub.skip (k := 1) (show ([(AV.int x.Kind)]).length = 1 from rfl) (Sub.skip (k := 1) (show ([(AV.int x.Owner)]).length = 1 from rfl) (Sub.skip (k := 1) (show ([(AV.txt x.Table)]).length = 1 from rfl) (Sub.skip (k := 1) (show ([(AV.int x.Drawer)]).length = 1 from rfl) (Sub.skip (k := 1) (show ([((fun q : List GColumn => AV.lst (q.flatMap GColumn.cs) q.length) x.Cols)]).length = 1 from rfl) (Sub.head _ _)))))
abbrev GCommand.w5 (x : GCommand) (y : List GValue) : GCommand := { x with Row := y }
theorem GCommand.upd5 (x : GCommand) (y : List GValue) : Upd (GCommand.cs x) 5 ([((fun q : List GValue => AV.lst (q.flatMap GValue.cs) q.length) y)]) (GCommand.cs { x with Row := y }) := Upd.skip (k := 1) (show ([(AV.int x.Kind)]).length = 1 from rfl) (Upd.skip (k := 1) (show ([(AV.int x.Owner)]).length = 1 from rfl) (Upd.skip (k := 1) (show ([(AV.txt x.Table)]).length = 1 from rfl) (Upd.skip (k := 1) (show ([(AV.int x.Drawer)]).length = 1 from rfl) (Upd.skip (k := 1) (show ([((fun q : List GColumn => AV.lst (q.flatMap GColumn.cs) q.length) x.Cols)]).length = 1 from rfl) (Upd.head (show ([((fun q : List GValue => AV.lst (q.flatMap GValue.cs) q.length) y)]).length = ([((fun q : List GValue => AV.lst (q.flatMap GValue.cs) q.length) x.Row)]).length from rfl))))))
theorem GCommand.sub6 (x : GCommand) : Sub (GCommand.cs x) 6 ([((fun q : List GSet => AV.lst (q.flatMap GSet.cs) q.length) x.Sets)]) := Sub.skip (k := 1) (show ([(AV.int x.Kind)]).length = 1 from rfl) (Sub.skip (k := 1) (show ([(AV.int x.Owner)]).length = 1 from rfl) (Sub.skip (k := 1) (show ([(AV.txt x.Table)]).length = 1 from rfl) (Sub.skip (k := 1) (show ([(AV.int x.Drawer)]).length = 1 from rfl) (Sub.skip (k := 1) (show ([((fun q : List GColumn => AV.lst (q.flatMap GColumn.cs) q.length) x.Cols)]).length = 1 from rfl) (Sub.skip (k := 1) (show ([((fun q : List GValue => AV.lst (q.flatMap GValue.cs) q.length) x.Row)]).length = 1 from rfl) (Sub.head _ _))))))
abbrev GCommand.w6 (x : GCommand) (y : List GSet) : GCommand := { x with Sets := y }
theorem GCommand.upd6 (x : GCommand) (y : List GSet) : Upd (GCommand.cs x) 6 ([((fun q : List GSet => AV.lst (q.flatMap GSet.cs) q.length) y)]) (GCommand.cs { x with Sets := y }) := Upd.skip (k := 1) (show ([(AV.int x.Kind)]).length = 1 from rfl) (Upd.skip (k := 1) (show ([(AV.int x.Owner)]).length = 1 from rfl) (Upd.skip (k := 1) (show ([(AV.txt x.Table)]).length = 1 from rfl) (Upd.skip (k := 1) (show ([(AV.int x.Drawer)]).length = 1 from rfl) (Upd.skip (k := 1) (show ([((fun q : List GColumn => AV.lst (q.flatMap GColumn.cs) q.length) x.Cols)]).length = 1 from rfl) (Upd.skip (k := 1) (show ([((fun q : List GValue => AV.lst (q.flatMap GValue.cs) q.length) x.Row)]).length = 1 from rfl) (Upd.head (show ([((fun q : List GSet => AV.lst (q.flatMap GSet.cs) q.length) y)]).length = ([((fun q : List GSet => AV.lst (q.flatMap GSet.cs) q.length) x.Sets)]).length from rfl)))))))
theorem GCommand.sub7 (x : GCommand) : Sub (GCommand.cs x) 7 (GExpr.cs x.Where) := Sub.skip (k := 1) (show ([(AV.int x.Kind)]).length = 1 from rfl) (Sub.skip (k := 1) (show ([(AV.int x.Owner)]).length = 1 from rfl) (Sub.skip (k := 1) (show ([(AV.txt x.Table)]).length = 1 from rfl) (Sub.skip (k := 1) (show ([(AV.int x.Drawer)]).length = 1 from rfl) (Sub.skip (k := 1) (show ([((fun q : List GColumn => AV.lst (q.flatMap GColumn.cs) q.length) x.Cols)]).length = 1 from rfl) (Sub.skip (k := 1) (show ([((fun q : List GValue => AV.lst (q.flatMap GValue.cs) q.length) x.Row)]).length = 1 from rfl) (Sub.skip (k := 1) (show ([((fun q : List GSet => AV.lst (q.flatMap GSet.cs) q.length) x.Sets)]).length = 1 from rfl) (Sub.head _ _)))))))
abbrev GCommand.w7 (x : GCommand) (y : GExpr) : GCommand := { x with Where := y }
theorem GCommand.upd7 (x : GCommand) (y : GExpr) : Upd (GCommand.cs x) 7 (GExpr.cs y) (GCommand.cs { x with Where := y }) := Upd.skip (k := 1) (show ([(AV.int x.Kind)]).length = 1 from rfl) (Upd.skip (k := 1) (show ([(AV.int x.Owner)]).length = 1 from rfl) (Upd.skip (k := 1) (show ([(AV.txt x.Table)]).length = 1 from rfl) (Upd.skip (k := 1) (show ([(AV.int x.Drawer)]).length = 1 from rfl) (Upd.skip (k := 1) (show ([((fun q : List GColumn => AV.lst (q.flatMap GColumn.cs) q.length) x.Cols)]).length = 1 from rfl) (Upd.skip (k := 1) (show ([((fun q : List GValue => AV.lst (q.flatMap GValue.cs) q.length) x.Row)]).length = 1 from rfl) (Upd.skip (k := 1) (show ([((fun q : List GSet => AV.lst (q.flatMap GSet.cs) q.length) x.Sets)]).length = 1 from rfl) (Upd.head ((GExpr.len y).trans (GExpr.len x.Where).symm))))))))
theorem GCommand.sub8 (x : GCommand) : Sub (GCommand.cs x) 14 (GQuery.cs x.Query) := Sub.skip (k := 1) (show ([(AV.int x.Kind)]).length = 1 from rfl) (Sub.skip (k := 1) (show ([(AV.int x.Owner)]).length = 1 from rfl) (Sub.skip (k := 1) (show ([(AV.txt x.Table)]).length = 1 from rfl) (Sub.skip (k := 1) (show ([(AV.int x.Drawer)]).length = 1 from rfl) (Sub.skip (k := 1) (show ([((fun q : List GColumn => AV.lst (q.flatMap GColumn.cs) q.length) x.Cols)]).length = 1 from rfl) (Sub.skip (k := 1) (show ([((fun q : List GValue => AV.lst (q.flatMap GValue.cs) q.length) x.Row)]).length = 1 from rfl) (Sub.skip (k := 1) (show ([((fun q : List GSet => AV.lst (q.flatMap GSet.cs) q.length) x.Sets)]).length = 1 from rfl) (Sub.skip (k := 7) (GExpr.len x.Where) (Sub.head _ _))))))))
abbrev GCommand.w8 (x : GCommand) (y : GQuery) : GCommand := { x with Query := y }
theorem GCommand.upd8 (x : GCommand) (y : GQuery) : Upd (GCommand.cs x) 14 (GQuery.cs y) (GCommand.cs { x with Query := y }) := Upd.skip (k := 1) (show ([(AV.int x.Kind)]).length = 1 from rfl) (Upd.skip (k := 1) (show ([(AV.int x.Owner)]).length = 1 from rfl) (Upd.skip (k := 1) (show ([(AV.txt x.Table)]).length = 1 from rfl) (Upd.skip (k := 1) (show ([(AV.int x.Drawer)]).length = 1 from rfl) (Upd.skip (k := 1) (show ([((fun q : List GColumn => AV.lst (q.flatMap GColumn.cs) q.length) x.Cols)]).length = 1 from rfl) (Upd.skip (k := 1) (show ([((fun q : List GValue => AV.lst (q.flatMap GValue.cs) q.length) x.Row)]).length = 1 from rfl) (Upd.skip (k := 1) (show ([((fun q : List GSet => AV.lst (q.flatMap GSet.cs) q.length) x.Sets)]).length = 1 from rfl) (Upd.skip (k := 7) (GExpr.len x.Where) (Upd.head ((GQuery.len y).trans (GQuery.len x.Query).symm)))))))))
theorem GCommand.sub9 (x : GCommand) : Sub (GCommand.cs x) 26 ([(AV.int x.To)]) := Sub.skip (k := 1) (show ([(AV.int x.Kind)]).length = 1 from rfl) (Sub.skip (k := 1) (show ([(AV.int x.Owner)]).length = 1 from rfl) (Sub.skip (k := 1) (show ([(AV.txt x.Table)]).length = 1 from rfl) (Sub.skip (k := 1) (show ([(AV.int x.Drawer)]).length = 1 from rfl) (Sub.skip (k := 1) (show ([((fun q : List GColumn => AV.lst (q.flatMap GColumn.cs) q.length) x.Cols)]).length = 1 from rfl) (Sub.skip (k := 1) (show ([((fun q : List GValue => AV.lst (q.flatMap GValue.cs) q.length) x.Row)]).length = 1 from rfl) (Sub.skip (k := 1) (show ([((fun q : List GSet => AV.lst (q.flatMap GSet.cs) q.length) x.Sets)]).length = 1 from rfl) (Sub.skip (k := 7) (GExpr.len x.Where) (Sub.skip (k := 12) (GQuery.len x.Query) (Sub.head _ _)))))))))
abbrev GCommand.w9 (x : GCommand) (y : Int) : GCommand := { x with To := y }
theorem GCommand.upd9 (x : GCommand) (y : Int) : Upd (GCommand.cs x) 26 ([(AV.int y)]) (GCommand.cs { x with To := y }) := Upd.skip (k := 1) (show ([(AV.int x.Kind)]).length = 1 from rfl) (Upd.skip (k := 1) (show ([(AV.int x.Owner)]).length = 1 from rfl) (Upd.skip (k := 1) (show ([(AV.txt x.Table)]).length = 1 from rfl) (Upd.skip (k := 1) (show ([(AV.int x.Drawer)]).length = 1 from rfl) (Upd.skip (k := 1) (show ([((fun q : List GColumn => AV.lst (q.flatMap GColumn.cs) q.length) x.Cols)]).length = 1 from rfl) (Upd.skip (k := 1) (show ([((fun q : List GValue => AV.lst (q.flatMap GValue.cs) q.length) x.Row)]).length = 1 from rfl) (Upd.skip (k := 1) (show ([((fun q : List GSet => AV.lst (q.flatMap GSet.cs) q.length) x.Sets)]).length = 1 from rfl) (Upd.skip (k := 7) (GExpr.len x.Where) (Upd.skip (k := 12) (GQuery.len x.Query) (Upd.head (show ([(AV.int y)]).length = ([(AV.int x.To)]).length from rfl))))))))))
theorem GCommand.sub10 (x : GCommand) : Sub (GCommand.cs x) 27 ([(AV.int x.Right)]) := Sub.skip (k := 1) (show ([(AV.int x.Kind)]).length = 1 from rfl) (Sub.skip (k := 1) (show ([(AV.int x.Owner)]).length = 1 from rfl) (Sub.skip (k := 1) (show ([(AV.txt x.Table)]).length = 1 from rfl) (Sub.skip (k := 1) (show ([(AV.int x.Drawer)]).length = 1 from rfl) (Sub.skip (k := 1) (show ([((fun q : List GColumn => AV.lst (q.flatMap GColumn.cs) q.length) x.Cols)]).length = 1 from rfl) (Sub.skip (k := 1) (show ([((fun q : List GValue => AV.lst (q.flatMap GValue.cs) q.length) x.Row)]).length = 1 from rfl) (Sub.skip (k := 1) (show ([((fun q : List GSet => AV.lst (q.flatMap GSet.cs) q.length) x.Sets)]).length = 1 from rfl) (Sub.skip (k := 7) (GExpr.len x.Where) (Sub.skip (k := 12) (GQuery.len x.Query) (Sub.skip (k := 1) (show ([(AV.int x.To)]).length = 1 from rfl) (Sub.head _ _))))))))))
abbrev GCommand.w10 (x : GCommand) (y : Int) : GCommand := { x with Right := y }
theorem GCommand.upd10 (x : GCommand) (y : Int) : Upd (GCommand.cs x) 27 ([(AV.int y)]) (GCommand.cs { x with Right := y }) := Upd.skip (k := 1) (show ([(AV.int x.Kind)]).length = 1 from rfl) (Upd.skip (k := 1) (show ([(AV.int x.Owner)]).length = 1 from rfl) (Upd.skip (k := 1) (show ([(AV.txt x.Table)]).length = 1 from rfl) (Upd.skip (k := 1) (show ([(AV.int x.Drawer)]).length = 1 from rfl) (Upd.skip (k := 1) (show ([((fun q : List GColumn => AV.lst (q.flatMap GColumn.cs) q.length) x.Cols)]).length = 1 from rfl) (Upd.skip (k := 1) (show ([((fun q : List GValue => AV.lst (q.flatMap GValue.cs) q.length) x.Row)]).length = 1 from rfl) (Upd.skip (k := 1) (show ([((fun q : List GSet => AV.lst (q.flatMap GSet.cs) q.length) x.Sets)]).length = 1 from rfl) (Upd.skip (k := 7) (GExpr.len x.Where) (Upd.skip (k := 12) (GQuery.len x.Query) (Upd.skip (k := 1) (show ([(AV.int x.To)]).length = 1 from rfl) (Upd.head (show ([(AV.int y)]).length = ([(AV.int x.Right)]).length from rfl)))))))))))
theorem GCommand.sub11 (x : GCommand) : Sub (GCommand.cs x) 28 ([(AV.bool x.Option_)]) := Sub.skip (k := 1) (show ([(AV.int x.Kind)]).length = 1 from rfl) (Sub.skip (k := 1) (show ([(AV.int x.Owner)]).length = 1 from rfl) (Sub.skip (k := 1) (show ([(AV.txt x.Table)]).length = 1 from rfl) (Sub.skip (k := 1) (show ([(AV.int x.Drawer)]).length = 1 from rfl) (Sub.skip (k := 1) (show ([((fun q : List GColumn => AV.lst (q.flatMap GColumn.cs) q.length) x.Cols)]).length = 1 from rfl) (Sub.skip (k := 1) (show ([((fun q : List GValue => AV.lst (q.flatMap GValue.cs) q.length) x.Row)]).length = 1 from rfl) (Sub.skip (k := 1) (show ([((fun q : List GSet => AV.lst (q.flatMap GSet.cs) q.length) x.Sets)]).length = 1 from rfl) (Sub.skip (k := 7) (GExpr.len x.Where) (Sub.skip (k := 12) (GQuery.len x.Query) (Sub.skip (k := 1) (show ([(AV.int x.To)]).length = 1 from rfl) (Sub.skip (k := 1) (show ([(AV.int x.Right)]).length = 1 from rfl) (Sub.refl _)))))))))))
abbrev GCommand.w11 (x : GCommand) (y : Bool) : GCommand := { x with Option_ := y }
theorem GCommand.upd11 (x : GCommand) (y : Bool) : Upd (GCommand.cs x) 28 ([(AV.bool y)]) (GCommand.cs { x with Option_ := y }) := Upd.skip (k := 1) (show ([(AV.int x.Kind)]).length = 1 from rfl) (Upd.skip (k := 1) (show ([(AV.int x.Owner)]).length = 1 from rfl) (Upd.skip (k := 1) (show ([(AV.txt x.Table)]).length = 1 from rfl) (Upd.skip (k := 1) (show ([(AV.int x.Drawer)]).length = 1 from rfl) (Upd.skip (k := 1) (show ([((fun q : List GColumn => AV.lst (q.flatMap GColumn.cs) q.length) x.Cols)]).length = 1 from rfl) (Upd.skip (k := 1) (show ([((fun q : List GValue => AV.lst (q.flatMap GValue.cs) q.length) x.Row)]).length = 1 from rfl) (Upd.skip (k := 1) (show ([((fun q : List GSet => AV.lst (q.flatMap GSet.cs) q.length) x.Sets)]).length = 1 from rfl) (Upd.skip (k := 7) (GExpr.len x.Where) (Upd.skip (k := 12) (GQuery.len x.Query) (Upd.skip (k := 1) (show ([(AV.int x.To)]).length = 1 from rfl) (Upd.skip (k := 1) (show ([(AV.int x.Right)]).length = 1 from rfl) (Upd.refl (show ([(AV.bool y)]).length = ([(AV.bool x.Option_)]).length from rfl))))))))))))
theorem in_24 : Info Tryd.prog 24 4 40 (.agg #[.int .i64 0, .int .i64 0, .int .u64 0, .string ⟨#[]⟩]) := by unfold Info; kernel_rfl
theorem one_24 : (.agg #[.int .i64 0, .int .i64 0, .int .u64 0, .string ⟨#[]⟩] : Value).cells.all (·.oneCell') = true := by kernel_rfl
theorem zc_24 : ((.agg #[.int .i64 0, .int .i64 0, .int .u64 0, .string ⟨#[]⟩] : Value).cells.toList.map zcell) = GValue.cs GValue.zero := by rfl
theorem pl_24 : placesOf Tryd.prog 24 = some [(0, 1), (1, 1), (2, 1), (3, 1)] := by kernel_rfl
theorem in_82 : Info Tryd.prog 82 4 40 (.agg #[.int .i64 0, .string ⟨#[]⟩, .int .i64 0, .int .u64 0]) := by unfold Info; kernel_rfl
theorem one_82 : (.agg #[.int .i64 0, .string ⟨#[]⟩, .int .i64 0, .int .u64 0] : Value).cells.all (·.oneCell') = true := by kernel_rfl
theorem zc_82 : ((.agg #[.int .i64 0, .string ⟨#[]⟩, .int .i64 0, .int .u64 0] : Value).cells.toList.map zcell) = GToken.cs GToken.zero := by rfl
theorem pl_82 : placesOf Tryd.prog 82 = some [(0, 1), (1, 1), (2, 1), (3, 1)] := by kernel_rfl
theorem in_37 : Info Tryd.prog 37 12 168 (.agg #[.slice none 0 0, .int .i64 0, .int .i64 0, .int .i64 0, .int .u64 0, .string ⟨#[]⟩, .string ⟨#[]⟩, .slice none 0 0, .string ⟨#[]⟩, .slice none 0 0, .bool false, .int .i64 0]) := by unfold Info; kernel_rfl
theorem one_37 : (.agg #[.slice none 0 0, .int .i64 0, .int .i64 0, .int .i64 0, .int .u64 0, .string ⟨#[]⟩, .string ⟨#[]⟩, .slice none 0 0, .string ⟨#[]⟩, .slice none 0 0, .bool false, .int .i64 0] : Value).cells.all (·.oneCell') = true := by kernel_rfl
theorem zc_37 : ((.agg #[.slice none 0 0, .int .i64 0, .int .i64 0, .int .i64 0, .int .u64 0, .string ⟨#[]⟩, .string ⟨#[]⟩, .slice none 0 0, .string ⟨#[]⟩, .slice none 0 0, .bool false, .int .i64 0] : Value).cells.toList.map zcell) = GQuery.cs GQuery.zero := by rfl
theorem pl_37 : placesOf Tryd.prog 37 = some [(0, 1), (1, 7), (8, 1), (9, 1), (10, 1), (11, 1)] := by kernel_rfl
theorem in_28 : Info Tryd.prog 28 1 24 (.slice none 0 0) := by unfold Info; kernel_rfl
theorem one_28 : (.slice none 0 0 : Value).cells.all (·.oneCell') = true := by kernel_rfl
theorem zc_28 : ((.slice none 0 0 : Value).cells.toList.map zcell) = [((fun q : List GColumn => AV.lst (q.flatMap GColumn.cs) q.length) [])] := by rfl
theorem in_40 : Info Tryd.prog 40 1 24 (.slice none 0 0) := by unfold Info; kernel_rfl
theorem one_40 : (.slice none 0 0 : Value).cells.all (·.oneCell') = true := by kernel_rfl
theorem zc_40 : ((.slice none 0 0 : Value).cells.toList.map zcell) = [((fun q : List GValue => AV.lst (q.flatMap GValue.cs) q.length) [])] := by rfl
theorem in_41 : Info Tryd.prog 41 1 24 (.slice none 0 0) := by unfold Info; kernel_rfl
theorem one_41 : (.slice none 0 0 : Value).cells.all (·.oneCell') = true := by kernel_rfl
theorem zc_41 : ((.slice none 0 0 : Value).cells.toList.map zcell) = [((fun q : List GSet => AV.lst (q.flatMap GSet.cs) q.length) [])] := by rfl
theorem in_34 : Info Tryd.prog 34 1 24 (.slice none 0 0) := by unfold Info; kernel_rfl
theorem one_34 : (.slice none 0 0 : Value).cells.all (·.oneCell') = true := by kernel_rfl
theorem zc_34 : ((.slice none 0 0 : Value).cells.toList.map zcell) = [((fun q : List GItem => AV.lst (q.flatMap GItem.cs) q.length) [])] := by rfl
theorem in_35 : Info Tryd.prog 35 1 24 (.slice none 0 0) := by unfold Info; kernel_rfl
theorem one_35 : (.slice none 0 0 : Value).cells.all (·.oneCell') = true := by kernel_rfl
theorem zc_35 : ((.slice none 0 0 : Value).cells.toList.map zcell) = [((fun q : List GSort => AV.lst (q.flatMap GSort.cs) q.length) [])] := by rfl
theorem in_71 : Info Tryd.prog 71 8 104 (.agg #[.string ⟨#[]⟩, .int .i64 0, .int .i64 0, .int .i64 0, .int .u64 0, .string ⟨#[]⟩, .string ⟨#[]⟩, .slice none 0 0]) := by unfold Info; kernel_rfl
theorem one_71 : (.agg #[.string ⟨#[]⟩, .int .i64 0, .int .i64 0, .int .i64 0, .int .u64 0, .string ⟨#[]⟩, .string ⟨#[]⟩, .slice none 0 0] : Value).cells.all (·.oneCell') = true := by kernel_rfl
theorem zc_71 : ((.agg #[.string ⟨#[]⟩, .int .i64 0, .int .i64 0, .int .i64 0, .int .u64 0, .string ⟨#[]⟩, .string ⟨#[]⟩, .slice none 0 0] : Value).cells.toList.map zcell) = GSet.cs GSet.zero := by rfl
theorem pl_71 : placesOf Tryd.prog 71 = some [(0, 1), (1, 7)] := by kernel_rfl
theorem in_61 : Info Tryd.prog 61 8 96 (.agg #[.int .i64 0, .int .i64 0, .int .i64 0, .int .i64 0, .int .u64 0, .string ⟨#[]⟩, .string ⟨#[]⟩, .slice none 0 0]) := by unfold Info; kernel_rfl
theorem one_61 : (.agg #[.int .i64 0, .int .i64 0, .int .i64 0, .int .i64 0, .int .u64 0, .string ⟨#[]⟩, .string ⟨#[]⟩, .slice none 0 0] : Value).cells.all (·.oneCell') = true := by kernel_rfl
theorem zc_61 : ((.agg #[.int .i64 0, .int .i64 0, .int .i64 0, .int .i64 0, .int .u64 0, .string ⟨#[]⟩, .string ⟨#[]⟩, .slice none 0 0] : Value).cells.toList.map zcell) = GItem.cs GItem.zero := by rfl
theorem pl_61 : placesOf Tryd.prog 61 = some [(0, 1), (1, 7)] := by kernel_rfl
theorem eq_24 : EqT Tryd.prog 24 2 (fun x : GValue => .agg (GValue.cs x)) :=
  eqt_struct [fun a b => a.Kind = b.Kind, fun a b => a.Int_ = b.Int_, fun a b => a.Bits = b.Bits, fun a b => a.Text = b.Text] Tryd.underlying24 (by kernel_rfl) ⟨(FieldEq.more (fe_one (by decide) Tryd.underlying3 rfl (eqt_int Tryd.underlying3) (fun a => GValue.sub0 a)) (by decide : 1 ≤ 1)), (FieldEq.more (fe_one (by decide) Tryd.underlying3 rfl (eqt_int Tryd.underlying3) (fun a => GValue.sub1 a)) (by decide : 1 ≤ 1)), (FieldEq.more (fe_one (by decide) Tryd.underlying22 rfl (eqt_u64 Tryd.underlying22) (fun a => GValue.sub2 a)) (by decide : 1 ≤ 1)), (FieldEq.more (fe_one (by decide) Tryd.underlying9 rfl (eqt_txt Tryd.underlying9) (fun a => GValue.sub3 a)) (by decide : 1 ≤ 1)), trivial⟩ (fun a b => by
    cases a; cases b
    simp)

/-! lex.sign -/
noncomputable def g_lex_sign (t0 : List UInt8) : Option (Bool) :=
  ((if t0 = [40] then some (decide (t0 = [40])) else (if t0 = [41] then some (decide (t0 = [41])) else (if t0 = [44] then some (decide (t0 = [44])) else (if t0 = [46] then some (decide (t0 = [46])) else (if t0 = [61] then some (decide (t0 = [61])) else (if t0 = [60] then some (decide (t0 = [60])) else (if t0 = [62] then some (decide (t0 = [62])) else (if t0 = [60, 61] then some (decide (t0 = [60, 61])) else (if t0 = [62, 61] then some (decide (t0 = [62, 61])) else (if t0 = [60, 62] then some (decide (t0 = [60, 62])) else (if t0 = [43] then some (decide (t0 = [43])) else (if t0 = [45] then some (decide (t0 = [45])) else (if t0 = [42] then some (decide (t0 = [42])) else (if t0 = [47] then some (decide (t0 = [47])) else (if t0 = [124, 124] then some (decide (t0 = [124, 124])) else some (decide (t0 = [59])))))))))))))))))).bind fun j'1 => (if j'1 = true then some true else some false)
set_option maxHeartbeats 4000000 in
set_option maxRecDepth 100000 in
theorem g_lex_sign_ac {t0 : List UInt8} {r : Bool} (H : g_lex_sign t0 = some r) : ACp Tryd.prog 68 [(AV.txt t0)] (AV.bool r) := by
 refine ACp_of (AC2_of_body (vs := [.b r]) Tryd.func68 rfl rfl (Nat.le_of_ble_eq_true rfl) rfl ?_) (fun _ => .same _)
 unfold g_lex_sign at H
 refine as2 [(0, .t t0)] [] rfl rfl rfl ?_
 refine sg [0] rfl ?_
 refine rp rfl rfl (p_asg rfl rfl) ?_
 refine rz [(0, .t t0)] [] rfl rfl rfl ?_
 refine AW2_seq ?_
 refine sg [0] rfl ?_
 refine rp rfl rfl (p_move rfl rfl) ?_
 refine rz [(3, .t t0)] [] rfl rfl rfl ?_
 refine AW2_block ?_
 refine AW2_seq ?_
 refine bindK H fun j'1 h1 H => ?_
 refine AW2_mid (⟨[(4, .b j'1)], [], 21⟩ : TS) ?_ ?_
 ·clear H
  have H := h1
  clear h1
  refine sg [0, 1] rfl ?_
  refine rp rfl rfl (p_seq rfl rfl rfl) ?_
  refine rp rfl rfl (p_asg rfl rfl) ?_
  refine rz [(3, .t t0), (4, .b (decide (t0 = [40])))] [] rfl rfl rfl ?_
  refine AW2_if (p := t0 = [40]) rfl (fun h2 => ?_) (fun h2 => ?_)
  ·replace H := ite_then h2 H
   refine as2 [(4, .b (decide (t0 = [40])))] [] rfl rfl rfl ?_
   refine AW2_skip ?_
   have hz := some_elim H
   subst hz
   exact rfl
  ·replace H := ite_else h2 H
   refine sg [0, 1] rfl ?_
   refine rp rfl rfl (p_seq rfl rfl rfl) ?_
   refine rp rfl rfl (p_asg rfl rfl) ?_
   refine rz [(3, .t t0), (4, .b (decide (t0 = [41])))] [] rfl rfl rfl ?_
   refine AW2_if (p := t0 = [41]) rfl (fun h3 => ?_) (fun h3 => ?_)
   ·replace H := ite_then h3 H
    refine as2 [(4, .b (decide (t0 = [41])))] [] rfl rfl rfl ?_
    refine AW2_skip ?_
    have hz := some_elim H
    subst hz
    exact rfl
   ·replace H := ite_else h3 H
    refine sg [0, 1] rfl ?_
    refine rp rfl rfl (p_seq rfl rfl rfl) ?_
    refine rp rfl rfl (p_asg rfl rfl) ?_
    refine rz [(3, .t t0), (4, .b (decide (t0 = [44])))] [] rfl rfl rfl ?_
    refine AW2_if (p := t0 = [44]) rfl (fun h4 => ?_) (fun h4 => ?_)
    ·replace H := ite_then h4 H
     refine as2 [(4, .b (decide (t0 = [44])))] [] rfl rfl rfl ?_
     refine AW2_skip ?_
     have hz := some_elim H
     subst hz
     exact rfl
    ·replace H := ite_else h4 H
     refine sg [0, 1] rfl ?_
     refine rp rfl rfl (p_seq rfl rfl rfl) ?_
     refine rp rfl rfl (p_asg rfl rfl) ?_
     refine rz [(3, .t t0), (4, .b (decide (t0 = [46])))] [] rfl rfl rfl ?_
     refine AW2_if (p := t0 = [46]) rfl (fun h5 => ?_) (fun h5 => ?_)
     ·replace H := ite_then h5 H
      refine as2 [(4, .b (decide (t0 = [46])))] [] rfl rfl rfl ?_
      refine AW2_skip ?_
      have hz := some_elim H
      subst hz
      exact rfl
     ·replace H := ite_else h5 H
      refine sg [0, 1] rfl ?_
      refine rp rfl rfl (p_seq rfl rfl rfl) ?_
      refine rp rfl rfl (p_asg rfl rfl) ?_
      refine rz [(3, .t t0), (4, .b (decide (t0 = [61])))] [] rfl rfl rfl ?_
      refine AW2_if (p := t0 = [61]) rfl (fun h6 => ?_) (fun h6 => ?_)
      ·replace H := ite_then h6 H
       refine as2 [(4, .b (decide (t0 = [61])))] [] rfl rfl rfl ?_
       refine AW2_skip ?_
       have hz := some_elim H
       subst hz
       exact rfl
      ·replace H := ite_else h6 H
       refine sg [0, 1] rfl ?_
       refine rp rfl rfl (p_seq rfl rfl rfl) ?_
       refine rp rfl rfl (p_asg rfl rfl) ?_
       refine rz [(3, .t t0), (4, .b (decide (t0 = [60])))] [] rfl rfl rfl ?_
       refine AW2_if (p := t0 = [60]) rfl (fun h7 => ?_) (fun h7 => ?_)
       ·replace H := ite_then h7 H
        refine as2 [(4, .b (decide (t0 = [60])))] [] rfl rfl rfl ?_
        refine AW2_skip ?_
        have hz := some_elim H
        subst hz
        exact rfl
       ·replace H := ite_else h7 H
        refine sg [0, 1] rfl ?_
        refine rp rfl rfl (p_seq rfl rfl rfl) ?_
        refine rp rfl rfl (p_asg rfl rfl) ?_
        refine rz [(3, .t t0), (4, .b (decide (t0 = [62])))] [] rfl rfl rfl ?_
        refine AW2_if (p := t0 = [62]) rfl (fun h8 => ?_) (fun h8 => ?_)
        ·replace H := ite_then h8 H
         refine as2 [(4, .b (decide (t0 = [62])))] [] rfl rfl rfl ?_
         refine AW2_skip ?_
         have hz := some_elim H
         subst hz
         exact rfl
        ·replace H := ite_else h8 H
         refine sg [0, 1] rfl ?_
         refine rp rfl rfl (p_seq rfl rfl rfl) ?_
         refine rp rfl rfl (p_asg rfl rfl) ?_
         refine rz [(3, .t t0), (4, .b (decide (t0 = [60, 61])))] [] rfl rfl rfl ?_
         refine AW2_if (p := t0 = [60, 61]) rfl (fun h9 => ?_) (fun h9 => ?_)
         ·replace H := ite_then h9 H
          refine as2 [(4, .b (decide (t0 = [60, 61])))] [] rfl rfl rfl ?_
          refine AW2_skip ?_
          have hz := some_elim H
          subst hz
          exact rfl
         ·replace H := ite_else h9 H
          refine sg [0, 1] rfl ?_
          refine rp rfl rfl (p_seq rfl rfl rfl) ?_
          refine rp rfl rfl (p_asg rfl rfl) ?_
          refine rz [(3, .t t0), (4, .b (decide (t0 = [62, 61])))] [] rfl rfl rfl ?_
          refine AW2_if (p := t0 = [62, 61]) rfl (fun h10 => ?_) (fun h10 => ?_)
          ·replace H := ite_then h10 H
           refine as2 [(4, .b (decide (t0 = [62, 61])))] [] rfl rfl rfl ?_
           refine AW2_skip ?_
           have hz := some_elim H
           subst hz
           exact rfl
          ·replace H := ite_else h10 H
           refine sg [0, 1] rfl ?_
           refine rp rfl rfl (p_seq rfl rfl rfl) ?_
           refine rp rfl rfl (p_asg rfl rfl) ?_
           refine rz [(3, .t t0), (4, .b (decide (t0 = [60, 62])))] [] rfl rfl rfl ?_
           refine AW2_if (p := t0 = [60, 62]) rfl (fun h11 => ?_) (fun h11 => ?_)
           ·replace H := ite_then h11 H
            refine as2 [(4, .b (decide (t0 = [60, 62])))] [] rfl rfl rfl ?_
            refine AW2_skip ?_
            have hz := some_elim H
            subst hz
            exact rfl
           ·replace H := ite_else h11 H
            refine sg [0, 1] rfl ?_
            refine rp rfl rfl (p_seq rfl rfl rfl) ?_
            refine rp rfl rfl (p_asg rfl rfl) ?_
            refine rz [(3, .t t0), (4, .b (decide (t0 = [43])))] [] rfl rfl rfl ?_
            refine AW2_if (p := t0 = [43]) rfl (fun h12 => ?_) (fun h12 => ?_)
            ·replace H := ite_then h12 H
             refine as2 [(4, .b (decide (t0 = [43])))] [] rfl rfl rfl ?_
             refine AW2_skip ?_
             have hz := some_elim H
             subst hz
             exact rfl
            ·replace H := ite_else h12 H
             refine sg [0, 1] rfl ?_
             refine rp rfl rfl (p_seq rfl rfl rfl) ?_
             refine rp rfl rfl (p_asg rfl rfl) ?_
             refine rz [(3, .t t0), (4, .b (decide (t0 = [45])))] [] rfl rfl rfl ?_
             refine AW2_if (p := t0 = [45]) rfl (fun h13 => ?_) (fun h13 => ?_)
             ·replace H := ite_then h13 H
              refine as2 [(4, .b (decide (t0 = [45])))] [] rfl rfl rfl ?_
              refine AW2_skip ?_
              have hz := some_elim H
              subst hz
              exact rfl
             ·replace H := ite_else h13 H
              refine sg [0, 1] rfl ?_
              refine rp rfl rfl (p_seq rfl rfl rfl) ?_
              refine rp rfl rfl (p_asg rfl rfl) ?_
              refine rz [(3, .t t0), (4, .b (decide (t0 = [42])))] [] rfl rfl rfl ?_
              refine AW2_if (p := t0 = [42]) rfl (fun h14 => ?_) (fun h14 => ?_)
              ·replace H := ite_then h14 H
               refine as2 [(4, .b (decide (t0 = [42])))] [] rfl rfl rfl ?_
               refine AW2_skip ?_
               have hz := some_elim H
               subst hz
               exact rfl
              ·replace H := ite_else h14 H
               refine sg [0, 1] rfl ?_
               refine rp rfl rfl (p_seq rfl rfl rfl) ?_
               refine rp rfl rfl (p_asg rfl rfl) ?_
               refine rz [(3, .t t0), (4, .b (decide (t0 = [47])))] [] rfl rfl rfl ?_
               refine AW2_if (p := t0 = [47]) rfl (fun h15 => ?_) (fun h15 => ?_)
               ·replace H := ite_then h15 H
                refine as2 [(4, .b (decide (t0 = [47])))] [] rfl rfl rfl ?_
                refine AW2_skip ?_
                have hz := some_elim H
                subst hz
                exact rfl
               ·replace H := ite_else h15 H
                refine sg [0, 1] rfl ?_
                refine rp rfl rfl (p_seq rfl rfl rfl) ?_
                refine rp rfl rfl (p_asg rfl rfl) ?_
                refine rz [(3, .t t0), (4, .b (decide (t0 = [124, 124])))] [] rfl rfl rfl ?_
                refine AW2_if (p := t0 = [124, 124]) rfl (fun h16 => ?_) (fun h16 => ?_)
                ·replace H := ite_then h16 H
                 refine as2 [(4, .b (decide (t0 = [124, 124])))] [] rfl rfl rfl ?_
                 refine AW2_skip ?_
                 have hz := some_elim H
                 subst hz
                 exact rfl
                ·replace H := ite_else h16 H
                 refine AW2_reg [0, 1] rfl ?_
                 refine rp rfl rfl (p_seq rfl rfl rfl) ?_
                 refine rp rfl rfl (p_asg rfl rfl) ?_
                 refine rz [(4, .b (decide (t0 = [59])))] [] rfl rfl rfl ?_
                 have hz := some_elim H
                 subst hz
                 exact rfl
 ·refine AW2_cond rfl (fun h17 => ?_) (fun h17 => ?_)
  ·replace H := ite_then h17 H
   refine sg [0] rfl ?_
   refine rp rfl rfl (p_asg rfl rfl) ?_
   refine rz [(2, .b true)] [] rfl rfl rfl ?_
   refine AW2_ret ?_
   have hz := some_elim H
   subst hz
   exact ⟨⟨res_tmp (.same _), trivial⟩, trivial⟩
  ·replace H := ite_else (ne_true h17) H
   refine as2 [] [] rfl rfl rfl ?_
   refine AW2_skip ?_
   refine sg [0] rfl ?_
   refine rp rfl rfl (p_asg rfl rfl) ?_
   refine rz [(2, .b false)] [] rfl rfl rfl ?_
   refine AW2_ret ?_
   have hz := some_elim H
   subst hz
   exact ⟨⟨res_tmp (.same _), trivial⟩, trivial⟩

/-! lex.all -/
noncomputable def g_lex_all_i0_l0 (s0 : List UInt8) : Int → Option (Int ⊕ (Bool ⊕ Unit))
  | t8_0 => (if t8_0 < (s0.length : Int) then if 0 ≤ t8_0 ∧ t8_0 < (s0.length : Int) then (g_lex_inName (lrd s0 t8_0.toNat)).bind fun r'1 => (if (!r'1) = true then some (.inr (.inl false)) else some (.inl (w64 (t8_0 + (1 : Int))))) else none else some (.inr (.inr ())))
noncomputable def g_lex_all_i0 (s0 : List UInt8) : Option (Bool) :=
  (loopO (g_lex_all_i0_l0 s0) (0 : Int)).bind fun o'5 => match o'5 with | .inl y'6 => some y'6 | .inr (y'7) => some (decide (s0 ≠ []))
set_option maxHeartbeats 4000000 in
set_option maxRecDepth 100000 in
theorem g_lex_all_i0_ac {s0 : List UInt8} {r : Bool} (H : g_lex_all_i0 s0 = some r) : ACp Tryd.prog 64 [(AV.txt s0), .clo 65 []] (AV.bool r) := by
 refine ACp_of (AC2_of_body (vs := [.b r]) Tryd.func64 rfl rfl (Nat.le_of_ble_eq_true rfl) rfl ?_) (fun _ => .same _)
 unfold g_lex_all_i0 at H
 refine AW2_st [(0, .t s0), (1, .clo 65 [])] [] rfl ⟨TLes.same _, (fun _ => .same _), trivial⟩ trivial ?_
 refine sg [0] rfl ?_
 refine rp rfl rfl (p_asg rfl rfl) ?_
 refine RunW_st [(0, .t s0), (1, .clo 65 [])] [] rfl ⟨TLes.same _, (fun _ => .same _), trivial⟩ trivial ?_
 refine RunW_nil ?_
 refine AW2_seq ?_
 refine sg [0, 1, 2] rfl ?_
 refine rp rfl rfl (p_move rfl rfl) ?_
 refine rp rfl rfl (p_lent rfl Tryd.underlying9 rfl) ?_
 refine rp rfl rfl (p_move rfl rfl) ?_
 refine RunW_st [(0, .t s0), (1, .clo 65 []), (7, .i (s0.length : Int)), (8, .i (0 : Int))] [] rfl ⟨TLes.same _, (fun _ => .same _), TLes.same _, TLes.same _, trivial⟩ trivial ?_
 refine RunW_nil ?_
 refine AW2_block ?_
 refine AW2_st [(0, .t s0), (1, .clo 65 []), (7, .i (s0.length : Int)), (8, .i (0 : Int))] [] rfl ⟨TLes.same _, (fun _ => .same _), TLes.same _, TLes.same _, trivial⟩ trivial ?_
 refine bindK H fun o'5 h5 H => ?_
 refine AW2_loopO (fun a'2 : Int => (⟨[(0, .t s0), (1, .clo 65 []), (7, .i (s0.length : Int)), (8, .i a'2)], [], 20⟩ : TS)) (fun (o : Bool ⊕ Unit) e s' => match o with | .inl y'3 => e = Go.Exit.ret ∧ ResAll Tryd.prog s' [ResultVar.tmp 4] [.b y'3] ∧ HFits s' [] | .inr (y'4) => e = Go.Exit.exit 0 ∧ s' = (⟨[(0, .t s0)], [], 20⟩ : TS)) h5 rfl (fun t8_0 x hx => ?_) (fun e s' hs => ?_)
 ·clear H
  have H := hx
  clear hx
  unfold g_lex_all_i0_l0 at H
  refine sg [0] rfl ?_
  refine rp rfl rfl (p_bin rfl rfl rfl rfl) ?_
  refine RunW_st [(0, .t s0), (1, .clo 65 []), (7, .i (s0.length : Int)), (8, .i t8_0), (9, .b (decide (t8_0 < (s0.length : Int))))] [] rfl ⟨TLes.same _, (fun _ => .same _), TLes.same _, TLes.same _, TLes.same _, trivial⟩ trivial ?_
  refine RunW_nil ?_
  refine AW2_seq ?_
  refine AW2_if (p := t8_0 < (s0.length : Int)) rfl (fun h1 => ?_) (fun h1 => ?_)
  ·replace H := ite_then h1 H
   refine AW2_st [(0, .t s0), (1, .clo 65 []), (7, .i (s0.length : Int)), (8, .i t8_0)] [] rfl ⟨TLes.same _, (fun _ => .same _), TLes.same _, TLes.same _, trivial⟩ trivial ?_
   refine AW2_skip ?_
   refine AW2_seq ?_
   refine AW2_block ?_
   refine sg [0, 1] rfl ?_
   refine rp rfl rfl (p_move rfl rfl) ?_
   refine rp rfl rfl (p_asg rfl rfl) ?_
   refine RunW_st [(0, .t s0), (1, .clo 65 []), (5, .i t8_0), (7, .i (s0.length : Int)), (8, .i t8_0)] [] rfl ⟨TLes.same _, (fun _ => .same _), TLes.same _, TLes.same _, TLes.same _, trivial⟩ trivial ?_
   refine RunW_nil ?_
   refine sg [0, 1, 2, 3, 4, 5] rfl ?_
   refine rp rfl rfl (p_move rfl rfl) ?_
   refine rp rfl rfl (p_move rfl rfl) ?_
   refine rp rfl rfl (p_move rfl rfl) ?_
   refine chkK H fun h2 H => ?_
   refine rp rfl rfl (p_ixt rfl Tryd.underlying9 rfl rfl (ixe h2) (lrd_get (ixn h2))) ?_
   refine bindK H fun r'1 h3 H => ?_
   refine rp rfl rfl (p_callp rfl rfl rfl Tryd.func65 rfl rfl (g_lex_inName_ac h3) ⟨rfl, trivial⟩) ?_
   refine rp rfl rfl (p_not rfl rfl) ?_
   refine RunW_st [(0, .t s0), (1, .clo 65 []), (7, .i (s0.length : Int)), (8, .i t8_0), (16, .b (!r'1))] [] rfl ⟨TLes.same _, (fun _ => .same _), TLes.same _, TLes.same _, TLes.same _, trivial⟩ trivial ?_
   refine RunW_nil ?_
   refine AW2_cond rfl (fun h4 => ?_) (fun h4 => ?_)
   ·replace H := ite_then h4 H
    refine sg [0] rfl ?_
    refine rp rfl rfl (p_asg rfl rfl) ?_
    refine rz [(4, .b false)] [] rfl rfl rfl ?_
    refine AW2_ret ?_
    have hz := some_elim H
    subst hz
    exact ⟨rfl, ⟨res_tmp (.same _), trivial⟩, trivial⟩
   ·replace H := ite_else (ne_true h4) H
    refine AW2_st [(0, .t s0), (1, .clo 65 []), (7, .i (s0.length : Int)), (8, .i t8_0)] [] rfl ⟨TLes.same _, (fun _ => .same _), TLes.same _, TLes.same _, trivial⟩ trivial ?_
    refine AW2_skip ?_
    refine AW2_reg [0, 1] rfl ?_
    refine rp rfl rfl (p_bin rfl rfl rfl rfl) ?_
    refine rp rfl rfl (p_move rfl rfl) ?_
    refine RunW_st [(0, .t s0), (1, .clo 65 []), (7, .i (s0.length : Int)), (8, .i (w64 (t8_0 + (1 : Int))))] [] rfl ⟨TLes.same _, (fun _ => .same _), TLes.same _, TLes.same _, trivial⟩ trivial ?_
    refine RunW_nil ?_
    have hz := some_elim H
    subst hz
    exact ⟨rfl, rfl⟩
  ·replace H := ite_else h1 H
   refine as2 [(0, .t s0)] [] rfl rfl rfl ?_
   refine AW2_exit ?_
   refine thenQ2_exit ?_
   have hz := some_elim H
   subst hz
   exact ⟨rfl, rfl⟩
 ·rcases o'5 with y'6 | y'7
  ·obtain ⟨rfl, hs⟩ := hs
   refine ⟨by simp, ?_⟩
   have hz := some_elim H
   subst hz
   exact ⟨hs.1, hs.2⟩
  ·obtain ⟨rfl, rfl⟩ := hs
   refine ⟨by simp, ?_⟩
   refine blockQ2_exit ?_
   refine sg [0, 1, 2] rfl ?_
   refine rp rfl rfl (p_move rfl rfl) ?_
   refine rp rfl rfl (p_sne rfl rfl rfl) ?_
   refine rp rfl rfl (p_asg rfl rfl) ?_
   refine rz [(4, .b (decide (s0 ≠ [])))] [] rfl rfl rfl ?_
   refine AW2_ret ?_
   have hz := some_elim H
   subst hz
   exact ⟨⟨res_tmp (.same _), trivial⟩, trivial⟩

/-! lex.all -/
noncomputable def g_lex_all_i1_l0 (s0 : List UInt8) : Int → Option (Int ⊕ (Bool ⊕ Unit))
  | t8_0 => (if t8_0 < (s0.length : Int) then if 0 ≤ t8_0 ∧ t8_0 < (s0.length : Int) then (g_lex_great (lrd s0 t8_0.toNat)).bind fun r'1 => (if (!r'1) = true then some (.inr (.inl false)) else some (.inl (w64 (t8_0 + (1 : Int))))) else none else some (.inr (.inr ())))
noncomputable def g_lex_all_i1 (s0 : List UInt8) : Option (Bool) :=
  (loopO (g_lex_all_i1_l0 s0) (0 : Int)).bind fun o'5 => match o'5 with | .inl y'6 => some y'6 | .inr (y'7) => some (decide (s0 ≠ []))
set_option maxHeartbeats 4000000 in
set_option maxRecDepth 100000 in
theorem g_lex_all_i1_ac {s0 : List UInt8} {r : Bool} (H : g_lex_all_i1 s0 = some r) : ACp Tryd.prog 64 [(AV.txt s0), .clo 67 []] (AV.bool r) := by
 refine ACp_of (AC2_of_body (vs := [.b r]) Tryd.func64 rfl rfl (Nat.le_of_ble_eq_true rfl) rfl ?_) (fun _ => .same _)
 unfold g_lex_all_i1 at H
 refine AW2_st [(0, .t s0), (1, .clo 67 [])] [] rfl ⟨TLes.same _, (fun _ => .same _), trivial⟩ trivial ?_
 refine sg [0] rfl ?_
 refine rp rfl rfl (p_asg rfl rfl) ?_
 refine RunW_st [(0, .t s0), (1, .clo 67 [])] [] rfl ⟨TLes.same _, (fun _ => .same _), trivial⟩ trivial ?_
 refine RunW_nil ?_
 refine AW2_seq ?_
 refine sg [0, 1, 2] rfl ?_
 refine rp rfl rfl (p_move rfl rfl) ?_
 refine rp rfl rfl (p_lent rfl Tryd.underlying9 rfl) ?_
 refine rp rfl rfl (p_move rfl rfl) ?_
 refine RunW_st [(0, .t s0), (1, .clo 67 []), (7, .i (s0.length : Int)), (8, .i (0 : Int))] [] rfl ⟨TLes.same _, (fun _ => .same _), TLes.same _, TLes.same _, trivial⟩ trivial ?_
 refine RunW_nil ?_
 refine AW2_block ?_
 refine AW2_st [(0, .t s0), (1, .clo 67 []), (7, .i (s0.length : Int)), (8, .i (0 : Int))] [] rfl ⟨TLes.same _, (fun _ => .same _), TLes.same _, TLes.same _, trivial⟩ trivial ?_
 refine bindK H fun o'5 h5 H => ?_
 refine AW2_loopO (fun a'2 : Int => (⟨[(0, .t s0), (1, .clo 67 []), (7, .i (s0.length : Int)), (8, .i a'2)], [], 20⟩ : TS)) (fun (o : Bool ⊕ Unit) e s' => match o with | .inl y'3 => e = Go.Exit.ret ∧ ResAll Tryd.prog s' [ResultVar.tmp 4] [.b y'3] ∧ HFits s' [] | .inr (y'4) => e = Go.Exit.exit 0 ∧ s' = (⟨[(0, .t s0)], [], 20⟩ : TS)) h5 rfl (fun t8_0 x hx => ?_) (fun e s' hs => ?_)
 ·clear H
  have H := hx
  clear hx
  unfold g_lex_all_i1_l0 at H
  refine sg [0] rfl ?_
  refine rp rfl rfl (p_bin rfl rfl rfl rfl) ?_
  refine RunW_st [(0, .t s0), (1, .clo 67 []), (7, .i (s0.length : Int)), (8, .i t8_0), (9, .b (decide (t8_0 < (s0.length : Int))))] [] rfl ⟨TLes.same _, (fun _ => .same _), TLes.same _, TLes.same _, TLes.same _, trivial⟩ trivial ?_
  refine RunW_nil ?_
  refine AW2_seq ?_
  refine AW2_if (p := t8_0 < (s0.length : Int)) rfl (fun h1 => ?_) (fun h1 => ?_)
  ·replace H := ite_then h1 H
   refine AW2_st [(0, .t s0), (1, .clo 67 []), (7, .i (s0.length : Int)), (8, .i t8_0)] [] rfl ⟨TLes.same _, (fun _ => .same _), TLes.same _, TLes.same _, trivial⟩ trivial ?_
   refine AW2_skip ?_
   refine AW2_seq ?_
   refine AW2_block ?_
   refine sg [0, 1] rfl ?_
   refine rp rfl rfl (p_move rfl rfl) ?_
   refine rp rfl rfl (p_asg rfl rfl) ?_
   refine RunW_st [(0, .t s0), (1, .clo 67 []), (5, .i t8_0), (7, .i (s0.length : Int)), (8, .i t8_0)] [] rfl ⟨TLes.same _, (fun _ => .same _), TLes.same _, TLes.same _, TLes.same _, trivial⟩ trivial ?_
   refine RunW_nil ?_
   refine sg [0, 1, 2, 3, 4, 5] rfl ?_
   refine rp rfl rfl (p_move rfl rfl) ?_
   refine rp rfl rfl (p_move rfl rfl) ?_
   refine rp rfl rfl (p_move rfl rfl) ?_
   refine chkK H fun h2 H => ?_
   refine rp rfl rfl (p_ixt rfl Tryd.underlying9 rfl rfl (ixe h2) (lrd_get (ixn h2))) ?_
   refine bindK H fun r'1 h3 H => ?_
   refine rp rfl rfl (p_callp rfl rfl rfl Tryd.func67 rfl rfl (g_lex_great_ac h3) ⟨rfl, trivial⟩) ?_
   refine rp rfl rfl (p_not rfl rfl) ?_
   refine RunW_st [(0, .t s0), (1, .clo 67 []), (7, .i (s0.length : Int)), (8, .i t8_0), (16, .b (!r'1))] [] rfl ⟨TLes.same _, (fun _ => .same _), TLes.same _, TLes.same _, TLes.same _, trivial⟩ trivial ?_
   refine RunW_nil ?_
   refine AW2_cond rfl (fun h4 => ?_) (fun h4 => ?_)
   ·replace H := ite_then h4 H
    refine sg [0] rfl ?_
    refine rp rfl rfl (p_asg rfl rfl) ?_
    refine rz [(4, .b false)] [] rfl rfl rfl ?_
    refine AW2_ret ?_
    have hz := some_elim H
    subst hz
    exact ⟨rfl, ⟨res_tmp (.same _), trivial⟩, trivial⟩
   ·replace H := ite_else (ne_true h4) H
    refine AW2_st [(0, .t s0), (1, .clo 67 []), (7, .i (s0.length : Int)), (8, .i t8_0)] [] rfl ⟨TLes.same _, (fun _ => .same _), TLes.same _, TLes.same _, trivial⟩ trivial ?_
    refine AW2_skip ?_
    refine AW2_reg [0, 1] rfl ?_
    refine rp rfl rfl (p_bin rfl rfl rfl rfl) ?_
    refine rp rfl rfl (p_move rfl rfl) ?_
    refine RunW_st [(0, .t s0), (1, .clo 67 []), (7, .i (s0.length : Int)), (8, .i (w64 (t8_0 + (1 : Int))))] [] rfl ⟨TLes.same _, (fun _ => .same _), TLes.same _, TLes.same _, trivial⟩ trivial ?_
    refine RunW_nil ?_
    have hz := some_elim H
    subst hz
    exact ⟨rfl, rfl⟩
  ·replace H := ite_else h1 H
   refine as2 [(0, .t s0)] [] rfl rfl rfl ?_
   refine AW2_exit ?_
   refine thenQ2_exit ?_
   have hz := some_elim H
   subst hz
   exact ⟨rfl, rfl⟩
 ·rcases o'5 with y'6 | y'7
  ·obtain ⟨rfl, hs⟩ := hs
   refine ⟨by simp, ?_⟩
   have hz := some_elim H
   subst hz
   exact ⟨hs.1, hs.2⟩
  ·obtain ⟨rfl, rfl⟩ := hs
   refine ⟨by simp, ?_⟩
   refine blockQ2_exit ?_
   refine sg [0, 1, 2] rfl ?_
   refine rp rfl rfl (p_move rfl rfl) ?_
   refine rp rfl rfl (p_sne rfl rfl rfl) ?_
   refine rp rfl rfl (p_asg rfl rfl) ?_
   refine rz [(4, .b (decide (s0 ≠ [])))] [] rfl rfl rfl ?_
   refine AW2_ret ?_
   have hz := some_elim H
   subst hz
   exact ⟨⟨res_tmp (.same _), trivial⟩, trivial⟩

/-! lex.Check -/
noncomputable def g_lex_Check (t0 : GToken) : Option (Int) :=
  (if (t0.Kind < (1 : Int)) ∨ (t0.Kind > (6 : Int)) then some (2 : Int) else letO (decide (((t0.Kind = (4 : Int)) ∧ ((t0.Text.length : Int) > (40 : Int))) ∨ (((t0.Kind = (1 : Int)) ∨ (t0.Kind = (2 : Int))) ∧ ((t0.Text.length : Int) > (8 : Int))))) fun t36'1 => (if t36'1 = true then some (1 : Int) else letO (decide ((((t0.Kind ≠ (3 : Int)) ∧ (t0.Int_ ≠ (0 : Int))) ∨ ((t0.Kind ≠ (5 : Int)) ∧ (t0.Bits ≠ (0 : UInt64)))) ∨ (((t0.Kind = (3 : Int)) ∨ (t0.Kind = (5 : Int))) ∧ (t0.Text ≠ [])))) fun t69'2 => (if t69'2 = true then some (3 : Int) else ((if t0.Kind = (1 : Int) then ((g_lex_all_i0 t0.Text).bind fun r'5 => (if r'5 = true then if 0 < t0.Text.length then (g_lex_small (lrd t0.Text 0)).bind fun r'6 => some r'6 else none else some false)).bind fun g'7 => some g'7 else (if t0.Kind = (2 : Int) then (g_lex_all_i1 t0.Text).bind fun r'8 => some r'8 else (if t0.Kind = (3 : Int) then some (decide (t0.Int_ ≥ (0 : Int))) else (if t0.Kind = (4 : Int) then (g_utf8_ValidString t0.Text).bind fun r'9 => some r'9 else (if t0.Kind = (5 : Int) then (g_value_Check ({ { GValue.zero with Kind := (3 : Int) } with Bits := t0.Bits })).bind fun r'10 => some (decide (r'10 = (0 : Int))) else (if t0.Kind = (6 : Int) then (g_lex_sign t0.Text).bind fun r'11 => some r'11 else some true))))))).bind fun j'3 => (if (!j'3) = true then some (3 : Int) else some (0 : Int)))))
set_option maxHeartbeats 4000000 in
set_option maxRecDepth 100000 in
theorem g_lex_Check_ac {t0 : GToken} {r : Int} (H : g_lex_Check t0 = some r) : ACp Tryd.prog 45 [(.agg (GToken.cs t0))] (AV.int r) := by
 refine ACp_of (AC2_of_body (vs := [.i r]) Tryd.func45 rfl rfl (Nat.le_of_ble_eq_true rfl) rfl ?_) (fun _ => .same _)
 unfold g_lex_Check at H
 refine as2 [(0, .g (GToken.cs t0))] [] rfl rfl rfl ?_
 refine sg [0, 1] rfl ?_
 refine r_op rfl rfl (MakeD.opD (n_box 1 rfl rfl) rfl rfl rfl rfl) ?_
 refine rp rfl rfl (p_asg rfl rfl) ?_
 refine rz [(1, .q 1 (0))] [(1, .pure (GToken.cs t0))] rfl rfl rfl ?_
 refine AW2_seq ?_
 refine AW2_seq ?_
 refine AW2_mid (⟨[(1, .q 1 (0)), (11, .b (decide ((t0.Kind < (1 : Int)) ∨ (t0.Kind > (6 : Int)))))], [(1, .pure (GToken.cs t0))], 112⟩ : TS) ?_ ?_
 ·refine AW2_reg [0, 1, 2, 3, 4, 5, 6, 7] rfl ?_
  refine rp rfl rfl (u_fa rfl rfl Tryd.underlying82 rfl in_3 (Nat.succ_ne_zero _) rfl rfl (ne_of_lt (n := 0) (Nat.lt_of_lt_of_eq (by decide) (Eq.symm (GToken.len t0))))) ?_
  refine rp rfl rfl (u_ld rfl rfl Tryd.underlying3 rfl rfl ((Sub.refl _).trans (GToken.sub0 t0))) ?_
  refine rp rfl rfl (p_bin rfl rfl rfl rfl) ?_
  refine rp rfl rfl (p_move rfl rfl) ?_
  refine (Classical.em (t0.Kind < (1 : Int))).elim (fun h1 => ?_) (fun h1 => ?_)
  ·iterate 3 (refine r_off rfl rfl rfl rfl (decide_eq_true h1) rfl rfl ?_)
   refine rp rfl rfl (p_pkt rfl rfl (decide_eq_true h1) (tb (decide_eq_true (p := (t0.Kind < (1 : Int)) ∨ (t0.Kind > (6 : Int))) (Or.inl h1)).symm)) ?_
   refine rs [(1, .q 1 (0)), (11, .b (decide ((t0.Kind < (1 : Int)) ∨ (t0.Kind > (6 : Int)))))] [(1, .pure (GToken.cs t0))] rfl rfl rfl ?_
   exact RunW_nil rfl
  ·refine r_on rfl rfl rfl rfl (decide_eq_false h1) rfl (PureD.opD (u_fa rfl rfl Tryd.underlying82 rfl in_3 (Nat.succ_ne_zero _) rfl rfl (ne_of_lt (n := 0) (Nat.lt_of_lt_of_eq (by decide) (Eq.symm (GToken.len t0)))))) ?_
   refine r_on rfl rfl rfl rfl (decide_eq_false h1) rfl (PureD.opD (u_ld rfl rfl Tryd.underlying3 rfl rfl ((Sub.refl _).trans (GToken.sub0 t0)))) ?_
   refine r_on rfl rfl rfl rfl (decide_eq_false h1) rfl (PureD.opD (p_bin rfl rfl rfl rfl)) ?_
   refine rp rfl rfl (p_pkf rfl rfl (decide_eq_false h1) (tb ((or_l (p := t0.Kind < (1 : Int)) (q := t0.Kind > (6 : Int)) h1)))) ?_
   refine rs [(1, .q 1 (0)), (11, .b (decide ((t0.Kind < (1 : Int)) ∨ (t0.Kind > (6 : Int)))))] [(1, .pure (GToken.cs t0))] rfl rfl rfl ?_
   exact RunW_nil rfl
 ·refine AW2_if (p := (t0.Kind < (1 : Int)) ∨ (t0.Kind > (6 : Int))) rfl (fun h2 => ?_) (fun h2 => ?_)
  ·replace H := ite_then h2 H
   refine sg [0] rfl ?_
   refine rp rfl rfl (p_asg rfl rfl) ?_
   refine rz [(2, .i (2 : Int))] [] rfl rfl rfl ?_
   refine AW2_ret ?_
   have hz := some_elim H
   subst hz
   exact ⟨⟨res_tmp (.same _), trivial⟩, trivial⟩
  ·replace H := ite_else h2 H
   refine as2 [(1, .q 1 (0))] [(1, .pure (GToken.cs t0))] rfl rfl rfl ?_
   refine AW2_skip ?_
   refine AW2_seq ?_
   refine AW2_seq ?_
   refine AW2_mid (⟨[(1, .q 1 (0)), (36, .b (decide (((t0.Kind = (4 : Int)) ∧ ((t0.Text.length : Int) > (40 : Int))) ∨ (((t0.Kind = (1 : Int)) ∨ (t0.Kind = (2 : Int))) ∧ ((t0.Text.length : Int) > (8 : Int))))))], [(1, .pure (GToken.cs t0))], 112⟩ : TS) ?_ ?_
   ·refine AW2_reg [0, 1, 2, 3, 4, 5, 6, 7, 8, 9, 10, 11, 12, 13, 14, 15, 16, 17, 18, 19, 20, 21, 22, 23, 24] rfl ?_
    refine rp rfl rfl (u_fa rfl rfl Tryd.underlying82 rfl in_3 (Nat.succ_ne_zero _) rfl rfl (ne_of_lt (n := 0) (Nat.lt_of_lt_of_eq (by decide) (Eq.symm (GToken.len t0))))) ?_
    refine rp rfl rfl (u_ld rfl rfl Tryd.underlying3 rfl rfl ((Sub.refl _).trans (GToken.sub0 t0))) ?_
    refine rp rfl rfl (p_ieq rfl rfl rfl) ?_
    refine rp rfl rfl (p_move rfl rfl) ?_
    refine (Classical.em (t0.Kind = (4 : Int))).elim (fun h3 => ?_) (fun h3 => ?_)
    ·refine r_on rfl rfl rfl rfl (decide_eq_true h3) rfl (PureD.opD (u_fa rfl rfl Tryd.underlying82 rfl in_9 (Nat.succ_ne_zero _) rfl rfl (ne_of_lt (n := 0) (Nat.lt_of_lt_of_eq (by decide) (Eq.symm (GToken.len t0)))))) ?_
     refine r_on rfl rfl rfl rfl (decide_eq_true h3) rfl (PureD.opD (u_ld rfl rfl Tryd.underlying9 rfl rfl ((Sub.refl _).trans (GToken.sub1 t0)))) ?_
     refine r_on rfl rfl rfl rfl (decide_eq_true h3) rfl (PureD.opD (p_lent rfl Tryd.underlying9 rfl)) ?_
     refine r_on rfl rfl rfl rfl (decide_eq_true h3) rfl (PureD.opD (p_bin rfl rfl rfl rfl)) ?_
     refine rp rfl rfl (p_pkt rfl rfl (decide_eq_true h3) (tb ((and_l (p := t0.Kind = (4 : Int)) (q := (t0.Text.length : Int) > (40 : Int)) h3)))) ?_
     refine rp rfl rfl (p_move rfl rfl) ?_
     refine (Classical.em ((t0.Text.length : Int) > (40 : Int))).elim (fun h4 => ?_) (fun h4 => ?_)
     ·have qq1 := decide_eq_true (p := (t0.Kind = (4 : Int)) ∧ ((t0.Text.length : Int) > (40 : Int))) ⟨h3, h4⟩
      iterate 4 (refine r_off rfl rfl rfl rfl qq1 rfl rfl ?_)
      iterate 3 (refine r_off2 rfl rfl rfl rfl rfl rfl ?_)
      iterate 2 (refine r_off rfl rfl rfl rfl qq1 rfl rfl ?_)
      iterate 4 (refine r_off2 rfl rfl rfl rfl rfl rfl ?_)
      refine r_off rfl rfl rfl rfl qq1 rfl rfl ?_
      refine rp rfl rfl (p_pkt rfl rfl qq1 (tb (decide_eq_true (p := ((t0.Kind = (4 : Int)) ∧ ((t0.Text.length : Int) > (40 : Int))) ∨ (((t0.Kind = (1 : Int)) ∨ (t0.Kind = (2 : Int))) ∧ ((t0.Text.length : Int) > (8 : Int)))) (Or.inl ⟨h3, h4⟩)).symm)) ?_
      refine rs [(1, .q 1 (0)), (36, .b (decide (((t0.Kind = (4 : Int)) ∧ ((t0.Text.length : Int) > (40 : Int))) ∨ (((t0.Kind = (1 : Int)) ∨ (t0.Kind = (2 : Int))) ∧ ((t0.Text.length : Int) > (8 : Int))))))] [(1, .pure (GToken.cs t0))] rfl rfl rfl ?_
      exact RunW_nil rfl
     ·have qq2 := decide_eq_false (p := (t0.Kind = (4 : Int)) ∧ ((t0.Text.length : Int) > (40 : Int))) (fun h => h4 h.2)
      refine rn rfl rfl rfl rfl qq2 rfl (u_fa rfl rfl Tryd.underlying82 rfl in_3 (Nat.succ_ne_zero _) rfl rfl (ne_of_lt (n := 0) (Nat.lt_of_lt_of_eq (by decide) (Eq.symm (GToken.len t0))))) ?_
      refine rn rfl rfl rfl rfl qq2 rfl (u_ld rfl rfl Tryd.underlying3 rfl rfl ((Sub.refl _).trans (GToken.sub0 t0))) ?_
      refine rn rfl rfl rfl rfl qq2 rfl (p_ieq rfl rfl rfl) ?_
      refine rn rfl rfl rfl rfl qq2 rfl (p_move rfl rfl) ?_
      refine (Classical.em (t0.Kind = (1 : Int))).elim (fun h5 => ?_) (fun h5 => ?_)
      ·iterate 3 (refine r_off rfl rfl rfl rfl (decide_eq_true h5) rfl rfl ?_)
       have qq3 := decide_eq_true (p := (t0.Kind = (1 : Int)) ∨ (t0.Kind = (2 : Int))) (Or.inl h5)
       refine rn rfl rfl rfl rfl qq2 rfl (p_pkt rfl rfl (decide_eq_true h5) (tb qq3.symm)) ?_
       refine rn rfl rfl rfl rfl qq2 rfl (p_move rfl rfl) ?_
       refine rn rfl rfl rfl rfl qq3 rfl (u_fa rfl rfl Tryd.underlying82 rfl in_9 (Nat.succ_ne_zero _) rfl rfl (ne_of_lt (n := 0) (Nat.lt_of_lt_of_eq (by decide) (Eq.symm (GToken.len t0))))) ?_
       refine rn rfl rfl rfl rfl qq3 rfl (u_ld rfl rfl Tryd.underlying9 rfl rfl ((Sub.refl _).trans (GToken.sub1 t0))) ?_
       refine rn rfl rfl rfl rfl qq3 rfl (p_lent rfl Tryd.underlying9 rfl) ?_
       refine rn rfl rfl rfl rfl qq3 rfl (p_bin rfl rfl rfl rfl) ?_
       refine rn rfl rfl rfl rfl qq2 rfl (p_pkt rfl rfl qq3 (tb ((and_l (p := (t0.Kind = (1 : Int)) ∨ (t0.Kind = (2 : Int))) (q := (t0.Text.length : Int) > (8 : Int)) (Or.inl h5))))) ?_
       refine rp rfl rfl (p_pkf rfl rfl qq2 (tb ((or_l (p := (t0.Kind = (4 : Int)) ∧ ((t0.Text.length : Int) > (40 : Int))) (q := ((t0.Kind = (1 : Int)) ∨ (t0.Kind = (2 : Int))) ∧ ((t0.Text.length : Int) > (8 : Int))) (fun h => h4 h.2))))) ?_
       refine rs [(1, .q 1 (0)), (36, .b (decide (((t0.Kind = (4 : Int)) ∧ ((t0.Text.length : Int) > (40 : Int))) ∨ (((t0.Kind = (1 : Int)) ∨ (t0.Kind = (2 : Int))) ∧ ((t0.Text.length : Int) > (8 : Int))))))] [(1, .pure (GToken.cs t0))] rfl rfl rfl ?_
       exact RunW_nil rfl
      ·refine r_on rfl rfl rfl rfl (decide_eq_false h5) rfl (PureD.opD (u_fa rfl rfl Tryd.underlying82 rfl in_3 (Nat.succ_ne_zero _) rfl rfl (ne_of_lt (n := 0) (Nat.lt_of_lt_of_eq (by decide) (Eq.symm (GToken.len t0)))))) ?_
       refine r_on rfl rfl rfl rfl (decide_eq_false h5) rfl (PureD.opD (u_ld rfl rfl Tryd.underlying3 rfl rfl ((Sub.refl _).trans (GToken.sub0 t0)))) ?_
       refine r_on rfl rfl rfl rfl (decide_eq_false h5) rfl (PureD.opD (p_ieq rfl rfl rfl)) ?_
       refine rn rfl rfl rfl rfl qq2 rfl (p_pkf rfl rfl (decide_eq_false h5) (tb ((or_l (p := t0.Kind = (1 : Int)) (q := t0.Kind = (2 : Int)) h5)))) ?_
       refine rn rfl rfl rfl rfl qq2 rfl (p_move rfl rfl) ?_
       refine (Classical.em (t0.Kind = (2 : Int))).elim (fun h6 => ?_) (fun h6 => ?_)
       ·have qq4 := decide_eq_true (p := (t0.Kind = (1 : Int)) ∨ (t0.Kind = (2 : Int))) (Or.inr h6)
        refine rn rfl rfl rfl rfl qq4 rfl (u_fa rfl rfl Tryd.underlying82 rfl in_9 (Nat.succ_ne_zero _) rfl rfl (ne_of_lt (n := 0) (Nat.lt_of_lt_of_eq (by decide) (Eq.symm (GToken.len t0))))) ?_
        refine rn rfl rfl rfl rfl qq4 rfl (u_ld rfl rfl Tryd.underlying9 rfl rfl ((Sub.refl _).trans (GToken.sub1 t0))) ?_
        refine rn rfl rfl rfl rfl qq4 rfl (p_lent rfl Tryd.underlying9 rfl) ?_
        refine rn rfl rfl rfl rfl qq4 rfl (p_bin rfl rfl rfl rfl) ?_
        refine rn rfl rfl rfl rfl qq2 rfl (p_pkt rfl rfl qq4 (tb ((and_l (p := (t0.Kind = (1 : Int)) ∨ (t0.Kind = (2 : Int))) (q := (t0.Text.length : Int) > (8 : Int)) (Or.inr h6))))) ?_
        refine rp rfl rfl (p_pkf rfl rfl qq2 (tb ((or_l (p := (t0.Kind = (4 : Int)) ∧ ((t0.Text.length : Int) > (40 : Int))) (q := ((t0.Kind = (1 : Int)) ∨ (t0.Kind = (2 : Int))) ∧ ((t0.Text.length : Int) > (8 : Int))) (fun h => h4 h.2))))) ?_
        refine rs [(1, .q 1 (0)), (36, .b (decide (((t0.Kind = (4 : Int)) ∧ ((t0.Text.length : Int) > (40 : Int))) ∨ (((t0.Kind = (1 : Int)) ∨ (t0.Kind = (2 : Int))) ∧ ((t0.Text.length : Int) > (8 : Int))))))] [(1, .pure (GToken.cs t0))] rfl rfl rfl ?_
        exact RunW_nil rfl
       ·have qq5 := decide_eq_false (p := (t0.Kind = (1 : Int)) ∨ (t0.Kind = (2 : Int))) (not_or.2 ⟨h5, h6⟩)
        iterate 4 (refine r_off rfl rfl rfl rfl qq5 rfl rfl ?_)
        refine rn rfl rfl rfl rfl qq2 rfl (p_pkf rfl rfl qq5 (tb (decide_eq_false (p := ((t0.Kind = (1 : Int)) ∨ (t0.Kind = (2 : Int))) ∧ ((t0.Text.length : Int) > (8 : Int))) (fun x => (not_or.2 ⟨h5, h6⟩) x.1)).symm)) ?_
        refine rp rfl rfl (p_pkf rfl rfl qq2 (tb ((or_l (p := (t0.Kind = (4 : Int)) ∧ ((t0.Text.length : Int) > (40 : Int))) (q := ((t0.Kind = (1 : Int)) ∨ (t0.Kind = (2 : Int))) ∧ ((t0.Text.length : Int) > (8 : Int))) (fun h => h4 h.2))))) ?_
        refine rs [(1, .q 1 (0)), (36, .b (decide (((t0.Kind = (4 : Int)) ∧ ((t0.Text.length : Int) > (40 : Int))) ∨ (((t0.Kind = (1 : Int)) ∨ (t0.Kind = (2 : Int))) ∧ ((t0.Text.length : Int) > (8 : Int))))))] [(1, .pure (GToken.cs t0))] rfl rfl rfl ?_
        exact RunW_nil rfl
    ·iterate 4 (refine r_off rfl rfl rfl rfl (decide_eq_false h3) rfl rfl ?_)
     refine rp rfl rfl (p_pkf rfl rfl (decide_eq_false h3) (tb (decide_eq_false (p := (t0.Kind = (4 : Int)) ∧ ((t0.Text.length : Int) > (40 : Int))) (fun x => h3 x.1)).symm)) ?_
     refine rp rfl rfl (p_move rfl rfl) ?_
     have qq6 := decide_eq_false (p := (t0.Kind = (4 : Int)) ∧ ((t0.Text.length : Int) > (40 : Int))) (fun h => h3 h.1)
     refine rn rfl rfl rfl rfl qq6 rfl (u_fa rfl rfl Tryd.underlying82 rfl in_3 (Nat.succ_ne_zero _) rfl rfl (ne_of_lt (n := 0) (Nat.lt_of_lt_of_eq (by decide) (Eq.symm (GToken.len t0))))) ?_
     refine rn rfl rfl rfl rfl qq6 rfl (u_ld rfl rfl Tryd.underlying3 rfl rfl ((Sub.refl _).trans (GToken.sub0 t0))) ?_
     refine rn rfl rfl rfl rfl qq6 rfl (p_ieq rfl rfl rfl) ?_
     refine rn rfl rfl rfl rfl qq6 rfl (p_move rfl rfl) ?_
     refine (Classical.em (t0.Kind = (1 : Int))).elim (fun h7 => ?_) (fun h7 => ?_)
     ·iterate 3 (refine r_off rfl rfl rfl rfl (decide_eq_true h7) rfl rfl ?_)
      have qq7 := decide_eq_true (p := (t0.Kind = (1 : Int)) ∨ (t0.Kind = (2 : Int))) (Or.inl h7)
      refine rn rfl rfl rfl rfl qq6 rfl (p_pkt rfl rfl (decide_eq_true h7) (tb qq7.symm)) ?_
      refine rn rfl rfl rfl rfl qq6 rfl (p_move rfl rfl) ?_
      refine rn rfl rfl rfl rfl qq7 rfl (u_fa rfl rfl Tryd.underlying82 rfl in_9 (Nat.succ_ne_zero _) rfl rfl (ne_of_lt (n := 0) (Nat.lt_of_lt_of_eq (by decide) (Eq.symm (GToken.len t0))))) ?_
      refine rn rfl rfl rfl rfl qq7 rfl (u_ld rfl rfl Tryd.underlying9 rfl rfl ((Sub.refl _).trans (GToken.sub1 t0))) ?_
      refine rn rfl rfl rfl rfl qq7 rfl (p_lent rfl Tryd.underlying9 rfl) ?_
      refine rn rfl rfl rfl rfl qq7 rfl (p_bin rfl rfl rfl rfl) ?_
      refine rn rfl rfl rfl rfl qq6 rfl (p_pkt rfl rfl qq7 (tb ((and_l (p := (t0.Kind = (1 : Int)) ∨ (t0.Kind = (2 : Int))) (q := (t0.Text.length : Int) > (8 : Int)) (Or.inl h7))))) ?_
      refine rp rfl rfl (p_pkf rfl rfl qq6 (tb ((or_l (p := (t0.Kind = (4 : Int)) ∧ ((t0.Text.length : Int) > (40 : Int))) (q := ((t0.Kind = (1 : Int)) ∨ (t0.Kind = (2 : Int))) ∧ ((t0.Text.length : Int) > (8 : Int))) (fun h => h3 h.1))))) ?_
      refine rs [(1, .q 1 (0)), (36, .b (decide (((t0.Kind = (4 : Int)) ∧ ((t0.Text.length : Int) > (40 : Int))) ∨ (((t0.Kind = (1 : Int)) ∨ (t0.Kind = (2 : Int))) ∧ ((t0.Text.length : Int) > (8 : Int))))))] [(1, .pure (GToken.cs t0))] rfl rfl rfl ?_
      exact RunW_nil rfl
     ·refine r_on rfl rfl rfl rfl (decide_eq_false h7) rfl (PureD.opD (u_fa rfl rfl Tryd.underlying82 rfl in_3 (Nat.succ_ne_zero _) rfl rfl (ne_of_lt (n := 0) (Nat.lt_of_lt_of_eq (by decide) (Eq.symm (GToken.len t0)))))) ?_
      refine r_on rfl rfl rfl rfl (decide_eq_false h7) rfl (PureD.opD (u_ld rfl rfl Tryd.underlying3 rfl rfl ((Sub.refl _).trans (GToken.sub0 t0)))) ?_
      refine r_on rfl rfl rfl rfl (decide_eq_false h7) rfl (PureD.opD (p_ieq rfl rfl rfl)) ?_
      refine rn rfl rfl rfl rfl qq6 rfl (p_pkf rfl rfl (decide_eq_false h7) (tb ((or_l (p := t0.Kind = (1 : Int)) (q := t0.Kind = (2 : Int)) h7)))) ?_
      refine rn rfl rfl rfl rfl qq6 rfl (p_move rfl rfl) ?_
      refine (Classical.em (t0.Kind = (2 : Int))).elim (fun h8 => ?_) (fun h8 => ?_)
      ·have qq8 := decide_eq_true (p := (t0.Kind = (1 : Int)) ∨ (t0.Kind = (2 : Int))) (Or.inr h8)
       refine rn rfl rfl rfl rfl qq8 rfl (u_fa rfl rfl Tryd.underlying82 rfl in_9 (Nat.succ_ne_zero _) rfl rfl (ne_of_lt (n := 0) (Nat.lt_of_lt_of_eq (by decide) (Eq.symm (GToken.len t0))))) ?_
       refine rn rfl rfl rfl rfl qq8 rfl (u_ld rfl rfl Tryd.underlying9 rfl rfl ((Sub.refl _).trans (GToken.sub1 t0))) ?_
       refine rn rfl rfl rfl rfl qq8 rfl (p_lent rfl Tryd.underlying9 rfl) ?_
       refine rn rfl rfl rfl rfl qq8 rfl (p_bin rfl rfl rfl rfl) ?_
       refine rn rfl rfl rfl rfl qq6 rfl (p_pkt rfl rfl qq8 (tb ((and_l (p := (t0.Kind = (1 : Int)) ∨ (t0.Kind = (2 : Int))) (q := (t0.Text.length : Int) > (8 : Int)) (Or.inr h8))))) ?_
       refine rp rfl rfl (p_pkf rfl rfl qq6 (tb ((or_l (p := (t0.Kind = (4 : Int)) ∧ ((t0.Text.length : Int) > (40 : Int))) (q := ((t0.Kind = (1 : Int)) ∨ (t0.Kind = (2 : Int))) ∧ ((t0.Text.length : Int) > (8 : Int))) (fun h => h3 h.1))))) ?_
       refine rs [(1, .q 1 (0)), (36, .b (decide (((t0.Kind = (4 : Int)) ∧ ((t0.Text.length : Int) > (40 : Int))) ∨ (((t0.Kind = (1 : Int)) ∨ (t0.Kind = (2 : Int))) ∧ ((t0.Text.length : Int) > (8 : Int))))))] [(1, .pure (GToken.cs t0))] rfl rfl rfl ?_
       exact RunW_nil rfl
      ·have qq9 := decide_eq_false (p := (t0.Kind = (1 : Int)) ∨ (t0.Kind = (2 : Int))) (not_or.2 ⟨h7, h8⟩)
       iterate 4 (refine r_off rfl rfl rfl rfl qq9 rfl rfl ?_)
       refine rn rfl rfl rfl rfl qq6 rfl (p_pkf rfl rfl qq9 (tb (decide_eq_false (p := ((t0.Kind = (1 : Int)) ∨ (t0.Kind = (2 : Int))) ∧ ((t0.Text.length : Int) > (8 : Int))) (fun x => (not_or.2 ⟨h7, h8⟩) x.1)).symm)) ?_
       refine rp rfl rfl (p_pkf rfl rfl qq6 (tb ((or_l (p := (t0.Kind = (4 : Int)) ∧ ((t0.Text.length : Int) > (40 : Int))) (q := ((t0.Kind = (1 : Int)) ∨ (t0.Kind = (2 : Int))) ∧ ((t0.Text.length : Int) > (8 : Int))) (fun h => h3 h.1))))) ?_
       refine rs [(1, .q 1 (0)), (36, .b (decide (((t0.Kind = (4 : Int)) ∧ ((t0.Text.length : Int) > (40 : Int))) ∨ (((t0.Kind = (1 : Int)) ∨ (t0.Kind = (2 : Int))) ∧ ((t0.Text.length : Int) > (8 : Int))))))] [(1, .pure (GToken.cs t0))] rfl rfl rfl ?_
       exact RunW_nil rfl
   ·refine gen1 (fun t36'1 => (⟨[(1, .q 1 (0)), (36, .b t36'1)], [(1, .pure (GToken.cs t0))], 112⟩ : TS)) H ?_
    intro t36'1 H
    refine AW2_cond rfl (fun h9 => ?_) (fun h9 => ?_)
    ·replace H := ite_then h9 H
     refine sg [0] rfl ?_
     refine rp rfl rfl (p_asg rfl rfl) ?_
     refine rz [(2, .i (1 : Int))] [] rfl rfl rfl ?_
     refine AW2_ret ?_
     have hz := some_elim H
     subst hz
     exact ⟨⟨res_tmp (.same _), trivial⟩, trivial⟩
    ·replace H := ite_else (ne_true h9) H
     refine as2 [(1, .q 1 (0))] [(1, .pure (GToken.cs t0))] rfl rfl rfl ?_
     refine AW2_skip ?_
     refine AW2_seq ?_
     refine AW2_seq ?_
     refine AW2_mid (⟨[(1, .q 1 (0)), (69, .b (decide ((((t0.Kind ≠ (3 : Int)) ∧ (t0.Int_ ≠ (0 : Int))) ∨ ((t0.Kind ≠ (5 : Int)) ∧ (t0.Bits ≠ (0 : UInt64)))) ∨ (((t0.Kind = (3 : Int)) ∨ (t0.Kind = (5 : Int))) ∧ (t0.Text ≠ [])))))], [(1, .pure (GToken.cs t0))], 112⟩ : TS) ?_ ?_
     ·refine AW2_reg [0, 1, 2, 3, 4, 5, 6, 7, 8, 9, 10, 11, 12, 13, 14, 15, 16, 17, 18, 19, 20, 21, 22, 23, 24, 25, 26, 27, 28, 29, 30, 31, 32] rfl ?_
      refine rp rfl rfl (u_fa rfl rfl Tryd.underlying82 rfl in_3 (Nat.succ_ne_zero _) rfl rfl (ne_of_lt (n := 0) (Nat.lt_of_lt_of_eq (by decide) (Eq.symm (GToken.len t0))))) ?_
      refine rp rfl rfl (u_ld rfl rfl Tryd.underlying3 rfl rfl ((Sub.refl _).trans (GToken.sub0 t0))) ?_
      refine rp rfl rfl (p_ine rfl rfl rfl) ?_
      refine rp rfl rfl (p_move rfl rfl) ?_
      refine (Classical.em (t0.Kind ≠ (3 : Int))).elim (fun h10 => ?_) (fun h10 => ?_)
      ·refine r_on rfl rfl rfl rfl (decide_eq_true h10) rfl (PureD.opD (u_fa rfl rfl Tryd.underlying82 rfl in_3 (Nat.succ_ne_zero _) rfl rfl (ne_of_lt (n := 0) (Nat.lt_of_lt_of_eq (by decide) (Eq.symm (GToken.len t0)))))) ?_
       refine r_on rfl rfl rfl rfl (decide_eq_true h10) rfl (PureD.opD (u_ld rfl rfl Tryd.underlying3 rfl rfl ((Sub.refl _).trans (GToken.sub2 t0)))) ?_
       refine r_on rfl rfl rfl rfl (decide_eq_true h10) rfl (PureD.opD (p_ine rfl rfl rfl)) ?_
       refine rp rfl rfl (p_pkt rfl rfl (decide_eq_true h10) (tb ((and_l (p := t0.Kind ≠ (3 : Int)) (q := t0.Int_ ≠ (0 : Int)) h10)))) ?_
       refine rp rfl rfl (p_move rfl rfl) ?_
       refine (Classical.em (t0.Int_ ≠ (0 : Int))).elim (fun h11 => ?_) (fun h11 => ?_)
       ·have qq10 := decide_eq_true (p := (t0.Kind ≠ (3 : Int)) ∧ (t0.Int_ ≠ (0 : Int))) ⟨h10, h11⟩
        iterate 4 (refine r_off rfl rfl rfl rfl qq10 rfl rfl ?_)
        iterate 3 (refine r_off2 rfl rfl rfl rfl rfl rfl ?_)
        refine r_off rfl rfl rfl rfl qq10 rfl rfl ?_
        have qq11 := decide_eq_true (p := ((t0.Kind ≠ (3 : Int)) ∧ (t0.Int_ ≠ (0 : Int))) ∨ ((t0.Kind ≠ (5 : Int)) ∧ (t0.Bits ≠ (0 : UInt64)))) (Or.inl ⟨h10, h11⟩)
        refine rp rfl rfl (p_pkt rfl rfl qq10 (tb qq11.symm)) ?_
        refine rp rfl rfl (p_move rfl rfl) ?_
        iterate 4 (refine r_off rfl rfl rfl rfl qq11 rfl rfl ?_)
        iterate 3 (refine r_off2 rfl rfl rfl rfl rfl rfl ?_)
        iterate 2 (refine r_off rfl rfl rfl rfl qq11 rfl rfl ?_)
        iterate 3 (refine r_off2 rfl rfl rfl rfl rfl rfl ?_)
        refine r_off rfl rfl rfl rfl qq11 rfl rfl ?_
        refine rp rfl rfl (p_pkt rfl rfl qq11 (tb (decide_eq_true (p := (((t0.Kind ≠ (3 : Int)) ∧ (t0.Int_ ≠ (0 : Int))) ∨ ((t0.Kind ≠ (5 : Int)) ∧ (t0.Bits ≠ (0 : UInt64)))) ∨ (((t0.Kind = (3 : Int)) ∨ (t0.Kind = (5 : Int))) ∧ (t0.Text ≠ []))) (Or.inl (Or.inl ⟨h10, h11⟩))).symm)) ?_
        refine rs [(1, .q 1 (0)), (69, .b (decide ((((t0.Kind ≠ (3 : Int)) ∧ (t0.Int_ ≠ (0 : Int))) ∨ ((t0.Kind ≠ (5 : Int)) ∧ (t0.Bits ≠ (0 : UInt64)))) ∨ (((t0.Kind = (3 : Int)) ∨ (t0.Kind = (5 : Int))) ∧ (t0.Text ≠ [])))))] [(1, .pure (GToken.cs t0))] rfl rfl rfl ?_
        exact RunW_nil rfl
       ·have qq12 := decide_eq_false (p := (t0.Kind ≠ (3 : Int)) ∧ (t0.Int_ ≠ (0 : Int))) (fun h => h11 h.2)
        refine rn rfl rfl rfl rfl qq12 rfl (u_fa rfl rfl Tryd.underlying82 rfl in_3 (Nat.succ_ne_zero _) rfl rfl (ne_of_lt (n := 0) (Nat.lt_of_lt_of_eq (by decide) (Eq.symm (GToken.len t0))))) ?_
        refine rn rfl rfl rfl rfl qq12 rfl (u_ld rfl rfl Tryd.underlying3 rfl rfl ((Sub.refl _).trans (GToken.sub0 t0))) ?_
        refine rn rfl rfl rfl rfl qq12 rfl (p_ine rfl rfl rfl) ?_
        refine rn rfl rfl rfl rfl qq12 rfl (p_move rfl rfl) ?_
        refine (Classical.em (t0.Kind ≠ (5 : Int))).elim (fun h12 => ?_) (fun h12 => ?_)
        ·refine r_on rfl rfl rfl rfl (decide_eq_true h12) rfl (PureD.opD (u_fa rfl rfl Tryd.underlying82 rfl in_22 (Nat.succ_ne_zero _) rfl rfl (ne_of_lt (n := 0) (Nat.lt_of_lt_of_eq (by decide) (Eq.symm (GToken.len t0)))))) ?_
         refine r_on rfl rfl rfl rfl (decide_eq_true h12) rfl (PureD.opD (u_ld rfl rfl Tryd.underlying22 rfl rfl ((Sub.refl _).trans (GToken.sub3 t0)))) ?_
         refine r_on rfl rfl rfl rfl (decide_eq_true h12) rfl (PureD.opD (p_u64ne (a := t0.Bits) (b := (0 : UInt64)) rfl rfl rfl)) ?_
         refine rn rfl rfl rfl rfl qq12 rfl (p_pkt rfl rfl (decide_eq_true h12) (tb ((and_l (p := t0.Kind ≠ (5 : Int)) (q := t0.Bits ≠ (0 : UInt64)) h12)))) ?_
         refine rp rfl rfl (p_pkf rfl rfl qq12 (tb ((or_l (p := (t0.Kind ≠ (3 : Int)) ∧ (t0.Int_ ≠ (0 : Int))) (q := (t0.Kind ≠ (5 : Int)) ∧ (t0.Bits ≠ (0 : UInt64))) (fun h => h11 h.2))))) ?_
         refine rp rfl rfl (p_move rfl rfl) ?_
         refine (Classical.em (t0.Bits ≠ (0 : UInt64))).elim (fun h13 => ?_) (fun h13 => ?_)
         ·have qq13 := decide_eq_true (p := ((t0.Kind ≠ (3 : Int)) ∧ (t0.Int_ ≠ (0 : Int))) ∨ ((t0.Kind ≠ (5 : Int)) ∧ (t0.Bits ≠ (0 : UInt64)))) (Or.inr ⟨h12, h13⟩)
          iterate 4 (refine r_off rfl rfl rfl rfl qq13 rfl rfl ?_)
          iterate 3 (refine r_off2 rfl rfl rfl rfl rfl rfl ?_)
          iterate 2 (refine r_off rfl rfl rfl rfl qq13 rfl rfl ?_)
          iterate 3 (refine r_off2 rfl rfl rfl rfl rfl rfl ?_)
          refine r_off rfl rfl rfl rfl qq13 rfl rfl ?_
          refine rp rfl rfl (p_pkt rfl rfl qq13 (tb (decide_eq_true (p := (((t0.Kind ≠ (3 : Int)) ∧ (t0.Int_ ≠ (0 : Int))) ∨ ((t0.Kind ≠ (5 : Int)) ∧ (t0.Bits ≠ (0 : UInt64)))) ∨ (((t0.Kind = (3 : Int)) ∨ (t0.Kind = (5 : Int))) ∧ (t0.Text ≠ []))) (Or.inl (Or.inr ⟨h12, h13⟩))).symm)) ?_
          refine rs [(1, .q 1 (0)), (69, .b (decide ((((t0.Kind ≠ (3 : Int)) ∧ (t0.Int_ ≠ (0 : Int))) ∨ ((t0.Kind ≠ (5 : Int)) ∧ (t0.Bits ≠ (0 : UInt64)))) ∨ (((t0.Kind = (3 : Int)) ∨ (t0.Kind = (5 : Int))) ∧ (t0.Text ≠ [])))))] [(1, .pure (GToken.cs t0))] rfl rfl rfl ?_
          exact RunW_nil rfl
         ·have qq14 := decide_eq_false (p := ((t0.Kind ≠ (3 : Int)) ∧ (t0.Int_ ≠ (0 : Int))) ∨ ((t0.Kind ≠ (5 : Int)) ∧ (t0.Bits ≠ (0 : UInt64)))) (not_or.2 ⟨(fun h => h11 h.2), (fun h => h13 h.2)⟩)
          refine rn rfl rfl rfl rfl qq14 rfl (u_fa rfl rfl Tryd.underlying82 rfl in_3 (Nat.succ_ne_zero _) rfl rfl (ne_of_lt (n := 0) (Nat.lt_of_lt_of_eq (by decide) (Eq.symm (GToken.len t0))))) ?_
          refine rn rfl rfl rfl rfl qq14 rfl (u_ld rfl rfl Tryd.underlying3 rfl rfl ((Sub.refl _).trans (GToken.sub0 t0))) ?_
          refine rn rfl rfl rfl rfl qq14 rfl (p_ieq rfl rfl rfl) ?_
          refine rn rfl rfl rfl rfl qq14 rfl (p_move rfl rfl) ?_
          refine (Classical.em (t0.Kind = (3 : Int))).elim (fun h14 => ?_) (fun h14 => ?_)
          ·iterate 3 (refine r_off rfl rfl rfl rfl (decide_eq_true h14) rfl rfl ?_)
           have qq15 := decide_eq_true (p := (t0.Kind = (3 : Int)) ∨ (t0.Kind = (5 : Int))) (Or.inl h14)
           refine rn rfl rfl rfl rfl qq14 rfl (p_pkt rfl rfl (decide_eq_true h14) (tb qq15.symm)) ?_
           refine rn rfl rfl rfl rfl qq14 rfl (p_move rfl rfl) ?_
           refine rn rfl rfl rfl rfl qq15 rfl (u_fa rfl rfl Tryd.underlying82 rfl in_9 (Nat.succ_ne_zero _) rfl rfl (ne_of_lt (n := 0) (Nat.lt_of_lt_of_eq (by decide) (Eq.symm (GToken.len t0))))) ?_
           refine rn rfl rfl rfl rfl qq15 rfl (u_ld rfl rfl Tryd.underlying9 rfl rfl ((Sub.refl _).trans (GToken.sub1 t0))) ?_
           refine rn rfl rfl rfl rfl qq15 rfl (p_sne rfl rfl rfl) ?_
           refine rn rfl rfl rfl rfl qq14 rfl (p_pkt rfl rfl qq15 (tb ((and_l (p := (t0.Kind = (3 : Int)) ∨ (t0.Kind = (5 : Int))) (q := t0.Text ≠ []) (Or.inl h14))))) ?_
           refine rp rfl rfl (p_pkf rfl rfl qq14 (tb ((or_l (p := ((t0.Kind ≠ (3 : Int)) ∧ (t0.Int_ ≠ (0 : Int))) ∨ ((t0.Kind ≠ (5 : Int)) ∧ (t0.Bits ≠ (0 : UInt64)))) (q := ((t0.Kind = (3 : Int)) ∨ (t0.Kind = (5 : Int))) ∧ (t0.Text ≠ [])) (not_or.2 ⟨(fun h => h11 h.2), (fun h => h13 h.2)⟩))))) ?_
           refine rs [(1, .q 1 (0)), (69, .b (decide ((((t0.Kind ≠ (3 : Int)) ∧ (t0.Int_ ≠ (0 : Int))) ∨ ((t0.Kind ≠ (5 : Int)) ∧ (t0.Bits ≠ (0 : UInt64)))) ∨ (((t0.Kind = (3 : Int)) ∨ (t0.Kind = (5 : Int))) ∧ (t0.Text ≠ [])))))] [(1, .pure (GToken.cs t0))] rfl rfl rfl ?_
           exact RunW_nil rfl
          ·refine r_on rfl rfl rfl rfl (decide_eq_false h14) rfl (PureD.opD (u_fa rfl rfl Tryd.underlying82 rfl in_3 (Nat.succ_ne_zero _) rfl rfl (ne_of_lt (n := 0) (Nat.lt_of_lt_of_eq (by decide) (Eq.symm (GToken.len t0)))))) ?_
           refine r_on rfl rfl rfl rfl (decide_eq_false h14) rfl (PureD.opD (u_ld rfl rfl Tryd.underlying3 rfl rfl ((Sub.refl _).trans (GToken.sub0 t0)))) ?_
           refine r_on rfl rfl rfl rfl (decide_eq_false h14) rfl (PureD.opD (p_ieq rfl rfl rfl)) ?_
           refine rn rfl rfl rfl rfl qq14 rfl (p_pkf rfl rfl (decide_eq_false h14) (tb ((or_l (p := t0.Kind = (3 : Int)) (q := t0.Kind = (5 : Int)) h14)))) ?_
           refine rn rfl rfl rfl rfl qq14 rfl (p_move rfl rfl) ?_
           refine (Classical.em (t0.Kind = (5 : Int))).elim (fun h15 => ?_) (fun h15 => ?_)
           ·have qq16 := decide_eq_true (p := (t0.Kind = (3 : Int)) ∨ (t0.Kind = (5 : Int))) (Or.inr h15)
            refine rn rfl rfl rfl rfl qq16 rfl (u_fa rfl rfl Tryd.underlying82 rfl in_9 (Nat.succ_ne_zero _) rfl rfl (ne_of_lt (n := 0) (Nat.lt_of_lt_of_eq (by decide) (Eq.symm (GToken.len t0))))) ?_
            refine rn rfl rfl rfl rfl qq16 rfl (u_ld rfl rfl Tryd.underlying9 rfl rfl ((Sub.refl _).trans (GToken.sub1 t0))) ?_
            refine rn rfl rfl rfl rfl qq16 rfl (p_sne rfl rfl rfl) ?_
            refine rn rfl rfl rfl rfl qq14 rfl (p_pkt rfl rfl qq16 (tb ((and_l (p := (t0.Kind = (3 : Int)) ∨ (t0.Kind = (5 : Int))) (q := t0.Text ≠ []) (Or.inr h15))))) ?_
            refine rp rfl rfl (p_pkf rfl rfl qq14 (tb ((or_l (p := ((t0.Kind ≠ (3 : Int)) ∧ (t0.Int_ ≠ (0 : Int))) ∨ ((t0.Kind ≠ (5 : Int)) ∧ (t0.Bits ≠ (0 : UInt64)))) (q := ((t0.Kind = (3 : Int)) ∨ (t0.Kind = (5 : Int))) ∧ (t0.Text ≠ [])) (not_or.2 ⟨(fun h => h11 h.2), (fun h => h13 h.2)⟩))))) ?_
            refine rs [(1, .q 1 (0)), (69, .b (decide ((((t0.Kind ≠ (3 : Int)) ∧ (t0.Int_ ≠ (0 : Int))) ∨ ((t0.Kind ≠ (5 : Int)) ∧ (t0.Bits ≠ (0 : UInt64)))) ∨ (((t0.Kind = (3 : Int)) ∨ (t0.Kind = (5 : Int))) ∧ (t0.Text ≠ [])))))] [(1, .pure (GToken.cs t0))] rfl rfl rfl ?_
            exact RunW_nil rfl
           ·have qq17 := decide_eq_false (p := (t0.Kind = (3 : Int)) ∨ (t0.Kind = (5 : Int))) (not_or.2 ⟨h14, h15⟩)
            iterate 3 (refine r_off rfl rfl rfl rfl qq17 rfl rfl ?_)
            refine rn rfl rfl rfl rfl qq14 rfl (p_pkf rfl rfl qq17 (tb (decide_eq_false (p := ((t0.Kind = (3 : Int)) ∨ (t0.Kind = (5 : Int))) ∧ (t0.Text ≠ [])) (fun x => (not_or.2 ⟨h14, h15⟩) x.1)).symm)) ?_
            refine rp rfl rfl (p_pkf rfl rfl qq14 (tb ((or_l (p := ((t0.Kind ≠ (3 : Int)) ∧ (t0.Int_ ≠ (0 : Int))) ∨ ((t0.Kind ≠ (5 : Int)) ∧ (t0.Bits ≠ (0 : UInt64)))) (q := ((t0.Kind = (3 : Int)) ∨ (t0.Kind = (5 : Int))) ∧ (t0.Text ≠ [])) (not_or.2 ⟨(fun h => h11 h.2), (fun h => h13 h.2)⟩))))) ?_
            refine rs [(1, .q 1 (0)), (69, .b (decide ((((t0.Kind ≠ (3 : Int)) ∧ (t0.Int_ ≠ (0 : Int))) ∨ ((t0.Kind ≠ (5 : Int)) ∧ (t0.Bits ≠ (0 : UInt64)))) ∨ (((t0.Kind = (3 : Int)) ∨ (t0.Kind = (5 : Int))) ∧ (t0.Text ≠ [])))))] [(1, .pure (GToken.cs t0))] rfl rfl rfl ?_
            exact RunW_nil rfl
        ·iterate 3 (refine r_off rfl rfl rfl rfl (decide_eq_false h12) rfl rfl ?_)
         refine rn rfl rfl rfl rfl qq12 rfl (p_pkf rfl rfl (decide_eq_false h12) (tb (decide_eq_false (p := (t0.Kind ≠ (5 : Int)) ∧ (t0.Bits ≠ (0 : UInt64))) (fun x => h12 x.1)).symm)) ?_
         refine rp rfl rfl (p_pkf rfl rfl qq12 (tb ((or_l (p := (t0.Kind ≠ (3 : Int)) ∧ (t0.Int_ ≠ (0 : Int))) (q := (t0.Kind ≠ (5 : Int)) ∧ (t0.Bits ≠ (0 : UInt64))) (fun h => h11 h.2))))) ?_
         refine rp rfl rfl (p_move rfl rfl) ?_
         have qq18 := decide_eq_false (p := ((t0.Kind ≠ (3 : Int)) ∧ (t0.Int_ ≠ (0 : Int))) ∨ ((t0.Kind ≠ (5 : Int)) ∧ (t0.Bits ≠ (0 : UInt64)))) (not_or.2 ⟨(fun h => h11 h.2), (fun h => h12 h.1)⟩)
         refine rn rfl rfl rfl rfl qq18 rfl (u_fa rfl rfl Tryd.underlying82 rfl in_3 (Nat.succ_ne_zero _) rfl rfl (ne_of_lt (n := 0) (Nat.lt_of_lt_of_eq (by decide) (Eq.symm (GToken.len t0))))) ?_
         refine rn rfl rfl rfl rfl qq18 rfl (u_ld rfl rfl Tryd.underlying3 rfl rfl ((Sub.refl _).trans (GToken.sub0 t0))) ?_
         refine rn rfl rfl rfl rfl qq18 rfl (p_ieq rfl rfl rfl) ?_
         refine rn rfl rfl rfl rfl qq18 rfl (p_move rfl rfl) ?_
         refine (Classical.em (t0.Kind = (3 : Int))).elim (fun h16 => ?_) (fun h16 => ?_)
         ·iterate 3 (refine r_off rfl rfl rfl rfl (decide_eq_true h16) rfl rfl ?_)
          have qq19 := decide_eq_true (p := (t0.Kind = (3 : Int)) ∨ (t0.Kind = (5 : Int))) (Or.inl h16)
          refine rn rfl rfl rfl rfl qq18 rfl (p_pkt rfl rfl (decide_eq_true h16) (tb qq19.symm)) ?_
          refine rn rfl rfl rfl rfl qq18 rfl (p_move rfl rfl) ?_
          refine rn rfl rfl rfl rfl qq19 rfl (u_fa rfl rfl Tryd.underlying82 rfl in_9 (Nat.succ_ne_zero _) rfl rfl (ne_of_lt (n := 0) (Nat.lt_of_lt_of_eq (by decide) (Eq.symm (GToken.len t0))))) ?_
          refine rn rfl rfl rfl rfl qq19 rfl (u_ld rfl rfl Tryd.underlying9 rfl rfl ((Sub.refl _).trans (GToken.sub1 t0))) ?_
          refine rn rfl rfl rfl rfl qq19 rfl (p_sne rfl rfl rfl) ?_
          refine rn rfl rfl rfl rfl qq18 rfl (p_pkt rfl rfl qq19 (tb ((and_l (p := (t0.Kind = (3 : Int)) ∨ (t0.Kind = (5 : Int))) (q := t0.Text ≠ []) (Or.inl h16))))) ?_
          refine rp rfl rfl (p_pkf rfl rfl qq18 (tb ((or_l (p := ((t0.Kind ≠ (3 : Int)) ∧ (t0.Int_ ≠ (0 : Int))) ∨ ((t0.Kind ≠ (5 : Int)) ∧ (t0.Bits ≠ (0 : UInt64)))) (q := ((t0.Kind = (3 : Int)) ∨ (t0.Kind = (5 : Int))) ∧ (t0.Text ≠ [])) (not_or.2 ⟨(fun h => h11 h.2), (fun h => h12 h.1)⟩))))) ?_
          refine rs [(1, .q 1 (0)), (69, .b (decide ((((t0.Kind ≠ (3 : Int)) ∧ (t0.Int_ ≠ (0 : Int))) ∨ ((t0.Kind ≠ (5 : Int)) ∧ (t0.Bits ≠ (0 : UInt64)))) ∨ (((t0.Kind = (3 : Int)) ∨ (t0.Kind = (5 : Int))) ∧ (t0.Text ≠ [])))))] [(1, .pure (GToken.cs t0))] rfl rfl rfl ?_
          exact RunW_nil rfl
         ·refine r_on rfl rfl rfl rfl (decide_eq_false h16) rfl (PureD.opD (u_fa rfl rfl Tryd.underlying82 rfl in_3 (Nat.succ_ne_zero _) rfl rfl (ne_of_lt (n := 0) (Nat.lt_of_lt_of_eq (by decide) (Eq.symm (GToken.len t0)))))) ?_
          refine r_on rfl rfl rfl rfl (decide_eq_false h16) rfl (PureD.opD (u_ld rfl rfl Tryd.underlying3 rfl rfl ((Sub.refl _).trans (GToken.sub0 t0)))) ?_
          refine r_on rfl rfl rfl rfl (decide_eq_false h16) rfl (PureD.opD (p_ieq rfl rfl rfl)) ?_
          refine rn rfl rfl rfl rfl qq18 rfl (p_pkf rfl rfl (decide_eq_false h16) (tb ((or_l (p := t0.Kind = (3 : Int)) (q := t0.Kind = (5 : Int)) h16)))) ?_
          refine rn rfl rfl rfl rfl qq18 rfl (p_move rfl rfl) ?_
          refine (Classical.em (t0.Kind = (5 : Int))).elim (fun h17 => ?_) (fun h17 => ?_)
          ·have qq20 := decide_eq_true (p := (t0.Kind = (3 : Int)) ∨ (t0.Kind = (5 : Int))) (Or.inr h17)
           refine rn rfl rfl rfl rfl qq20 rfl (u_fa rfl rfl Tryd.underlying82 rfl in_9 (Nat.succ_ne_zero _) rfl rfl (ne_of_lt (n := 0) (Nat.lt_of_lt_of_eq (by decide) (Eq.symm (GToken.len t0))))) ?_
           refine rn rfl rfl rfl rfl qq20 rfl (u_ld rfl rfl Tryd.underlying9 rfl rfl ((Sub.refl _).trans (GToken.sub1 t0))) ?_
           refine rn rfl rfl rfl rfl qq20 rfl (p_sne rfl rfl rfl) ?_
           refine rn rfl rfl rfl rfl qq18 rfl (p_pkt rfl rfl qq20 (tb ((and_l (p := (t0.Kind = (3 : Int)) ∨ (t0.Kind = (5 : Int))) (q := t0.Text ≠ []) (Or.inr h17))))) ?_
           refine rp rfl rfl (p_pkf rfl rfl qq18 (tb ((or_l (p := ((t0.Kind ≠ (3 : Int)) ∧ (t0.Int_ ≠ (0 : Int))) ∨ ((t0.Kind ≠ (5 : Int)) ∧ (t0.Bits ≠ (0 : UInt64)))) (q := ((t0.Kind = (3 : Int)) ∨ (t0.Kind = (5 : Int))) ∧ (t0.Text ≠ [])) (not_or.2 ⟨(fun h => h11 h.2), (fun h => h12 h.1)⟩))))) ?_
           refine rs [(1, .q 1 (0)), (69, .b (decide ((((t0.Kind ≠ (3 : Int)) ∧ (t0.Int_ ≠ (0 : Int))) ∨ ((t0.Kind ≠ (5 : Int)) ∧ (t0.Bits ≠ (0 : UInt64)))) ∨ (((t0.Kind = (3 : Int)) ∨ (t0.Kind = (5 : Int))) ∧ (t0.Text ≠ [])))))] [(1, .pure (GToken.cs t0))] rfl rfl rfl ?_
           exact RunW_nil rfl
          ·have qq21 := decide_eq_false (p := (t0.Kind = (3 : Int)) ∨ (t0.Kind = (5 : Int))) (not_or.2 ⟨h16, h17⟩)
           iterate 3 (refine r_off rfl rfl rfl rfl qq21 rfl rfl ?_)
           refine rn rfl rfl rfl rfl qq18 rfl (p_pkf rfl rfl qq21 (tb (decide_eq_false (p := ((t0.Kind = (3 : Int)) ∨ (t0.Kind = (5 : Int))) ∧ (t0.Text ≠ [])) (fun x => (not_or.2 ⟨h16, h17⟩) x.1)).symm)) ?_
           refine rp rfl rfl (p_pkf rfl rfl qq18 (tb ((or_l (p := ((t0.Kind ≠ (3 : Int)) ∧ (t0.Int_ ≠ (0 : Int))) ∨ ((t0.Kind ≠ (5 : Int)) ∧ (t0.Bits ≠ (0 : UInt64)))) (q := ((t0.Kind = (3 : Int)) ∨ (t0.Kind = (5 : Int))) ∧ (t0.Text ≠ [])) (not_or.2 ⟨(fun h => h11 h.2), (fun h => h12 h.1)⟩))))) ?_
           refine rs [(1, .q 1 (0)), (69, .b (decide ((((t0.Kind ≠ (3 : Int)) ∧ (t0.Int_ ≠ (0 : Int))) ∨ ((t0.Kind ≠ (5 : Int)) ∧ (t0.Bits ≠ (0 : UInt64)))) ∨ (((t0.Kind = (3 : Int)) ∨ (t0.Kind = (5 : Int))) ∧ (t0.Text ≠ [])))))] [(1, .pure (GToken.cs t0))] rfl rfl rfl ?_
           exact RunW_nil rfl
      ·iterate 3 (refine r_off rfl rfl rfl rfl (decide_eq_false h10) rfl rfl ?_)
       refine rp rfl rfl (p_pkf rfl rfl (decide_eq_false h10) (tb (decide_eq_false (p := (t0.Kind ≠ (3 : Int)) ∧ (t0.Int_ ≠ (0 : Int))) (fun x => h10 x.1)).symm)) ?_
       refine rp rfl rfl (p_move rfl rfl) ?_
       have qq22 := decide_eq_false (p := (t0.Kind ≠ (3 : Int)) ∧ (t0.Int_ ≠ (0 : Int))) (fun h => h10 h.1)
       refine rn rfl rfl rfl rfl qq22 rfl (u_fa rfl rfl Tryd.underlying82 rfl in_3 (Nat.succ_ne_zero _) rfl rfl (ne_of_lt (n := 0) (Nat.lt_of_lt_of_eq (by decide) (Eq.symm (GToken.len t0))))) ?_
       refine rn rfl rfl rfl rfl qq22 rfl (u_ld rfl rfl Tryd.underlying3 rfl rfl ((Sub.refl _).trans (GToken.sub0 t0))) ?_
       refine rn rfl rfl rfl rfl qq22 rfl (p_ine rfl rfl rfl) ?_
       refine rn rfl rfl rfl rfl qq22 rfl (p_move rfl rfl) ?_
       refine (Classical.em (t0.Kind ≠ (5 : Int))).elim (fun h18 => ?_) (fun h18 => ?_)
       ·refine r_on rfl rfl rfl rfl (decide_eq_true h18) rfl (PureD.opD (u_fa rfl rfl Tryd.underlying82 rfl in_22 (Nat.succ_ne_zero _) rfl rfl (ne_of_lt (n := 0) (Nat.lt_of_lt_of_eq (by decide) (Eq.symm (GToken.len t0)))))) ?_
        refine r_on rfl rfl rfl rfl (decide_eq_true h18) rfl (PureD.opD (u_ld rfl rfl Tryd.underlying22 rfl rfl ((Sub.refl _).trans (GToken.sub3 t0)))) ?_
        refine r_on rfl rfl rfl rfl (decide_eq_true h18) rfl (PureD.opD (p_u64ne (a := t0.Bits) (b := (0 : UInt64)) rfl rfl rfl)) ?_
        refine rn rfl rfl rfl rfl qq22 rfl (p_pkt rfl rfl (decide_eq_true h18) (tb ((and_l (p := t0.Kind ≠ (5 : Int)) (q := t0.Bits ≠ (0 : UInt64)) h18)))) ?_
        refine rp rfl rfl (p_pkf rfl rfl qq22 (tb ((or_l (p := (t0.Kind ≠ (3 : Int)) ∧ (t0.Int_ ≠ (0 : Int))) (q := (t0.Kind ≠ (5 : Int)) ∧ (t0.Bits ≠ (0 : UInt64))) (fun h => h10 h.1))))) ?_
        refine rp rfl rfl (p_move rfl rfl) ?_
        refine (Classical.em (t0.Bits ≠ (0 : UInt64))).elim (fun h19 => ?_) (fun h19 => ?_)
        ·have qq23 := decide_eq_true (p := ((t0.Kind ≠ (3 : Int)) ∧ (t0.Int_ ≠ (0 : Int))) ∨ ((t0.Kind ≠ (5 : Int)) ∧ (t0.Bits ≠ (0 : UInt64)))) (Or.inr ⟨h18, h19⟩)
         iterate 4 (refine r_off rfl rfl rfl rfl qq23 rfl rfl ?_)
         iterate 3 (refine r_off2 rfl rfl rfl rfl rfl rfl ?_)
         iterate 2 (refine r_off rfl rfl rfl rfl qq23 rfl rfl ?_)
         iterate 3 (refine r_off2 rfl rfl rfl rfl rfl rfl ?_)
         refine r_off rfl rfl rfl rfl qq23 rfl rfl ?_
         refine rp rfl rfl (p_pkt rfl rfl qq23 (tb (decide_eq_true (p := (((t0.Kind ≠ (3 : Int)) ∧ (t0.Int_ ≠ (0 : Int))) ∨ ((t0.Kind ≠ (5 : Int)) ∧ (t0.Bits ≠ (0 : UInt64)))) ∨ (((t0.Kind = (3 : Int)) ∨ (t0.Kind = (5 : Int))) ∧ (t0.Text ≠ []))) (Or.inl (Or.inr ⟨h18, h19⟩))).symm)) ?_
         refine rs [(1, .q 1 (0)), (69, .b (decide ((((t0.Kind ≠ (3 : Int)) ∧ (t0.Int_ ≠ (0 : Int))) ∨ ((t0.Kind ≠ (5 : Int)) ∧ (t0.Bits ≠ (0 : UInt64)))) ∨ (((t0.Kind = (3 : Int)) ∨ (t0.Kind = (5 : Int))) ∧ (t0.Text ≠ [])))))] [(1, .pure (GToken.cs t0))] rfl rfl rfl ?_
         exact RunW_nil rfl
        ·have qq24 := decide_eq_false (p := ((t0.Kind ≠ (3 : Int)) ∧ (t0.Int_ ≠ (0 : Int))) ∨ ((t0.Kind ≠ (5 : Int)) ∧ (t0.Bits ≠ (0 : UInt64)))) (not_or.2 ⟨(fun h => h10 h.1), (fun h => h19 h.2)⟩)
         refine rn rfl rfl rfl rfl qq24 rfl (u_fa rfl rfl Tryd.underlying82 rfl in_3 (Nat.succ_ne_zero _) rfl rfl (ne_of_lt (n := 0) (Nat.lt_of_lt_of_eq (by decide) (Eq.symm (GToken.len t0))))) ?_
         refine rn rfl rfl rfl rfl qq24 rfl (u_ld rfl rfl Tryd.underlying3 rfl rfl ((Sub.refl _).trans (GToken.sub0 t0))) ?_
         refine rn rfl rfl rfl rfl qq24 rfl (p_ieq rfl rfl rfl) ?_
         refine rn rfl rfl rfl rfl qq24 rfl (p_move rfl rfl) ?_
         refine (Classical.em (t0.Kind = (3 : Int))).elim (fun h20 => ?_) (fun h20 => ?_)
         ·iterate 3 (refine r_off rfl rfl rfl rfl (decide_eq_true h20) rfl rfl ?_)
          have qq25 := decide_eq_true (p := (t0.Kind = (3 : Int)) ∨ (t0.Kind = (5 : Int))) (Or.inl h20)
          refine rn rfl rfl rfl rfl qq24 rfl (p_pkt rfl rfl (decide_eq_true h20) (tb qq25.symm)) ?_
          refine rn rfl rfl rfl rfl qq24 rfl (p_move rfl rfl) ?_
          refine rn rfl rfl rfl rfl qq25 rfl (u_fa rfl rfl Tryd.underlying82 rfl in_9 (Nat.succ_ne_zero _) rfl rfl (ne_of_lt (n := 0) (Nat.lt_of_lt_of_eq (by decide) (Eq.symm (GToken.len t0))))) ?_
          refine rn rfl rfl rfl rfl qq25 rfl (u_ld rfl rfl Tryd.underlying9 rfl rfl ((Sub.refl _).trans (GToken.sub1 t0))) ?_
          refine rn rfl rfl rfl rfl qq25 rfl (p_sne rfl rfl rfl) ?_
          refine rn rfl rfl rfl rfl qq24 rfl (p_pkt rfl rfl qq25 (tb ((and_l (p := (t0.Kind = (3 : Int)) ∨ (t0.Kind = (5 : Int))) (q := t0.Text ≠ []) (Or.inl h20))))) ?_
          refine rp rfl rfl (p_pkf rfl rfl qq24 (tb ((or_l (p := ((t0.Kind ≠ (3 : Int)) ∧ (t0.Int_ ≠ (0 : Int))) ∨ ((t0.Kind ≠ (5 : Int)) ∧ (t0.Bits ≠ (0 : UInt64)))) (q := ((t0.Kind = (3 : Int)) ∨ (t0.Kind = (5 : Int))) ∧ (t0.Text ≠ [])) (not_or.2 ⟨(fun h => h10 h.1), (fun h => h19 h.2)⟩))))) ?_
          refine rs [(1, .q 1 (0)), (69, .b (decide ((((t0.Kind ≠ (3 : Int)) ∧ (t0.Int_ ≠ (0 : Int))) ∨ ((t0.Kind ≠ (5 : Int)) ∧ (t0.Bits ≠ (0 : UInt64)))) ∨ (((t0.Kind = (3 : Int)) ∨ (t0.Kind = (5 : Int))) ∧ (t0.Text ≠ [])))))] [(1, .pure (GToken.cs t0))] rfl rfl rfl ?_
          exact RunW_nil rfl
         ·refine r_on rfl rfl rfl rfl (decide_eq_false h20) rfl (PureD.opD (u_fa rfl rfl Tryd.underlying82 rfl in_3 (Nat.succ_ne_zero _) rfl rfl (ne_of_lt (n := 0) (Nat.lt_of_lt_of_eq (by decide) (Eq.symm (GToken.len t0)))))) ?_
          refine r_on rfl rfl rfl rfl (decide_eq_false h20) rfl (PureD.opD (u_ld rfl rfl Tryd.underlying3 rfl rfl ((Sub.refl _).trans (GToken.sub0 t0)))) ?_
          refine r_on rfl rfl rfl rfl (decide_eq_false h20) rfl (PureD.opD (p_ieq rfl rfl rfl)) ?_
          refine rn rfl rfl rfl rfl qq24 rfl (p_pkf rfl rfl (decide_eq_false h20) (tb ((or_l (p := t0.Kind = (3 : Int)) (q := t0.Kind = (5 : Int)) h20)))) ?_
          refine rn rfl rfl rfl rfl qq24 rfl (p_move rfl rfl) ?_
          refine (Classical.em (t0.Kind = (5 : Int))).elim (fun h21 => ?_) (fun h21 => ?_)
          ·have qq26 := decide_eq_true (p := (t0.Kind = (3 : Int)) ∨ (t0.Kind = (5 : Int))) (Or.inr h21)
           refine rn rfl rfl rfl rfl qq26 rfl (u_fa rfl rfl Tryd.underlying82 rfl in_9 (Nat.succ_ne_zero _) rfl rfl (ne_of_lt (n := 0) (Nat.lt_of_lt_of_eq (by decide) (Eq.symm (GToken.len t0))))) ?_
           refine rn rfl rfl rfl rfl qq26 rfl (u_ld rfl rfl Tryd.underlying9 rfl rfl ((Sub.refl _).trans (GToken.sub1 t0))) ?_
           refine rn rfl rfl rfl rfl qq26 rfl (p_sne rfl rfl rfl) ?_
           refine rn rfl rfl rfl rfl qq24 rfl (p_pkt rfl rfl qq26 (tb ((and_l (p := (t0.Kind = (3 : Int)) ∨ (t0.Kind = (5 : Int))) (q := t0.Text ≠ []) (Or.inr h21))))) ?_
           refine rp rfl rfl (p_pkf rfl rfl qq24 (tb ((or_l (p := ((t0.Kind ≠ (3 : Int)) ∧ (t0.Int_ ≠ (0 : Int))) ∨ ((t0.Kind ≠ (5 : Int)) ∧ (t0.Bits ≠ (0 : UInt64)))) (q := ((t0.Kind = (3 : Int)) ∨ (t0.Kind = (5 : Int))) ∧ (t0.Text ≠ [])) (not_or.2 ⟨(fun h => h10 h.1), (fun h => h19 h.2)⟩))))) ?_
           refine rs [(1, .q 1 (0)), (69, .b (decide ((((t0.Kind ≠ (3 : Int)) ∧ (t0.Int_ ≠ (0 : Int))) ∨ ((t0.Kind ≠ (5 : Int)) ∧ (t0.Bits ≠ (0 : UInt64)))) ∨ (((t0.Kind = (3 : Int)) ∨ (t0.Kind = (5 : Int))) ∧ (t0.Text ≠ [])))))] [(1, .pure (GToken.cs t0))] rfl rfl rfl ?_
           exact RunW_nil rfl
          ·have qq27 := decide_eq_false (p := (t0.Kind = (3 : Int)) ∨ (t0.Kind = (5 : Int))) (not_or.2 ⟨h20, h21⟩)
           iterate 3 (refine r_off rfl rfl rfl rfl qq27 rfl rfl ?_)
           refine rn rfl rfl rfl rfl qq24 rfl (p_pkf rfl rfl qq27 (tb (decide_eq_false (p := ((t0.Kind = (3 : Int)) ∨ (t0.Kind = (5 : Int))) ∧ (t0.Text ≠ [])) (fun x => (not_or.2 ⟨h20, h21⟩) x.1)).symm)) ?_
           refine rp rfl rfl (p_pkf rfl rfl qq24 (tb ((or_l (p := ((t0.Kind ≠ (3 : Int)) ∧ (t0.Int_ ≠ (0 : Int))) ∨ ((t0.Kind ≠ (5 : Int)) ∧ (t0.Bits ≠ (0 : UInt64)))) (q := ((t0.Kind = (3 : Int)) ∨ (t0.Kind = (5 : Int))) ∧ (t0.Text ≠ [])) (not_or.2 ⟨(fun h => h10 h.1), (fun h => h19 h.2)⟩))))) ?_
           refine rs [(1, .q 1 (0)), (69, .b (decide ((((t0.Kind ≠ (3 : Int)) ∧ (t0.Int_ ≠ (0 : Int))) ∨ ((t0.Kind ≠ (5 : Int)) ∧ (t0.Bits ≠ (0 : UInt64)))) ∨ (((t0.Kind = (3 : Int)) ∨ (t0.Kind = (5 : Int))) ∧ (t0.Text ≠ [])))))] [(1, .pure (GToken.cs t0))] rfl rfl rfl ?_
           exact RunW_nil rfl
       ·iterate 3 (refine r_off rfl rfl rfl rfl (decide_eq_false h18) rfl rfl ?_)
        refine rn rfl rfl rfl rfl qq22 rfl (p_pkf rfl rfl (decide_eq_false h18) (tb (decide_eq_false (p := (t0.Kind ≠ (5 : Int)) ∧ (t0.Bits ≠ (0 : UInt64))) (fun x => h18 x.1)).symm)) ?_
        refine rp rfl rfl (p_pkf rfl rfl qq22 (tb ((or_l (p := (t0.Kind ≠ (3 : Int)) ∧ (t0.Int_ ≠ (0 : Int))) (q := (t0.Kind ≠ (5 : Int)) ∧ (t0.Bits ≠ (0 : UInt64))) (fun h => h10 h.1))))) ?_
        refine rp rfl rfl (p_move rfl rfl) ?_
        have qq28 := decide_eq_false (p := ((t0.Kind ≠ (3 : Int)) ∧ (t0.Int_ ≠ (0 : Int))) ∨ ((t0.Kind ≠ (5 : Int)) ∧ (t0.Bits ≠ (0 : UInt64)))) (not_or.2 ⟨(fun h => h10 h.1), (fun h => h18 h.1)⟩)
        refine rn rfl rfl rfl rfl qq28 rfl (u_fa rfl rfl Tryd.underlying82 rfl in_3 (Nat.succ_ne_zero _) rfl rfl (ne_of_lt (n := 0) (Nat.lt_of_lt_of_eq (by decide) (Eq.symm (GToken.len t0))))) ?_
        refine rn rfl rfl rfl rfl qq28 rfl (u_ld rfl rfl Tryd.underlying3 rfl rfl ((Sub.refl _).trans (GToken.sub0 t0))) ?_
        refine rn rfl rfl rfl rfl qq28 rfl (p_ieq rfl rfl rfl) ?_
        refine rn rfl rfl rfl rfl qq28 rfl (p_move rfl rfl) ?_
        refine (Classical.em (t0.Kind = (3 : Int))).elim (fun h22 => ?_) (fun h22 => ?_)
        ·iterate 3 (refine r_off rfl rfl rfl rfl (decide_eq_true h22) rfl rfl ?_)
         have qq29 := decide_eq_true (p := (t0.Kind = (3 : Int)) ∨ (t0.Kind = (5 : Int))) (Or.inl h22)
         refine rn rfl rfl rfl rfl qq28 rfl (p_pkt rfl rfl (decide_eq_true h22) (tb qq29.symm)) ?_
         refine rn rfl rfl rfl rfl qq28 rfl (p_move rfl rfl) ?_
         refine rn rfl rfl rfl rfl qq29 rfl (u_fa rfl rfl Tryd.underlying82 rfl in_9 (Nat.succ_ne_zero _) rfl rfl (ne_of_lt (n := 0) (Nat.lt_of_lt_of_eq (by decide) (Eq.symm (GToken.len t0))))) ?_
         refine rn rfl rfl rfl rfl qq29 rfl (u_ld rfl rfl Tryd.underlying9 rfl rfl ((Sub.refl _).trans (GToken.sub1 t0))) ?_
         refine rn rfl rfl rfl rfl qq29 rfl (p_sne rfl rfl rfl) ?_
         refine rn rfl rfl rfl rfl qq28 rfl (p_pkt rfl rfl qq29 (tb ((and_l (p := (t0.Kind = (3 : Int)) ∨ (t0.Kind = (5 : Int))) (q := t0.Text ≠ []) (Or.inl h22))))) ?_
         refine rp rfl rfl (p_pkf rfl rfl qq28 (tb ((or_l (p := ((t0.Kind ≠ (3 : Int)) ∧ (t0.Int_ ≠ (0 : Int))) ∨ ((t0.Kind ≠ (5 : Int)) ∧ (t0.Bits ≠ (0 : UInt64)))) (q := ((t0.Kind = (3 : Int)) ∨ (t0.Kind = (5 : Int))) ∧ (t0.Text ≠ [])) (not_or.2 ⟨(fun h => h10 h.1), (fun h => h18 h.1)⟩))))) ?_
         refine rs [(1, .q 1 (0)), (69, .b (decide ((((t0.Kind ≠ (3 : Int)) ∧ (t0.Int_ ≠ (0 : Int))) ∨ ((t0.Kind ≠ (5 : Int)) ∧ (t0.Bits ≠ (0 : UInt64)))) ∨ (((t0.Kind = (3 : Int)) ∨ (t0.Kind = (5 : Int))) ∧ (t0.Text ≠ [])))))] [(1, .pure (GToken.cs t0))] rfl rfl rfl ?_
         exact RunW_nil rfl
        ·refine r_on rfl rfl rfl rfl (decide_eq_false h22) rfl (PureD.opD (u_fa rfl rfl Tryd.underlying82 rfl in_3 (Nat.succ_ne_zero _) rfl rfl (ne_of_lt (n := 0) (Nat.lt_of_lt_of_eq (by decide) (Eq.symm (GToken.len t0)))))) ?_
         refine r_on rfl rfl rfl rfl (decide_eq_false h22) rfl (PureD.opD (u_ld rfl rfl Tryd.underlying3 rfl rfl ((Sub.refl _).trans (GToken.sub0 t0)))) ?_
         refine r_on rfl rfl rfl rfl (decide_eq_false h22) rfl (PureD.opD (p_ieq rfl rfl rfl)) ?_
         refine rn rfl rfl rfl rfl qq28 rfl (p_pkf rfl rfl (decide_eq_false h22) (tb ((or_l (p := t0.Kind = (3 : Int)) (q := t0.Kind = (5 : Int)) h22)))) ?_
         refine rn rfl rfl rfl rfl qq28 rfl (p_move rfl rfl) ?_
         refine (Classical.em (t0.Kind = (5 : Int))).elim (fun h23 => ?_) (fun h23 => ?_)
         ·have qq30 := decide_eq_true (p := (t0.Kind = (3 : Int)) ∨ (t0.Kind = (5 : Int))) (Or.inr h23)
          refine rn rfl rfl rfl rfl qq30 rfl (u_fa rfl rfl Tryd.underlying82 rfl in_9 (Nat.succ_ne_zero _) rfl rfl (ne_of_lt (n := 0) (Nat.lt_of_lt_of_eq (by decide) (Eq.symm (GToken.len t0))))) ?_
          refine rn rfl rfl rfl rfl qq30 rfl (u_ld rfl rfl Tryd.underlying9 rfl rfl ((Sub.refl _).trans (GToken.sub1 t0))) ?_
          refine rn rfl rfl rfl rfl qq30 rfl (p_sne rfl rfl rfl) ?_
          refine rn rfl rfl rfl rfl qq28 rfl (p_pkt rfl rfl qq30 (tb ((and_l (p := (t0.Kind = (3 : Int)) ∨ (t0.Kind = (5 : Int))) (q := t0.Text ≠ []) (Or.inr h23))))) ?_
          refine rp rfl rfl (p_pkf rfl rfl qq28 (tb ((or_l (p := ((t0.Kind ≠ (3 : Int)) ∧ (t0.Int_ ≠ (0 : Int))) ∨ ((t0.Kind ≠ (5 : Int)) ∧ (t0.Bits ≠ (0 : UInt64)))) (q := ((t0.Kind = (3 : Int)) ∨ (t0.Kind = (5 : Int))) ∧ (t0.Text ≠ [])) (not_or.2 ⟨(fun h => h10 h.1), (fun h => h18 h.1)⟩))))) ?_
          refine rs [(1, .q 1 (0)), (69, .b (decide ((((t0.Kind ≠ (3 : Int)) ∧ (t0.Int_ ≠ (0 : Int))) ∨ ((t0.Kind ≠ (5 : Int)) ∧ (t0.Bits ≠ (0 : UInt64)))) ∨ (((t0.Kind = (3 : Int)) ∨ (t0.Kind = (5 : Int))) ∧ (t0.Text ≠ [])))))] [(1, .pure (GToken.cs t0))] rfl rfl rfl ?_
          exact RunW_nil rfl
         ·have qq31 := decide_eq_false (p := (t0.Kind = (3 : Int)) ∨ (t0.Kind = (5 : Int))) (not_or.2 ⟨h22, h23⟩)
          iterate 3 (refine r_off rfl rfl rfl rfl qq31 rfl rfl ?_)
          refine rn rfl rfl rfl rfl qq28 rfl (p_pkf rfl rfl qq31 (tb (decide_eq_false (p := ((t0.Kind = (3 : Int)) ∨ (t0.Kind = (5 : Int))) ∧ (t0.Text ≠ [])) (fun x => (not_or.2 ⟨h22, h23⟩) x.1)).symm)) ?_
          refine rp rfl rfl (p_pkf rfl rfl qq28 (tb ((or_l (p := ((t0.Kind ≠ (3 : Int)) ∧ (t0.Int_ ≠ (0 : Int))) ∨ ((t0.Kind ≠ (5 : Int)) ∧ (t0.Bits ≠ (0 : UInt64)))) (q := ((t0.Kind = (3 : Int)) ∨ (t0.Kind = (5 : Int))) ∧ (t0.Text ≠ [])) (not_or.2 ⟨(fun h => h10 h.1), (fun h => h18 h.1)⟩))))) ?_
          refine rs [(1, .q 1 (0)), (69, .b (decide ((((t0.Kind ≠ (3 : Int)) ∧ (t0.Int_ ≠ (0 : Int))) ∨ ((t0.Kind ≠ (5 : Int)) ∧ (t0.Bits ≠ (0 : UInt64)))) ∨ (((t0.Kind = (3 : Int)) ∨ (t0.Kind = (5 : Int))) ∧ (t0.Text ≠ [])))))] [(1, .pure (GToken.cs t0))] rfl rfl rfl ?_
          exact RunW_nil rfl
     ·refine gen1 (fun t69'2 => (⟨[(1, .q 1 (0)), (69, .b t69'2)], [(1, .pure (GToken.cs t0))], 112⟩ : TS)) H ?_
      intro t69'2 H
      refine AW2_cond rfl (fun h24 => ?_) (fun h24 => ?_)
      ·replace H := ite_then h24 H
       refine sg [0] rfl ?_
       refine rp rfl rfl (p_asg rfl rfl) ?_
       refine rz [(2, .i (3 : Int))] [] rfl rfl rfl ?_
       refine AW2_ret ?_
       have hz := some_elim H
       subst hz
       exact ⟨⟨res_tmp (.same _), trivial⟩, trivial⟩
      ·replace H := ite_else (ne_true h24) H
       refine as2 [(1, .q 1 (0))] [(1, .pure (GToken.cs t0))] rfl rfl rfl ?_
       refine AW2_skip ?_
       refine sg [0] rfl ?_
       refine rp rfl rfl (p_asg rfl rfl) ?_
       refine rz [(1, .q 1 (0)), (3, .b true)] [(1, .pure (GToken.cs t0))] rfl rfl rfl ?_
       refine AW2_seq ?_
       refine bindK H fun j'3 h25 H => ?_
       refine AW2_mid (⟨[(3, .b j'3)], [], 112⟩ : TS) ?_ ?_
       ·clear H
        have H := h25
        clear h25
        refine sg [0, 1] rfl ?_
        refine rp rfl rfl (u_fa rfl rfl Tryd.underlying82 rfl in_3 (Nat.succ_ne_zero _) rfl rfl (ne_of_lt (n := 0) (Nat.lt_of_lt_of_eq (by decide) (Eq.symm (GToken.len t0))))) ?_
        refine rp rfl rfl (u_ld rfl rfl Tryd.underlying3 rfl rfl ((Sub.refl _).trans (GToken.sub0 t0))) ?_
        refine rz [(1, .q 1 (0)), (3, .b true), (71, .i t0.Kind)] [(1, .pure (GToken.cs t0))] rfl rfl rfl ?_
        refine AW2_block ?_
        refine sg [0, 1] rfl ?_
        refine rp rfl rfl (p_ieq rfl rfl rfl) ?_
        refine rp rfl rfl (p_asg rfl rfl) ?_
        refine rz [(1, .q 1 (0)), (3, .b true), (71, .i t0.Kind), (72, .b (decide (t0.Kind = (1 : Int))))] [(1, .pure (GToken.cs t0))] rfl rfl rfl ?_
        refine AW2_if (p := t0.Kind = (1 : Int)) rfl (fun h26 => ?_) (fun h26 => ?_)
        ·replace H := ite_then h26 H
         refine bindK H fun g'7 h33 H => ?_
         refine AW2_mid (⟨[(3, .b g'7)], [], 112⟩ : TS) ?_ ?_
         ·clear H
          have H := h33
          clear h33
          refine AW2_reg [0, 1, 2, 3, 4, 5, 6, 7, 8, 9] rfl ?_
          refine rp rfl rfl (u_fa rfl rfl Tryd.underlying82 rfl in_9 (Nat.succ_ne_zero _) rfl rfl (ne_of_lt (n := 0) (Nat.lt_of_lt_of_eq (by decide) (Eq.symm (GToken.len t0))))) ?_
          refine rp rfl rfl (u_ld rfl rfl Tryd.underlying9 rfl rfl ((Sub.refl _).trans (GToken.sub1 t0))) ?_
          refine bindK H fun r'5 h29 H => ?_
          refine rp rfl rfl (p_calll rfl rfl rfl Tryd.func64 rfl rfl (g_lex_all_i0_ac h29) rfl ⟨lend_p rfl, lend_clo rfl rfl trivial, trivial⟩) ?_
          refine rp rfl rfl (p_move rfl rfl) ?_
          refine (Classical.em (r'5 = true)).elim (fun h30 => ?_) (fun h30 => ?_)
          ·replace H := ite_then h30 H
           refine rn rfl rfl rfl rfl h30 rfl (u_fa rfl rfl Tryd.underlying82 rfl in_9 (Nat.succ_ne_zero _) rfl rfl (ne_of_lt (n := 0) (Nat.lt_of_lt_of_eq (by decide) (Eq.symm (GToken.len t0))))) ?_
           refine rn rfl rfl rfl rfl h30 rfl (u_ld rfl rfl Tryd.underlying9 rfl rfl ((Sub.refl _).trans (GToken.sub1 t0))) ?_
           refine chkK H fun h31 H => ?_
           refine rn rfl rfl rfl rfl h30 rfl (p_ixt rfl Tryd.underlying9 rfl rfl rfl (lrd_get h31)) ?_
           refine bindK H fun r'6 h32 H => ?_
           refine rn rfl rfl rfl rfl h30 rfl (p_callp rfl rfl rfl Tryd.func66 rfl rfl (g_lex_small_ac h32) ⟨rfl, trivial⟩) ?_
           refine rp rfl rfl (p_pkt rfl rfl h30 (.same _)) ?_
           refine rp rfl rfl (p_asg rfl rfl) ?_
           refine rs [(3, .b r'6)] [] rfl rfl rfl ?_
           have hz := some_elim H
           subst hz
           exact RunW_nil rfl
          ·replace H := ite_else h30 H
           iterate 4 (refine r_off rfl rfl rfl rfl (bfalse h30) rfl rfl ?_)
           refine rp rfl rfl (p_pkf rfl rfl (bfalse h30) (.same _)) ?_
           refine rp rfl rfl (p_asg rfl rfl) ?_
           refine rs [(3, .b false)] [] rfl rfl rfl ?_
           have hz := some_elim H
           subst hz
           exact RunW_nil rfl
         ·have hz := some_elim H
          subst hz
          exact rfl
        ·replace H := ite_else h26 H
         refine sg [0, 1] rfl ?_
         refine rp rfl rfl (p_ieq rfl rfl rfl) ?_
         refine rp rfl rfl (p_asg rfl rfl) ?_
         refine rz [(1, .q 1 (0)), (3, .b true), (71, .i t0.Kind), (83, .b (decide (t0.Kind = (2 : Int))))] [(1, .pure (GToken.cs t0))] rfl rfl rfl ?_
         refine AW2_if (p := t0.Kind = (2 : Int)) rfl (fun h35 => ?_) (fun h35 => ?_)
         ·replace H := ite_then h35 H
          refine AW2_reg [0, 1, 2, 3] rfl ?_
          refine rp rfl rfl (u_fa rfl rfl Tryd.underlying82 rfl in_9 (Nat.succ_ne_zero _) rfl rfl (ne_of_lt (n := 0) (Nat.lt_of_lt_of_eq (by decide) (Eq.symm (GToken.len t0))))) ?_
          refine rp rfl rfl (u_ld rfl rfl Tryd.underlying9 rfl rfl ((Sub.refl _).trans (GToken.sub1 t0))) ?_
          refine bindK H fun r'8 h36 H => ?_
          refine rp rfl rfl (p_calll rfl rfl rfl Tryd.func64 rfl rfl (g_lex_all_i1_ac h36) rfl ⟨lend_p rfl, lend_clo rfl rfl trivial, trivial⟩) ?_
          refine rp rfl rfl (p_asg rfl rfl) ?_
          refine rz [(3, .b r'8)] [] rfl rfl rfl ?_
          have hz := some_elim H
          subst hz
          exact rfl
         ·replace H := ite_else h35 H
          refine sg [0, 1] rfl ?_
          refine rp rfl rfl (p_ieq rfl rfl rfl) ?_
          refine rp rfl rfl (p_asg rfl rfl) ?_
          refine rz [(1, .q 1 (0)), (3, .b true), (71, .i t0.Kind), (88, .b (decide (t0.Kind = (3 : Int))))] [(1, .pure (GToken.cs t0))] rfl rfl rfl ?_
          refine AW2_if (p := t0.Kind = (3 : Int)) rfl (fun h37 => ?_) (fun h37 => ?_)
          ·replace H := ite_then h37 H
           refine AW2_reg [0, 1, 2, 3] rfl ?_
           refine rp rfl rfl (u_fa rfl rfl Tryd.underlying82 rfl in_3 (Nat.succ_ne_zero _) rfl rfl (ne_of_lt (n := 0) (Nat.lt_of_lt_of_eq (by decide) (Eq.symm (GToken.len t0))))) ?_
           refine rp rfl rfl (u_ld rfl rfl Tryd.underlying3 rfl rfl ((Sub.refl _).trans (GToken.sub2 t0))) ?_
           refine rp rfl rfl (p_bin rfl rfl rfl rfl) ?_
           refine rp rfl rfl (p_asg rfl rfl) ?_
           refine rz [(3, .b (decide (t0.Int_ ≥ (0 : Int))))] [] rfl rfl rfl ?_
           have hz := some_elim H
           subst hz
           exact rfl
          ·replace H := ite_else h37 H
           refine sg [0, 1] rfl ?_
           refine rp rfl rfl (p_ieq rfl rfl rfl) ?_
           refine rp rfl rfl (p_asg rfl rfl) ?_
           refine rz [(1, .q 1 (0)), (3, .b true), (71, .i t0.Kind), (93, .b (decide (t0.Kind = (4 : Int))))] [(1, .pure (GToken.cs t0))] rfl rfl rfl ?_
           refine AW2_if (p := t0.Kind = (4 : Int)) rfl (fun h38 => ?_) (fun h38 => ?_)
           ·replace H := ite_then h38 H
            refine AW2_reg [0, 1, 2, 3] rfl ?_
            refine rp rfl rfl (u_fa rfl rfl Tryd.underlying82 rfl in_9 (Nat.succ_ne_zero _) rfl rfl (ne_of_lt (n := 0) (Nat.lt_of_lt_of_eq (by decide) (Eq.symm (GToken.len t0))))) ?_
            refine rp rfl rfl (u_ld rfl rfl Tryd.underlying9 rfl rfl ((Sub.refl _).trans (GToken.sub1 t0))) ?_
            refine bindK H fun r'9 h39 H => ?_
            refine rp rfl rfl (p_callp rfl rfl rfl Tryd.func59 rfl rfl (g_utf8_ValidString_ac h39) ⟨rfl, trivial⟩) ?_
            refine rp rfl rfl (p_asg rfl rfl) ?_
            refine rz [(3, .b r'9)] [] rfl rfl rfl ?_
            have hz := some_elim H
            subst hz
            exact rfl
           ·replace H := ite_else h38 H
            refine sg [0, 1] rfl ?_
            refine rp rfl rfl (p_ieq rfl rfl rfl) ?_
            refine rp rfl rfl (p_asg rfl rfl) ?_
            refine rz [(1, .q 1 (0)), (3, .b true), (71, .i t0.Kind), (98, .b (decide (t0.Kind = (5 : Int))))] [(1, .pure (GToken.cs t0))] rfl rfl rfl ?_
            refine AW2_if (p := t0.Kind = (5 : Int)) rfl (fun h40 => ?_) (fun h40 => ?_)
            ·replace H := ite_then h40 H
             refine AW2_reg [0, 1, 2, 3, 4, 5] rfl ?_
             refine rp rfl rfl (u_fa rfl rfl Tryd.underlying82 rfl in_22 (Nat.succ_ne_zero _) rfl rfl (ne_of_lt (n := 0) (Nat.lt_of_lt_of_eq (by decide) (Eq.symm (GToken.len t0))))) ?_
             refine rp rfl rfl (u_ld rfl rfl Tryd.underlying22 rfl rfl ((Sub.refl _).trans (GToken.sub3 t0))) ?_
             refine rp rfl rfl (u_bld rfl in_24 one_24 zc_24 pl_24 rfl (af_cons rfl rfl (GValue.upd0 GValue.zero (3 : Int)) (af_cons rfl rfl (GValue.upd2 ((GValue.w0 GValue.zero (3 : Int))) t0.Bits) rfl))) ?_
             refine bindK H fun r'10 h41 H => ?_
             refine rp rfl rfl (p_callp rfl rfl rfl Tryd.func55 rfl rfl (g_value_Check_ac h41) ⟨rfl, trivial⟩) ?_
             refine rp rfl rfl (p_ieq rfl rfl rfl) ?_
             refine rp rfl rfl (p_asg rfl rfl) ?_
             refine rz [(3, .b (decide (r'10 = (0 : Int))))] [] rfl rfl rfl ?_
             have hz := some_elim H
             subst hz
             exact rfl
            ·replace H := ite_else h40 H
             refine sg [0, 1] rfl ?_
             refine rp rfl rfl (p_ieq rfl rfl rfl) ?_
             refine rp rfl rfl (p_asg rfl rfl) ?_
             refine rz [(1, .q 1 (0)), (3, .b true), (105, .b (decide (t0.Kind = (6 : Int))))] [(1, .pure (GToken.cs t0))] rfl rfl rfl ?_
             refine AW2_if (p := t0.Kind = (6 : Int)) rfl (fun h42 => ?_) (fun h42 => ?_)
             ·replace H := ite_then h42 H
              refine AW2_reg [0, 1, 2, 3] rfl ?_
              refine rp rfl rfl (u_fa rfl rfl Tryd.underlying82 rfl in_9 (Nat.succ_ne_zero _) rfl rfl (ne_of_lt (n := 0) (Nat.lt_of_lt_of_eq (by decide) (Eq.symm (GToken.len t0))))) ?_
              refine rp rfl rfl (u_ld rfl rfl Tryd.underlying9 rfl rfl ((Sub.refl _).trans (GToken.sub1 t0))) ?_
              refine bindK H fun r'11 h43 H => ?_
              refine rp rfl rfl (p_callp rfl rfl rfl Tryd.func68 rfl rfl (g_lex_sign_ac h43) ⟨rfl, trivial⟩) ?_
              refine rp rfl rfl (p_asg rfl rfl) ?_
              refine rz [(3, .b r'11)] [] rfl rfl rfl ?_
              have hz := some_elim H
              subst hz
              exact rfl
             ·replace H := ite_else h42 H
              refine as2 [(3, .b true)] [] rfl rfl rfl ?_
              refine AW2_skip ?_
              have hz := some_elim H
              subst hz
              exact rfl
       ·refine AW2_seq ?_
        refine sg [0, 1] rfl ?_
        refine rp rfl rfl (p_move rfl rfl) ?_
        refine rp rfl rfl (p_not rfl rfl) ?_
        refine rz [(111, .b (!j'3))] [] rfl rfl rfl ?_
        refine AW2_cond rfl (fun h44 => ?_) (fun h44 => ?_)
        ·replace H := ite_then h44 H
         refine sg [0] rfl ?_
         refine rp rfl rfl (p_asg rfl rfl) ?_
         refine rz [(2, .i (3 : Int))] [] rfl rfl rfl ?_
         refine AW2_ret ?_
         have hz := some_elim H
         subst hz
         exact ⟨⟨res_tmp (.same _), trivial⟩, trivial⟩
        ·replace H := ite_else (ne_true h44) H
         refine as2 [] [] rfl rfl rfl ?_
         refine AW2_skip ?_
         refine sg [0] rfl ?_
         refine rp rfl rfl (p_asg rfl rfl) ?_
         refine rz [(2, .i (0 : Int))] [] rfl rfl rfl ?_
         refine AW2_ret ?_
         have hz := some_elim H
         subst hz
         exact ⟨⟨res_tmp (.same _), trivial⟩, trivial⟩

/-! expr.node -/
def g_expr_node_r3 : List (List (Nat × Option Nat)) := [[(1, none)], [(11, some 0)], [(12, some 1)], [(1, none)], [(14, some 3)], [(15, some 4)]]
def g_expr_node_r3c : List (List Nat) := [[], [0], [0, 1], [], [3], [3, 4], [0, 1, 2, 3, 4, 5]]
noncomputable def g_expr_node (e0 : GExpr) : Option (Int) :=
  (if (e0.Op < (1 : Int)) ∨ (e0.Op > (20 : Int)) then some (2 : Int) else (g_expr_wants e0.Op).bind fun r'1 => (if (e0.Args.length : Int) ≠ r'1 then some (3 : Int) else (if ((decide (e0.Op = (2 : Int))) ≠ (decide (e0.Name ≠ []))) ∨ ((e0.Op ≠ (1 : Int)) ∧ (e0.Value ≠ GValue.zero)) then some (3 : Int) else ((if e0.Op = (2 : Int) then (g_lex_Check ({ { GToken.zero with Kind := (1 : Int) } with Text := e0.Name })).bind fun r'3 => some (decide (r'3 ≠ (0 : Int))) else some false)).bind fun g'4 => (if g'4 = true then some (3 : Int) else ((if e0.Op = (1 : Int) then (g_value_Check e0.Value).bind fun r'6 => (if r'6 ≠ (0 : Int) then some true else some (decide (e0.Value.Int_ < (0 : Int)))) else some false)).bind fun g'7 => (if g'7 = true then some (3 : Int) else some (0 : Int))))))
set_option maxHeartbeats 4000000 in
set_option maxRecDepth 100000 in
theorem g_expr_node_ac {e0 : GExpr} {r : Int} (H : g_expr_node e0 = some r) : ACp Tryd.prog 63 [(.agg (GExpr.cs e0))] (AV.int r) := by
 refine ACp_of (AC2_of_body (vs := [.i r]) Tryd.func63 rfl rfl (Nat.le_of_ble_eq_true rfl) rfl ?_) (fun _ => .same _)
 unfold g_expr_node at H
 refine as2 [(0, .g (GExpr.cs e0))] [] rfl rfl rfl ?_
 refine sg [0, 1] rfl ?_
 refine r_op rfl rfl (MakeD.opD (n_box 1 rfl rfl) rfl rfl rfl rfl) ?_
 refine rp rfl rfl (p_asg rfl rfl) ?_
 refine rz [(1, .q 1 (0))] [(1, .pure (GExpr.cs e0))] rfl rfl rfl ?_
 refine AW2_seq ?_
 refine AW2_seq ?_
 refine AW2_mid (⟨[(1, .q 1 (0)), (10, .b (decide ((e0.Op < (1 : Int)) ∨ (e0.Op > (20 : Int)))))], [(1, .pure (GExpr.cs e0))], 61⟩ : TS) ?_ ?_
 ·refine AW2_reg [0, 1, 2, 3, 4, 5, 6, 7] rfl ?_
  refine rp rfl rfl (u_fa rfl rfl Tryd.underlying27 rfl in_3 (Nat.succ_ne_zero _) rfl rfl (ne_of_lt (n := 0) (Nat.lt_of_lt_of_eq (by decide) (Eq.symm (GExpr.len e0))))) ?_
  refine rp rfl rfl (u_ld rfl rfl Tryd.underlying3 rfl rfl ((Sub.refl _).trans (GExpr.sub0 e0))) ?_
  refine rp rfl rfl (p_bin rfl rfl rfl rfl) ?_
  refine rp rfl rfl (p_move rfl rfl) ?_
  refine (Classical.em (e0.Op < (1 : Int))).elim (fun h1 => ?_) (fun h1 => ?_)
  ·refine r_off rfl rfl rfl rfl (decide_eq_true h1) rfl rfl ?_
   refine r_off rfl rfl rfl rfl (decide_eq_true h1) rfl rfl ?_
   refine r_off rfl rfl rfl rfl (decide_eq_true h1) rfl rfl ?_
   refine rp rfl rfl (p_pkt rfl rfl (decide_eq_true h1) (tb (decide_eq_true (p := (e0.Op < (1 : Int)) ∨ (e0.Op > (20 : Int))) (Or.inl h1)).symm)) ?_
   refine rs [(1, .q 1 (0)), (10, .b (decide ((e0.Op < (1 : Int)) ∨ (e0.Op > (20 : Int)))))] [(1, .pure (GExpr.cs e0))] rfl rfl rfl ?_
   exact RunW_nil rfl
  ·refine r_on rfl rfl rfl rfl (decide_eq_false h1) rfl (PureD.opD (u_fa rfl rfl Tryd.underlying27 rfl in_3 (Nat.succ_ne_zero _) rfl rfl (ne_of_lt (n := 0) (Nat.lt_of_lt_of_eq (by decide) (Eq.symm (GExpr.len e0)))))) ?_
   refine r_on rfl rfl rfl rfl (decide_eq_false h1) rfl (PureD.opD (u_ld rfl rfl Tryd.underlying3 rfl rfl ((Sub.refl _).trans (GExpr.sub0 e0)))) ?_
   refine r_on rfl rfl rfl rfl (decide_eq_false h1) rfl (PureD.opD (p_bin rfl rfl rfl rfl)) ?_
   refine rp rfl rfl (p_pkf rfl rfl (decide_eq_false h1) (tb ((or_l (p := e0.Op < (1 : Int)) (q := e0.Op > (20 : Int)) h1)))) ?_
   refine rs [(1, .q 1 (0)), (10, .b (decide ((e0.Op < (1 : Int)) ∨ (e0.Op > (20 : Int)))))] [(1, .pure (GExpr.cs e0))] rfl rfl rfl ?_
   exact RunW_nil rfl
 ·refine AW2_if (p := (e0.Op < (1 : Int)) ∨ (e0.Op > (20 : Int))) rfl (fun h2 => ?_) (fun h2 => ?_)
  ·replace H := ite_then h2 H
   refine sg [0] rfl ?_
   refine rp rfl rfl (p_asg rfl rfl) ?_
   refine rz [(2, .i (2 : Int))] [] rfl rfl rfl ?_
   refine AW2_ret ?_
   have hz := some_elim H
   subst hz
   exact ⟨⟨res_tmp (.same _), trivial⟩, trivial⟩
  ·replace H := ite_else h2 H
   refine as2 [(1, .q 1 (0))] [(1, .pure (GExpr.cs e0))] rfl rfl rfl ?_
   refine AW2_skip ?_
   refine AW2_seq ?_
   refine AW2_seq ?_
   refine bindK H fun r'1 h3 H => ?_
   refine AW2_ghoQ ?_
   refine AW2_draw 6 [6] (fun k => ([.q 1 (0 + 6), .p ((fun q : List GExpr => AV.lst (q.flatMap GExpr.cs) q.length) e0.Args), .i (e0.Args.length : Int), .q 1 (0 + 0), .i e0.Op, .i r'1] : List TV).getD k TV.any) (fun k => g_expr_node_r3.getD k []) [(1, none), (13, some 2), (16, some 5)] [] (fun k => g_expr_node_r3c.getD k []) mixed (by kernel_rfl) rfl rfl (a_op (g_x rfl (x_p rfl (u_fa rfl rfl Tryd.underlying27 rfl in_25 (Nat.succ_ne_zero _) rfl rfl (ne_of_lt (n := 0) (Nat.lt_of_lt_of_eq (by decide) (Eq.symm (GExpr.len e0))))) rfl)) (a_op (g_x rfl (x_p rfl (u_ld rfl rfl Tryd.underlying25 rfl rfl ((Sub.refl _).trans (GExpr.sub3 e0))) rfl)) (a_op (g_x rfl (x_p rfl (p_lenl rfl Tryd.underlying25 rfl rfl) rfl)) (a_op (g_x rfl (x_p rfl (u_fa rfl rfl Tryd.underlying27 rfl in_3 (Nat.succ_ne_zero _) rfl rfl (ne_of_lt (n := 0) (Nat.lt_of_lt_of_eq (by decide) (Eq.symm (GExpr.len e0))))) rfl)) (a_op (g_x rfl (x_p rfl (u_ld rfl rfl Tryd.underlying3 rfl rfl ((Sub.refl _).trans (GExpr.sub0 e0))) rfl)) (a_op (g_x rfl (x_p rfl (p_callp rfl rfl rfl Tryd.func77 rfl rfl (g_expr_wants_ac h3) ⟨rfl, trivial⟩) rfl)) (a_nil))))))) ?_
   refine t_op rfl rfl (PureD.opD (p_ine rfl rfl rfl)) ?_
   refine t_gho (Gho_st (L := [(1, .q 1 (0)), (17, .b (decide ((e0.Args.length : Int) ≠ r'1)))]) (H := [(1, .pure (GExpr.cs e0))]) (N := 61) rfl ⟨TLes.same _, TLes.same _, trivial⟩ ⟨rfl, trivial⟩) ?_
   refine AW2_if (p := (e0.Args.length : Int) ≠ r'1) rfl (fun h4 => ?_) (fun h4 => ?_)
   ·replace H := ite_then h4 H
    refine sg [0] rfl ?_
    refine rp rfl rfl (p_asg rfl rfl) ?_
    refine rz [(2, .i (3 : Int))] [] rfl rfl rfl ?_
    refine AW2_ret ?_
    have hz := some_elim H
    subst hz
    exact ⟨⟨res_tmp (.same _), trivial⟩, trivial⟩
   ·replace H := ite_else h4 H
    refine as2 [(1, .q 1 (0))] [(1, .pure (GExpr.cs e0))] rfl rfl rfl ?_
    refine AW2_skip ?_
    refine AW2_seq ?_
    refine AW2_seq ?_
    refine AW2_mid (⟨[(1, .q 1 (0)), (35, .b (decide (((decide (e0.Op = (2 : Int))) ≠ (decide (e0.Name ≠ []))) ∨ ((e0.Op ≠ (1 : Int)) ∧ (e0.Value ≠ GValue.zero)))))], [(1, .pure (GExpr.cs e0))], 61⟩ : TS) ?_ ?_
    ·refine AW2_reg [0, 1, 2, 3, 4, 5, 6, 7, 8, 9, 10, 11, 12, 13, 14, 15, 16, 17] rfl ?_
     refine rp rfl rfl (u_fa rfl rfl Tryd.underlying27 rfl in_3 (Nat.succ_ne_zero _) rfl rfl (ne_of_lt (n := 0) (Nat.lt_of_lt_of_eq (by decide) (Eq.symm (GExpr.len e0))))) ?_
     refine rp rfl rfl (u_ld rfl rfl Tryd.underlying3 rfl rfl ((Sub.refl _).trans (GExpr.sub0 e0))) ?_
     refine rp rfl rfl (p_ieq rfl rfl rfl) ?_
     refine rp rfl rfl (u_fa rfl rfl Tryd.underlying27 rfl in_9 (Nat.succ_ne_zero _) rfl rfl (ne_of_lt (n := 0) (Nat.lt_of_lt_of_eq (by decide) (Eq.symm (GExpr.len e0))))) ?_
     refine rp rfl rfl (u_ld rfl rfl Tryd.underlying9 rfl rfl ((Sub.refl _).trans (GExpr.sub2 e0))) ?_
     refine rp rfl rfl (p_sne rfl rfl rfl) ?_
     refine rp rfl rfl (p_bnep rfl Tryd.underlying4 rfl rfl) ?_
     refine rp rfl rfl (p_move rfl rfl) ?_
     refine (Classical.em ((decide (e0.Op = (2 : Int))) ≠ (decide (e0.Name ≠ [])))).elim (fun h5 => ?_) (fun h5 => ?_)
     ·refine r_off rfl rfl rfl rfl (decide_eq_true h5) rfl rfl ?_
      refine r_off rfl rfl rfl rfl (decide_eq_true h5) rfl rfl ?_
      refine r_off rfl rfl rfl rfl (decide_eq_true h5) rfl rfl ?_
      refine r_off rfl rfl rfl rfl (decide_eq_true h5) rfl rfl ?_
      refine r_off2 rfl rfl rfl rfl rfl rfl ?_
      refine r_off2 rfl rfl rfl rfl rfl rfl ?_
      refine r_off2 rfl rfl rfl rfl rfl rfl ?_
      refine r_off2 rfl rfl rfl rfl rfl rfl ?_
      refine r_off rfl rfl rfl rfl (decide_eq_true h5) rfl rfl ?_
      refine rp rfl rfl (p_pkt rfl rfl (decide_eq_true h5) (tb (decide_eq_true (p := ((decide (e0.Op = (2 : Int))) ≠ (decide (e0.Name ≠ []))) ∨ ((e0.Op ≠ (1 : Int)) ∧ (e0.Value ≠ GValue.zero))) (Or.inl h5)).symm)) ?_
      refine rs [(1, .q 1 (0)), (35, .b (decide (((decide (e0.Op = (2 : Int))) ≠ (decide (e0.Name ≠ []))) ∨ ((e0.Op ≠ (1 : Int)) ∧ (e0.Value ≠ GValue.zero)))))] [(1, .pure (GExpr.cs e0))] rfl rfl rfl ?_
      exact RunW_nil rfl
     ·refine r_on rfl rfl rfl rfl (decide_eq_false h5) rfl (PureD.opD (u_fa rfl rfl Tryd.underlying27 rfl in_3 (Nat.succ_ne_zero _) rfl rfl (ne_of_lt (n := 0) (Nat.lt_of_lt_of_eq (by decide) (Eq.symm (GExpr.len e0)))))) ?_
      refine r_on rfl rfl rfl rfl (decide_eq_false h5) rfl (PureD.opD (u_ld rfl rfl Tryd.underlying3 rfl rfl ((Sub.refl _).trans (GExpr.sub0 e0)))) ?_
      refine r_on rfl rfl rfl rfl (decide_eq_false h5) rfl (PureD.opD (p_ine rfl rfl rfl)) ?_
      refine r_on rfl rfl rfl rfl (decide_eq_false h5) rfl (PureD.opD (p_move rfl rfl)) ?_
      refine (Classical.em (e0.Op ≠ (1 : Int))).elim (fun h6 => ?_) (fun h6 => ?_)
      ·refine r_on rfl rfl rfl rfl (decide_eq_true h6) rfl (PureD.opD (u_fa rfl rfl Tryd.underlying27 rfl in_24 (Nat.succ_ne_zero _) rfl rfl (ne_of_lt (n := 0) (Nat.lt_of_lt_of_eq (by decide) (Eq.symm (GExpr.len e0)))))) ?_
       refine r_on rfl rfl rfl rfl (decide_eq_true h6) rfl (PureD.opD (u_lda rfl rfl Tryd.underlying24 rfl in_24 rfl (Nat.succ_pos _) ((Sub.refl _).trans (GExpr.sub1 e0)) (GValue.len e0.Value))) ?_
       refine r_on rfl rfl rfl rfl (decide_eq_true h6) rfl (PureD.opD (u_bld rfl in_24 one_24 zc_24 pl_24 rfl rfl)) ?_
       refine r_on rfl rfl rfl rfl (decide_eq_true h6) rfl (PureD.opD (p_nea (a := e0.Value) (b := GValue.zero) rfl eq_24 rfl (by kernel_rfl) rfl rfl)) ?_
       refine r_on rfl rfl rfl rfl (decide_eq_false h5) rfl (PureD.opD (p_pkt rfl rfl (decide_eq_true h6) (tb ((and_l (p := e0.Op ≠ (1 : Int)) (q := e0.Value ≠ GValue.zero) h6))))) ?_
       refine rp rfl rfl (p_pkf rfl rfl (decide_eq_false h5) (tb ((or_l (p := (decide (e0.Op = (2 : Int))) ≠ (decide (e0.Name ≠ []))) (q := (e0.Op ≠ (1 : Int)) ∧ (e0.Value ≠ GValue.zero)) h5)))) ?_
       refine rs [(1, .q 1 (0)), (35, .b (decide (((decide (e0.Op = (2 : Int))) ≠ (decide (e0.Name ≠ []))) ∨ ((e0.Op ≠ (1 : Int)) ∧ (e0.Value ≠ GValue.zero)))))] [(1, .pure (GExpr.cs e0))] rfl rfl rfl ?_
       exact RunW_nil rfl
      ·refine r_off rfl rfl rfl rfl (decide_eq_false h6) rfl rfl ?_
       refine r_off rfl rfl rfl rfl (decide_eq_false h6) rfl rfl ?_
       refine r_off rfl rfl rfl rfl (decide_eq_false h6) rfl rfl ?_
       refine r_off rfl rfl rfl rfl (decide_eq_false h6) rfl rfl ?_
       refine r_on rfl rfl rfl rfl (decide_eq_false h5) rfl (PureD.opD (p_pkf rfl rfl (decide_eq_false h6) (tb (decide_eq_false (p := (e0.Op ≠ (1 : Int)) ∧ (e0.Value ≠ GValue.zero)) (fun x => h6 x.1)).symm))) ?_
       refine rp rfl rfl (p_pkf rfl rfl (decide_eq_false h5) (tb ((or_l (p := (decide (e0.Op = (2 : Int))) ≠ (decide (e0.Name ≠ []))) (q := (e0.Op ≠ (1 : Int)) ∧ (e0.Value ≠ GValue.zero)) h5)))) ?_
       refine rs [(1, .q 1 (0)), (35, .b (decide (((decide (e0.Op = (2 : Int))) ≠ (decide (e0.Name ≠ []))) ∨ ((e0.Op ≠ (1 : Int)) ∧ (e0.Value ≠ GValue.zero)))))] [(1, .pure (GExpr.cs e0))] rfl rfl rfl ?_
       exact RunW_nil rfl
    ·refine AW2_if (p := ((decide (e0.Op = (2 : Int))) ≠ (decide (e0.Name ≠ []))) ∨ ((e0.Op ≠ (1 : Int)) ∧ (e0.Value ≠ GValue.zero))) rfl (fun h7 => ?_) (fun h7 => ?_)
     ·replace H := ite_then h7 H
      refine sg [0] rfl ?_
      refine rp rfl rfl (p_asg rfl rfl) ?_
      refine rz [(2, .i (3 : Int))] [] rfl rfl rfl ?_
      refine AW2_ret ?_
      have hz := some_elim H
      subst hz
      exact ⟨⟨res_tmp (.same _), trivial⟩, trivial⟩
     ·replace H := ite_else h7 H
      refine as2 [(1, .q 1 (0))] [(1, .pure (GExpr.cs e0))] rfl rfl rfl ?_
      refine AW2_skip ?_
      refine AW2_seq ?_
      refine AW2_seq ?_
      refine bindK H fun g'4 h11 H => ?_
      refine AW2_mid (⟨[(1, .q 1 (0)), (45, .b g'4)], [(1, .pure (GExpr.cs e0))], 61⟩ : TS) ?_ ?_
      ·clear H
       have H := h11
       clear h11
       refine AW2_reg [0, 1, 2, 3, 4, 5, 6, 7, 8, 9] rfl ?_
       refine rp rfl rfl (u_fa rfl rfl Tryd.underlying27 rfl in_3 (Nat.succ_ne_zero _) rfl rfl (ne_of_lt (n := 0) (Nat.lt_of_lt_of_eq (by decide) (Eq.symm (GExpr.len e0))))) ?_
       refine rp rfl rfl (u_ld rfl rfl Tryd.underlying3 rfl rfl ((Sub.refl _).trans (GExpr.sub0 e0))) ?_
       refine rp rfl rfl (p_ieq rfl rfl rfl) ?_
       refine rp rfl rfl (p_move rfl rfl) ?_
       refine (Classical.em (e0.Op = (2 : Int))).elim (fun h9 => ?_) (fun h9 => ?_)
       ·replace H := ite_then h9 H
        refine r_on rfl rfl rfl rfl (decide_eq_true h9) rfl (PureD.opD (u_fa rfl rfl Tryd.underlying27 rfl in_9 (Nat.succ_ne_zero _) rfl rfl (ne_of_lt (n := 0) (Nat.lt_of_lt_of_eq (by decide) (Eq.symm (GExpr.len e0)))))) ?_
        refine r_on rfl rfl rfl rfl (decide_eq_true h9) rfl (PureD.opD (u_ld rfl rfl Tryd.underlying9 rfl rfl ((Sub.refl _).trans (GExpr.sub2 e0)))) ?_
        refine r_on rfl rfl rfl rfl (decide_eq_true h9) rfl (PureD.opD (u_bld rfl in_82 one_82 zc_82 pl_82 rfl (af_cons rfl rfl (GToken.upd0 GToken.zero (1 : Int)) (af_cons rfl rfl (GToken.upd1 ((GToken.w0 GToken.zero (1 : Int))) e0.Name) rfl)))) ?_
        refine bindK H fun r'3 h10 H => ?_
        refine r_on rfl rfl rfl rfl (decide_eq_true h9) rfl (PureD.opD (p_callp rfl rfl rfl Tryd.func45 rfl rfl (g_lex_Check_ac h10) ⟨rfl, trivial⟩)) ?_
        refine r_on rfl rfl rfl rfl (decide_eq_true h9) rfl (PureD.opD (p_ine rfl rfl rfl)) ?_
        refine rp rfl rfl (p_pkt rfl rfl (decide_eq_true h9) (.same _)) ?_
        refine rs [(1, .q 1 (0)), (45, .b (decide (r'3 ≠ (0 : Int))))] [(1, .pure (GExpr.cs e0))] rfl rfl rfl ?_
        have hz := some_elim H
        subst hz
        exact RunW_nil rfl
       ·replace H := ite_else h9 H
        refine r_off rfl rfl rfl rfl (decide_eq_false h9) rfl rfl ?_
        refine r_off rfl rfl rfl rfl (decide_eq_false h9) rfl rfl ?_
        refine r_off rfl rfl rfl rfl (decide_eq_false h9) rfl rfl ?_
        refine r_off rfl rfl rfl rfl (decide_eq_false h9) rfl rfl ?_
        refine r_off rfl rfl rfl rfl (decide_eq_false h9) rfl rfl ?_
        refine rp rfl rfl (p_pkf rfl rfl (decide_eq_false h9) (.same _)) ?_
        refine rs [(1, .q 1 (0)), (45, .b false)] [(1, .pure (GExpr.cs e0))] rfl rfl rfl ?_
        have hz := some_elim H
        subst hz
        exact RunW_nil rfl
      ·refine AW2_cond rfl (fun h12 => ?_) (fun h12 => ?_)
       ·replace H := ite_then h12 H
        refine sg [0] rfl ?_
        refine rp rfl rfl (p_asg rfl rfl) ?_
        refine rz [(2, .i (3 : Int))] [] rfl rfl rfl ?_
        refine AW2_ret ?_
        have hz := some_elim H
        subst hz
        exact ⟨⟨res_tmp (.same _), trivial⟩, trivial⟩
       ·replace H := ite_else (ne_true h12) H
        refine as2 [(1, .q 1 (0))] [(1, .pure (GExpr.cs e0))] rfl rfl rfl ?_
        refine AW2_skip ?_
        refine AW2_seq ?_
        refine AW2_seq ?_
        refine bindK H fun g'7 h17 H => ?_
        refine AW2_mid (⟨[(60, .b g'7)], [], 61⟩ : TS) ?_ ?_
        ·clear H
         have H := h17
         clear h17
         refine AW2_reg [0, 1, 2, 3, 4, 5, 6, 7, 8, 9, 10, 11, 12, 13, 14] rfl ?_
         refine rp rfl rfl (u_fa rfl rfl Tryd.underlying27 rfl in_3 (Nat.succ_ne_zero _) rfl rfl (ne_of_lt (n := 0) (Nat.lt_of_lt_of_eq (by decide) (Eq.symm (GExpr.len e0))))) ?_
         refine rp rfl rfl (u_ld rfl rfl Tryd.underlying3 rfl rfl ((Sub.refl _).trans (GExpr.sub0 e0))) ?_
         refine rp rfl rfl (p_ieq rfl rfl rfl) ?_
         refine rp rfl rfl (p_move rfl rfl) ?_
         refine (Classical.em (e0.Op = (1 : Int))).elim (fun h14 => ?_) (fun h14 => ?_)
         ·replace H := ite_then h14 H
          refine r_on rfl rfl rfl rfl (decide_eq_true h14) rfl (PureD.opD (u_fa rfl rfl Tryd.underlying27 rfl in_24 (Nat.succ_ne_zero _) rfl rfl (ne_of_lt (n := 0) (Nat.lt_of_lt_of_eq (by decide) (Eq.symm (GExpr.len e0)))))) ?_
          refine r_on rfl rfl rfl rfl (decide_eq_true h14) rfl (PureD.opD (u_lda rfl rfl Tryd.underlying24 rfl in_24 rfl (Nat.succ_pos _) ((Sub.refl _).trans (GExpr.sub1 e0)) (GValue.len e0.Value))) ?_
          refine bindK H fun r'6 h15 H => ?_
          refine r_on rfl rfl rfl rfl (decide_eq_true h14) rfl (PureD.opD (p_callp rfl rfl rfl Tryd.func55 rfl rfl (g_value_Check_ac h15) ⟨rfl, trivial⟩)) ?_
          refine r_on rfl rfl rfl rfl (decide_eq_true h14) rfl (PureD.opD (p_ine rfl rfl rfl)) ?_
          refine r_on rfl rfl rfl rfl (decide_eq_true h14) rfl (PureD.opD (p_move rfl rfl)) ?_
          refine (Classical.em (r'6 ≠ (0 : Int))).elim (fun h16 => ?_) (fun h16 => ?_)
          ·replace H := ite_then h16 H
           refine r_off rfl rfl rfl rfl (decide_eq_true h16) rfl rfl ?_
           refine r_off rfl rfl rfl rfl (decide_eq_true h16) rfl rfl ?_
           refine r_off rfl rfl rfl rfl (decide_eq_true h16) rfl rfl ?_
           refine r_off rfl rfl rfl rfl (decide_eq_true h16) rfl rfl ?_
           refine r_on rfl rfl rfl rfl (decide_eq_true h14) rfl (PureD.opD (p_pkt rfl rfl (decide_eq_true h16) (.same _))) ?_
           refine rp rfl rfl (p_pkt rfl rfl (decide_eq_true h14) (.same _)) ?_
           refine rs [(60, .b true)] [] rfl rfl rfl ?_
           have hz := some_elim H
           subst hz
           exact RunW_nil rfl
          ·replace H := ite_else h16 H
           refine r_on rfl rfl rfl rfl (decide_eq_false h16) rfl (PureD.opD (u_fa rfl rfl Tryd.underlying27 rfl in_24 (Nat.succ_ne_zero _) rfl rfl (ne_of_lt (n := 0) (Nat.lt_of_lt_of_eq (by decide) (Eq.symm (GExpr.len e0)))))) ?_
           refine r_on rfl rfl rfl rfl (decide_eq_false h16) rfl (PureD.opD (u_fa rfl rfl Tryd.underlying24 rfl in_3 (Nat.succ_ne_zero _) rfl rfl (ne_of_lt (n := 0) (Nat.lt_of_lt_of_eq (by decide) (Eq.symm (GExpr.len e0)))))) ?_
           refine r_on rfl rfl rfl rfl (decide_eq_false h16) rfl (PureD.opD (u_ld rfl rfl Tryd.underlying3 rfl rfl (((Sub.refl _).trans (GExpr.sub1 e0)).trans (GValue.sub1 e0.Value)))) ?_
           refine r_on rfl rfl rfl rfl (decide_eq_false h16) rfl (PureD.opD (p_bin rfl rfl rfl rfl)) ?_
           refine r_on rfl rfl rfl rfl (decide_eq_true h14) rfl (PureD.opD (p_pkf rfl rfl (decide_eq_false h16) (.same _))) ?_
           refine rp rfl rfl (p_pkt rfl rfl (decide_eq_true h14) (.same _)) ?_
           refine rs [(60, .b (decide (e0.Value.Int_ < (0 : Int))))] [] rfl rfl rfl ?_
           have hz := some_elim H
           subst hz
           exact RunW_nil rfl
         ·replace H := ite_else h14 H
          refine r_off rfl rfl rfl rfl (decide_eq_false h14) rfl rfl ?_
          refine r_off rfl rfl rfl rfl (decide_eq_false h14) rfl rfl ?_
          refine r_off rfl rfl rfl rfl (decide_eq_false h14) rfl rfl ?_
          refine r_off rfl rfl rfl rfl (decide_eq_false h14) rfl rfl ?_
          refine r_off rfl rfl rfl rfl (decide_eq_false h14) rfl rfl ?_
          refine r_off2 rfl rfl rfl rfl rfl rfl ?_
          refine r_off2 rfl rfl rfl rfl rfl rfl ?_
          refine r_off2 rfl rfl rfl rfl rfl rfl ?_
          refine r_off2 rfl rfl rfl rfl rfl rfl ?_
          refine r_off rfl rfl rfl rfl (decide_eq_false h14) rfl rfl ?_
          refine rp rfl rfl (p_pkf rfl rfl (decide_eq_false h14) (.same _)) ?_
          refine rs [(60, .b false)] [] rfl rfl rfl ?_
          have hz := some_elim H
          subst hz
          exact RunW_nil rfl
        ·refine AW2_cond rfl (fun h18 => ?_) (fun h18 => ?_)
         ·replace H := ite_then h18 H
          refine sg [0] rfl ?_
          refine rp rfl rfl (p_asg rfl rfl) ?_
          refine rz [(2, .i (3 : Int))] [] rfl rfl rfl ?_
          refine AW2_ret ?_
          have hz := some_elim H
          subst hz
          exact ⟨⟨res_tmp (.same _), trivial⟩, trivial⟩
         ·replace H := ite_else (ne_true h18) H
          refine as2 [] [] rfl rfl rfl ?_
          refine AW2_skip ?_
          refine sg [0] rfl ?_
          refine rp rfl rfl (p_asg rfl rfl) ?_
          refine rz [(2, .i (0 : Int))] [] rfl rfl rfl ?_
          refine AW2_ret ?_
          have hz := some_elim H
          subst hz
          exact ⟨⟨res_tmp (.same _), trivial⟩, trivial⟩

/-! expr.nodes -/
noncomputable def g_expr_nodes_l0 (e0 : GExpr) (R' : GExpr → Option Int) : Int → Option (Int ⊕ (Int ⊕ Unit))
  | t15_0 => (if t15_0 < (e0.Args.length : Int) then if 0 ≤ t15_0 ∧ t15_0 < (e0.Args.length : Int) then (R' (lrd e0.Args t15_0.toNat)).bind fun r'2 => (if r'2 ≠ (0 : Int) then some (.inr (.inl r'2)) else some (.inl (w64 (t15_0 + (1 : Int))))) else none else some (.inr (.inr ())))
noncomputable def g_expr_nodes_b (R' : GExpr → Option Int) (e0 : GExpr) : Option (Int) :=
  (g_expr_node e0).bind fun r'1 => (if r'1 ≠ (0 : Int) then some r'1 else (loopO (g_expr_nodes_l0 e0 R') (0 : Int)).bind fun o'6 => match o'6 with | .inl y'7 => some y'7 | .inr (y'8) => some (0 : Int))
noncomputable def g_expr_nodes : Nat → GExpr → Option Int
  | 0, _ => none
  | fu + 1, e0 => g_expr_nodes_b (g_expr_nodes fu) e0
set_option maxHeartbeats 4000000 in
set_option maxRecDepth 100000 in
theorem g_expr_nodes_ac0 {R' : GExpr → Option Int} (hR : ∀ {e0 : GExpr} {r : Int}, R' e0 = some r → ACp Tryd.prog 44 [(.agg (GExpr.cs e0))] (AV.int r)) {e0 : GExpr} {r : Int} (H : g_expr_nodes_b R' e0 = some r) : ACp Tryd.prog 44 [(.agg (GExpr.cs e0))] (AV.int r) := by
 refine ACp_of (AC2_of_body (vs := [.i r]) Tryd.func44 rfl rfl (Nat.le_of_ble_eq_true rfl) rfl ?_) (fun _ => .same _)
 unfold g_expr_nodes_b at H
 refine as2 [(0, .g (GExpr.cs e0))] [] rfl rfl rfl ?_
 refine sg [0, 1] rfl ?_
 refine r_op rfl rfl (MakeD.opD (n_box 1 rfl rfl) rfl rfl rfl rfl) ?_
 refine rp rfl rfl (p_asg rfl rfl) ?_
 refine rz [(1, .q 1 (0))] [(1, .pure (GExpr.cs e0))] rfl rfl rfl ?_
 refine AW2_seq ?_
 refine sg [0, 1, 2] rfl ?_
 refine rp rfl rfl (u_lda rfl rfl Tryd.underlying27 rfl in_27 rfl (Nat.succ_pos _) (Sub.refl _) (GExpr.len e0)) ?_
 refine bindK H fun r'1 h1 H => ?_
 refine rp rfl rfl (p_callp rfl rfl rfl Tryd.func63 rfl rfl (g_expr_node_ac h1) ⟨rfl, trivial⟩) ?_
 refine rp rfl rfl (p_asg rfl rfl) ?_
 refine rz [(1, .q 1 (0)), (3, .i r'1)] [(1, .pure (GExpr.cs e0))] rfl rfl rfl ?_
 refine sg [0, 1] rfl ?_
 refine rp rfl rfl (p_move rfl rfl) ?_
 refine rp rfl rfl (p_ine rfl rfl rfl) ?_
 refine rz [(1, .q 1 (0)), (3, .i r'1), (10, .b (decide (r'1 ≠ (0 : Int))))] [(1, .pure (GExpr.cs e0))] rfl rfl rfl ?_
 refine AW2_if (p := r'1 ≠ (0 : Int)) rfl (fun h2 => ?_) (fun h2 => ?_)
 ·replace H := ite_then h2 H
  refine sg [0, 1] rfl ?_
  refine rp rfl rfl (p_move rfl rfl) ?_
  refine rp rfl rfl (p_asg rfl rfl) ?_
  refine rz [(2, .i r'1)] [] rfl rfl rfl ?_
  refine AW2_ret ?_
  have hz := some_elim H
  subst hz
  exact ⟨⟨res_tmp (.same _), trivial⟩, trivial⟩
 ·replace H := ite_else h2 H
  refine as2 [(1, .q 1 (0))] [(1, .pure (GExpr.cs e0))] rfl rfl rfl ?_
  refine AW2_skip ?_
  refine AW2_seq ?_
  refine sg [0, 1, 2, 3] rfl ?_
  refine rp rfl rfl (u_fa rfl rfl Tryd.underlying27 rfl in_25 (Nat.succ_ne_zero _) rfl rfl (ne_of_lt (n := 0) (Nat.lt_of_lt_of_eq (by decide) (Eq.symm (GExpr.len e0))))) ?_
  refine rp rfl rfl (u_ld rfl rfl Tryd.underlying25 rfl rfl ((Sub.refl _).trans (GExpr.sub3 e0))) ?_
  refine rp rfl rfl (p_lenl rfl Tryd.underlying25 rfl rfl) ?_
  refine rp rfl rfl (p_move rfl rfl) ?_
  refine rz [(13, .p ((fun q : List GExpr => AV.lst (q.flatMap GExpr.cs) q.length) e0.Args)), (14, .i (e0.Args.length : Int)), (15, .i (0 : Int))] [] rfl rfl rfl ?_
  refine AW2_block ?_
  refine as2 [(13, .p ((fun q : List GExpr => AV.lst (q.flatMap GExpr.cs) q.length) e0.Args)), (14, .i (e0.Args.length : Int)), (15, .i (0 : Int))] [] rfl rfl rfl ?_
  refine bindK H fun o'6 h7 H => ?_
  refine AW2_loopO (fun a'3 : Int => (⟨[(13, .p ((fun q : List GExpr => AV.lst (q.flatMap GExpr.cs) q.length) e0.Args)), (14, .i (e0.Args.length : Int)), (15, .i a'3)], [], 25⟩ : TS)) (fun (o : Int ⊕ Unit) e s' => match o with | .inl y'4 => e = Go.Exit.ret ∧ ResAll Tryd.prog s' [ResultVar.tmp 2] [.i y'4] ∧ HFits s' [] | .inr (y'5) => e = Go.Exit.exit 0 ∧ s' = (⟨[], [], 25⟩ : TS)) h7 rfl (fun t15_0 x hx => ?_) (fun e s' hs => ?_)
  ·clear H
   have H := hx
   clear hx
   unfold g_expr_nodes_l0 at H
   refine sg [0] rfl ?_
   refine rp rfl rfl (p_bin rfl rfl rfl rfl) ?_
   refine rz [(13, .p ((fun q : List GExpr => AV.lst (q.flatMap GExpr.cs) q.length) e0.Args)), (14, .i (e0.Args.length : Int)), (15, .i t15_0), (16, .b (decide (t15_0 < (e0.Args.length : Int))))] [] rfl rfl rfl ?_
   refine AW2_seq ?_
   refine AW2_if (p := t15_0 < (e0.Args.length : Int)) rfl (fun h3 => ?_) (fun h3 => ?_)
   ·replace H := ite_then h3 H
    refine as2 [(13, .p ((fun q : List GExpr => AV.lst (q.flatMap GExpr.cs) q.length) e0.Args)), (14, .i (e0.Args.length : Int)), (15, .i t15_0)] [] rfl rfl rfl ?_
    refine AW2_skip ?_
    refine AW2_seq ?_
    refine AW2_block ?_
    refine sg [0, 1, 2, 3] rfl ?_
    refine chkK H fun h4 H => ?_
    refine rp rfl rfl (u_ixl rfl rfl Tryd.underlying25 in_27 rfl rfl (ixe h4) (ixn h4) (fne (fun x => (GExpr.len x)) (by decide) (ixn h4))) ?_
    refine rp rfl rfl (u_lda rfl rfl Tryd.underlying27 rfl in_27 rfl (Nat.succ_pos _) (Sub.fm default (fun x => (GExpr.len x)) (ixn h4)) (GExpr.len (lrd e0.Args t15_0.toNat))) ?_
    refine r_op rfl rfl (MakeD.opD (u_alloc 5 rfl in_27 one_27 zc_27) rfl rfl rfl rfl) ?_
    refine r_op rfl rfl (u_st rfl rfl rfl rfl rfl in_27 (GExpr.len (lrd e0.Args t15_0.toNat)) (ne_of_lt (n := 0) (Nat.lt_of_lt_of_eq (by decide) (Eq.symm (GExpr.len GExpr.zero)))) (Upd.refl ((GExpr.len (lrd e0.Args t15_0.toNat)).trans (GExpr.len GExpr.zero).symm))) ?_
    refine rz [(5, .q 5 (0)), (13, .p ((fun q : List GExpr => AV.lst (q.flatMap GExpr.cs) q.length) e0.Args)), (14, .i (e0.Args.length : Int)), (15, .i t15_0)] [(5, .pure (GExpr.cs (lrd e0.Args t15_0.toNat)))] rfl rfl rfl ?_
    refine sg [0, 1, 2] rfl ?_
    refine rp rfl rfl (u_lda rfl rfl Tryd.underlying27 rfl in_27 rfl (Nat.succ_pos _) (Sub.refl _) (GExpr.len (lrd e0.Args t15_0.toNat))) ?_
    refine bindK H fun r'2 h5 H => ?_
    refine rp rfl rfl (p_callp rfl rfl rfl Tryd.func44 rfl rfl (hR h5) ⟨rfl, trivial⟩) ?_
    refine rp rfl rfl (p_asg rfl rfl) ?_
    refine rz [(6, .i r'2), (13, .p ((fun q : List GExpr => AV.lst (q.flatMap GExpr.cs) q.length) e0.Args)), (14, .i (e0.Args.length : Int)), (15, .i t15_0)] [] rfl rfl rfl ?_
    refine sg [0, 1] rfl ?_
    refine rp rfl rfl (p_move rfl rfl) ?_
    refine rp rfl rfl (p_ine rfl rfl rfl) ?_
    refine rz [(6, .i r'2), (13, .p ((fun q : List GExpr => AV.lst (q.flatMap GExpr.cs) q.length) e0.Args)), (14, .i (e0.Args.length : Int)), (15, .i t15_0), (22, .b (decide (r'2 ≠ (0 : Int))))] [] rfl rfl rfl ?_
    refine AW2_if (p := r'2 ≠ (0 : Int)) rfl (fun h6 => ?_) (fun h6 => ?_)
    ·replace H := ite_then h6 H
     refine sg [0, 1] rfl ?_
     refine rp rfl rfl (p_move rfl rfl) ?_
     refine rp rfl rfl (p_asg rfl rfl) ?_
     refine rz [(2, .i r'2)] [] rfl rfl rfl ?_
     refine AW2_ret ?_
     have hz := some_elim H
     subst hz
     exact ⟨rfl, ⟨res_tmp (.same _), trivial⟩, trivial⟩
    ·replace H := ite_else h6 H
     refine as2 [(13, .p ((fun q : List GExpr => AV.lst (q.flatMap GExpr.cs) q.length) e0.Args)), (14, .i (e0.Args.length : Int)), (15, .i t15_0)] [] rfl rfl rfl ?_
     refine AW2_skip ?_
     refine AW2_reg [0, 1] rfl ?_
     refine rp rfl rfl (p_bin rfl rfl rfl rfl) ?_
     refine rp rfl rfl (p_move rfl rfl) ?_
     refine rz [(13, .p ((fun q : List GExpr => AV.lst (q.flatMap GExpr.cs) q.length) e0.Args)), (14, .i (e0.Args.length : Int)), (15, .i (w64 (t15_0 + (1 : Int))))] [] rfl rfl rfl ?_
     have hz := some_elim H
     subst hz
     exact ⟨rfl, rfl⟩
   ·replace H := ite_else h3 H
    refine as2 [] [] rfl rfl rfl ?_
    refine AW2_exit ?_
    refine thenQ2_exit ?_
    have hz := some_elim H
    subst hz
    exact ⟨rfl, rfl⟩
  ·rcases o'6 with y'7 | y'8
   ·obtain ⟨rfl, hs⟩ := hs
    refine ⟨by simp, ?_⟩
    have hz := some_elim H
    subst hz
    exact ⟨hs.1, hs.2⟩
   ·obtain ⟨rfl, rfl⟩ := hs
    refine ⟨by simp, ?_⟩
    refine blockQ2_exit ?_
    refine sg [0] rfl ?_
    refine rp rfl rfl (p_asg rfl rfl) ?_
    refine rz [(2, .i (0 : Int))] [] rfl rfl rfl ?_
    refine AW2_ret ?_
    have hz := some_elim H
    subst hz
    exact ⟨⟨res_tmp (.same _), trivial⟩, trivial⟩
theorem g_expr_nodes_acN : ∀ (fu : Nat) {e0 : GExpr} {r : Int}, g_expr_nodes fu e0 = some r → ACp Tryd.prog 44 [(.agg (GExpr.cs e0))] (AV.int r)
 | 0, _, _, H => (by cases H)
 | fu + 1, _, _, H => g_expr_nodes_ac0 (g_expr_nodes_acN fu) H
theorem g_expr_nodes_ac {e0 : GExpr} {r : Int} (H : g_expr_nodes 100000 e0 = some r) : ACp Tryd.prog 44 [(.agg (GExpr.cs e0))] (AV.int r) := g_expr_nodes_acN 100000 H

/-! expr.Check -/
noncomputable def g_expr_Check (e0 : GExpr) : Option (Int) :=
  (g_expr_size 100000 e0 (1 : Int)).bind fun r'1 => (if (!r'1.2) = true then some (1 : Int) else (g_expr_nodes 100000 e0).bind fun r'2 => some r'2)
set_option maxHeartbeats 4000000 in
set_option maxRecDepth 100000 in
theorem g_expr_Check_ac {e0 : GExpr} {r : Int} (H : g_expr_Check e0 = some r) : ACp Tryd.prog 18 [(.agg (GExpr.cs e0))] (AV.int r) := by
 refine ACp_of (AC2_of_body (vs := [.i r]) Tryd.func18 rfl rfl (Nat.le_of_ble_eq_true rfl) rfl ?_) (fun _ => .same _)
 unfold g_expr_Check at H
 refine as2 [(0, .g (GExpr.cs e0))] [] rfl rfl rfl ?_
 refine sg [0, 1] rfl ?_
 refine r_op rfl rfl (MakeD.opD (n_box 1 rfl rfl) rfl rfl rfl rfl) ?_
 refine rp rfl rfl (p_asg rfl rfl) ?_
 refine rz [(1, .q 1 (0))] [(1, .pure (GExpr.cs e0))] rfl rfl rfl ?_
 refine AW2_seq ?_
 refine sg [0, 1, 2, 3, 4, 5, 6] rfl ?_
 refine rp rfl rfl (u_lda rfl rfl Tryd.underlying27 rfl in_27 rfl (Nat.succ_pos _) (Sub.refl _) (GExpr.len e0)) ?_
 refine bindK H fun r'1 h1 H => ?_
 refine rp rfl rfl (p_callp rfl rfl rfl Tryd.func43 rfl rfl (g_expr_size_ac h1) ⟨rfl, rfl, trivial⟩) ?_
 refine rp rfl rfl (p_move rfl rfl) ?_
 refine rp rfl rfl (p_ext rfl rfl rfl rfl) ?_
 refine rp rfl rfl (p_ext rfl rfl rfl rfl) ?_
 refine rp rfl rfl (p_asg rfl rfl) ?_
 refine rp rfl rfl (p_asg rfl rfl) ?_
 refine rz [(1, .q 1 (0)), (4, .b r'1.2)] [(1, .pure (GExpr.cs e0))] rfl rfl rfl ?_
 refine sg [0, 1] rfl ?_
 refine rp rfl rfl (p_move rfl rfl) ?_
 refine rp rfl rfl (p_not rfl rfl) ?_
 refine rz [(1, .q 1 (0)), (11, .b (!r'1.2))] [(1, .pure (GExpr.cs e0))] rfl rfl rfl ?_
 refine AW2_cond rfl (fun h2 => ?_) (fun h2 => ?_)
 ·replace H := ite_then h2 H
  refine sg [0] rfl ?_
  refine rp rfl rfl (p_asg rfl rfl) ?_
  refine rz [(2, .i (1 : Int))] [] rfl rfl rfl ?_
  refine AW2_ret ?_
  have hz := some_elim H
  subst hz
  exact ⟨⟨res_tmp (.same _), trivial⟩, trivial⟩
 ·replace H := ite_else (ne_true h2) H
  refine as2 [(1, .q 1 (0))] [(1, .pure (GExpr.cs e0))] rfl rfl rfl ?_
  refine AW2_skip ?_
  refine sg [0, 1, 2] rfl ?_
  refine rp rfl rfl (u_lda rfl rfl Tryd.underlying27 rfl in_27 rfl (Nat.succ_pos _) (Sub.refl _) (GExpr.len e0)) ?_
  refine bindK H fun r'2 h3 H => ?_
  refine rp rfl rfl (p_callp rfl rfl rfl Tryd.func44 rfl rfl (g_expr_nodes_ac h3) ⟨rfl, trivial⟩) ?_
  refine rp rfl rfl (p_asg rfl rfl) ?_
  refine rz [(2, .i r'2)] [] rfl rfl rfl ?_
  refine AW2_ret ?_
  have hz := some_elim H
  subst hz
  exact ⟨⟨res_tmp (.same _), trivial⟩, trivial⟩

/-! stmt.slim -/
noncomputable def g_stmt_slim (e0 : GExpr) : Option (Bool) :=
  (g_expr_Check e0).bind fun r'1 => some (decide (r'1 ≠ (1 : Int)))
set_option maxHeartbeats 4000000 in
set_option maxRecDepth 100000 in
theorem g_stmt_slim_ac {e0 : GExpr} {r : Bool} (H : g_stmt_slim e0 = some r) : ACp Tryd.prog 51 [(.agg (GExpr.cs e0))] (AV.bool r) := by
 refine ACp_of (AC2_of_body (vs := [.b r]) Tryd.func51 rfl rfl (Nat.le_of_ble_eq_true rfl) rfl ?_) (fun _ => .same _)
 unfold g_stmt_slim at H
 refine as2 [(0, .g (GExpr.cs e0))] [] rfl rfl rfl ?_
 refine sg [0, 1] rfl ?_
 refine r_op rfl rfl (MakeD.opD (n_box 1 rfl rfl) rfl rfl rfl rfl) ?_
 refine rp rfl rfl (p_asg rfl rfl) ?_
 refine rz [(1, .q 1 (0))] [(1, .pure (GExpr.cs e0))] rfl rfl rfl ?_
 refine sg [0, 1, 2, 3] rfl ?_
 refine rp rfl rfl (u_lda rfl rfl Tryd.underlying27 rfl in_27 rfl (Nat.succ_pos _) (Sub.refl _) (GExpr.len e0)) ?_
 refine bindK H fun r'1 h1 H => ?_
 refine rp rfl rfl (p_callp rfl rfl rfl Tryd.func18 rfl rfl (g_expr_Check_ac h1) ⟨rfl, trivial⟩) ?_
 refine rp rfl rfl (p_ine rfl rfl rfl) ?_
 refine rp rfl rfl (p_asg rfl rfl) ?_
 refine rz [(2, .b (decide (r'1 ≠ (1 : Int))))] [] rfl rfl rfl ?_
 refine AW2_ret ?_
 have hz := some_elim H
 subst hz
 exact ⟨⟨res_tmp (.same _), trivial⟩, trivial⟩

/-! stmt.small -/
noncomputable def g_stmt_small_l0 (c0 : GCommand) : Bool × Int → Option ((Bool × Int) ⊕ (Bool))
  | (ok4_0, t50_0) => (if t50_0 < (c0.Sets.length : Int) then if 0 ≤ t50_0 ∧ t50_0 < (c0.Sets.length : Int) then ((if ok4_0 = true then (g_stmt_slim ((lrd c0.Sets t50_0.toNat).Expr)).bind fun r'8 => some r'8 else some false)).bind fun g'9 => some (.inl (g'9, w64 (t50_0 + (1 : Int)))) else none else some (.inr ok4_0))
noncomputable def g_stmt_small_l1 (c0 : GCommand) : Bool × Int → Option ((Bool × Int) ⊕ (Bool))
  | (ok4_1, t64_1) => (if t64_1 < (c0.Query.Items.length : Int) then if 0 ≤ t64_1 ∧ t64_1 < (c0.Query.Items.length : Int) then ((if ok4_1 = true then (g_stmt_slim ((lrd c0.Query.Items t64_1.toNat).Expr)).bind fun r'15 => some r'15 else some false)).bind fun g'16 => some (.inl (g'16, w64 (t64_1 + (1 : Int)))) else none else some (.inr ok4_1))
noncomputable def g_stmt_small (c0 : GCommand) : Option (Bool) :=
  letO (decide ((((((c0.Cols.length : Int) > (5 : Int)) ∨ ((c0.Row.length : Int) > (5 : Int))) ∨ ((c0.Sets.length : Int) > (4 : Int))) ∨ ((c0.Query.Items.length : Int) > (4 : Int))) ∨ ((c0.Query.Sorts.length : Int) > (4 : Int)))) fun t38'1 => (if t38'1 = true then some false else ((g_stmt_slim c0.Where).bind fun r'4 => (if r'4 = true then (g_stmt_slim c0.Query.Where).bind fun r'5 => some r'5 else some false)).bind fun g'6 => (loopO (g_stmt_small_l0 c0) (g'6, (0 : Int))).bind fun y'13 => (loopO (g_stmt_small_l1 c0) (y'13, (0 : Int))).bind fun y'20 => some y'20)
set_option maxHeartbeats 4000000 in
set_option maxRecDepth 100000 in
theorem g_stmt_small_ac {c0 : GCommand} {r : Bool} (H : g_stmt_small c0 = some r) : ACp Tryd.prog 29 [(.agg (GCommand.cs c0))] (AV.bool r) := by
 refine ACp_of (AC2_of_body (vs := [.b r]) Tryd.func29 rfl rfl (Nat.le_of_ble_eq_true rfl) rfl ?_) (fun _ => .same _)
 unfold g_stmt_small at H
 refine as2 [(0, .g (GCommand.cs c0))] [] rfl rfl rfl ?_
 refine sg [0, 1] rfl ?_
 refine r_op rfl rfl (MakeD.opD (n_box 1 rfl rfl) rfl rfl rfl rfl) ?_
 refine rp rfl rfl (p_asg rfl rfl) ?_
 refine rz [(1, .q 1 (0))] [(1, .pure (GCommand.cs c0))] rfl rfl rfl ?_
 refine sg [0, 1, 2, 3] rfl ?_
 refine rp rfl rfl (u_fa rfl rfl Tryd.underlying43 rfl in_37 (Nat.succ_ne_zero _) rfl rfl (ne_of_lt (n := 0) (Nat.lt_of_lt_of_eq (by decide) (Eq.symm (GCommand.len c0))))) ?_
 refine rp rfl rfl (u_lda rfl rfl Tryd.underlying37 rfl in_37 rfl (Nat.succ_pos _) ((Sub.refl _).trans (GCommand.sub8 c0)) (GQuery.len c0.Query)) ?_
 refine r_op rfl rfl (MakeD.opD (u_alloc 3 rfl in_37 one_37 zc_37) rfl rfl rfl rfl) ?_
 refine r_op rfl rfl (u_st rfl rfl rfl rfl rfl in_37 (GQuery.len c0.Query) (ne_of_lt (n := 0) (Nat.lt_of_lt_of_eq (by decide) (Eq.symm (GQuery.len GQuery.zero)))) (Upd.refl ((GQuery.len c0.Query).trans (GQuery.len GQuery.zero).symm))) ?_
 refine rz [(1, .q 1 (0)), (3, .q 3 (0))] [(1, .pure (GCommand.cs c0)), (3, .pure (GQuery.cs c0.Query))] rfl rfl rfl ?_
 refine AW2_seq ?_
 refine AW2_seq ?_
 refine AW2_mid (⟨[(1, .q 1 (0)), (3, .q 3 (0)), (38, .b (decide ((((((c0.Cols.length : Int) > (5 : Int)) ∨ ((c0.Row.length : Int) > (5 : Int))) ∨ ((c0.Sets.length : Int) > (4 : Int))) ∨ ((c0.Query.Items.length : Int) > (4 : Int))) ∨ ((c0.Query.Sorts.length : Int) > (4 : Int)))))], [(1, .pure (GCommand.cs c0)), (3, .pure (GQuery.cs c0.Query))], 76⟩ : TS) ?_ ?_
 ·refine AW2_reg [0, 1, 2, 3, 4, 5, 6, 7, 8, 9, 10, 11, 12, 13, 14, 15, 16, 17, 18, 19, 20, 21, 22, 23, 24, 25, 26, 27] rfl ?_
  refine rp rfl rfl (u_fa rfl rfl Tryd.underlying43 rfl in_28 (Nat.succ_ne_zero _) rfl rfl (ne_of_lt (n := 0) (Nat.lt_of_lt_of_eq (by decide) (Eq.symm (GCommand.len c0))))) ?_
  refine rp rfl rfl (u_ld rfl rfl Tryd.underlying28 rfl rfl ((Sub.refl _).trans (GCommand.sub4 c0))) ?_
  refine rp rfl rfl (p_lenl rfl Tryd.underlying28 rfl rfl) ?_
  refine rp rfl rfl (p_bin rfl rfl rfl rfl) ?_
  refine rp rfl rfl (p_move rfl rfl) ?_
  refine (Classical.em ((c0.Cols.length : Int) > (5 : Int))).elim (fun h1 => ?_) (fun h1 => ?_)
  ·iterate 4 (refine r_off rfl rfl rfl rfl (decide_eq_true h1) rfl rfl ?_)
   have qq1 := decide_eq_true (p := ((c0.Cols.length : Int) > (5 : Int)) ∨ ((c0.Row.length : Int) > (5 : Int))) (Or.inl h1)
   refine rp rfl rfl (p_pkt rfl rfl (decide_eq_true h1) (tb qq1.symm)) ?_
   refine rp rfl rfl (p_move rfl rfl) ?_
   iterate 4 (refine r_off rfl rfl rfl rfl qq1 rfl rfl ?_)
   have qq2 := decide_eq_true (p := (((c0.Cols.length : Int) > (5 : Int)) ∨ ((c0.Row.length : Int) > (5 : Int))) ∨ ((c0.Sets.length : Int) > (4 : Int))) (Or.inl (Or.inl h1))
   refine rp rfl rfl (p_pkt rfl rfl qq1 (tb qq2.symm)) ?_
   refine rp rfl rfl (p_move rfl rfl) ?_
   iterate 4 (refine r_off rfl rfl rfl rfl qq2 rfl rfl ?_)
   have qq3 := decide_eq_true (p := ((((c0.Cols.length : Int) > (5 : Int)) ∨ ((c0.Row.length : Int) > (5 : Int))) ∨ ((c0.Sets.length : Int) > (4 : Int))) ∨ ((c0.Query.Items.length : Int) > (4 : Int))) (Or.inl (Or.inl (Or.inl h1)))
   refine rp rfl rfl (p_pkt rfl rfl qq2 (tb qq3.symm)) ?_
   refine rp rfl rfl (p_move rfl rfl) ?_
   iterate 4 (refine r_off rfl rfl rfl rfl qq3 rfl rfl ?_)
   refine rp rfl rfl (p_pkt rfl rfl qq3 (tb (decide_eq_true (p := (((((c0.Cols.length : Int) > (5 : Int)) ∨ ((c0.Row.length : Int) > (5 : Int))) ∨ ((c0.Sets.length : Int) > (4 : Int))) ∨ ((c0.Query.Items.length : Int) > (4 : Int))) ∨ ((c0.Query.Sorts.length : Int) > (4 : Int))) (Or.inl (Or.inl (Or.inl (Or.inl h1))))).symm)) ?_
   refine rs [(1, .q 1 (0)), (3, .q 3 (0)), (38, .b (decide ((((((c0.Cols.length : Int) > (5 : Int)) ∨ ((c0.Row.length : Int) > (5 : Int))) ∨ ((c0.Sets.length : Int) > (4 : Int))) ∨ ((c0.Query.Items.length : Int) > (4 : Int))) ∨ ((c0.Query.Sorts.length : Int) > (4 : Int)))))] [(1, .pure (GCommand.cs c0)), (3, .pure (GQuery.cs c0.Query))] rfl rfl rfl ?_
   exact RunW_nil rfl
  ·refine r_on rfl rfl rfl rfl (decide_eq_false h1) rfl (PureD.opD (u_fa rfl rfl Tryd.underlying43 rfl in_40 (Nat.succ_ne_zero _) rfl rfl (ne_of_lt (n := 0) (Nat.lt_of_lt_of_eq (by decide) (Eq.symm (GCommand.len c0)))))) ?_
   refine r_on rfl rfl rfl rfl (decide_eq_false h1) rfl (PureD.opD (u_ld rfl rfl Tryd.underlying40 rfl rfl ((Sub.refl _).trans (GCommand.sub5 c0)))) ?_
   refine r_on rfl rfl rfl rfl (decide_eq_false h1) rfl (PureD.opD (p_lenl rfl Tryd.underlying40 rfl rfl)) ?_
   refine r_on rfl rfl rfl rfl (decide_eq_false h1) rfl (PureD.opD (p_bin rfl rfl rfl rfl)) ?_
   refine rp rfl rfl (p_pkf rfl rfl (decide_eq_false h1) (tb ((or_l (p := (c0.Cols.length : Int) > (5 : Int)) (q := (c0.Row.length : Int) > (5 : Int)) h1)))) ?_
   refine rp rfl rfl (p_move rfl rfl) ?_
   refine (Classical.em ((c0.Row.length : Int) > (5 : Int))).elim (fun h2 => ?_) (fun h2 => ?_)
   ·have qq4 := decide_eq_true (p := ((c0.Cols.length : Int) > (5 : Int)) ∨ ((c0.Row.length : Int) > (5 : Int))) (Or.inr h2)
    iterate 4 (refine r_off rfl rfl rfl rfl qq4 rfl rfl ?_)
    have qq5 := decide_eq_true (p := (((c0.Cols.length : Int) > (5 : Int)) ∨ ((c0.Row.length : Int) > (5 : Int))) ∨ ((c0.Sets.length : Int) > (4 : Int))) (Or.inl (Or.inr h2))
    refine rp rfl rfl (p_pkt rfl rfl qq4 (tb qq5.symm)) ?_
    refine rp rfl rfl (p_move rfl rfl) ?_
    iterate 4 (refine r_off rfl rfl rfl rfl qq5 rfl rfl ?_)
    have qq6 := decide_eq_true (p := ((((c0.Cols.length : Int) > (5 : Int)) ∨ ((c0.Row.length : Int) > (5 : Int))) ∨ ((c0.Sets.length : Int) > (4 : Int))) ∨ ((c0.Query.Items.length : Int) > (4 : Int))) (Or.inl (Or.inl (Or.inr h2)))
    refine rp rfl rfl (p_pkt rfl rfl qq5 (tb qq6.symm)) ?_
    refine rp rfl rfl (p_move rfl rfl) ?_
    iterate 4 (refine r_off rfl rfl rfl rfl qq6 rfl rfl ?_)
    refine rp rfl rfl (p_pkt rfl rfl qq6 (tb (decide_eq_true (p := (((((c0.Cols.length : Int) > (5 : Int)) ∨ ((c0.Row.length : Int) > (5 : Int))) ∨ ((c0.Sets.length : Int) > (4 : Int))) ∨ ((c0.Query.Items.length : Int) > (4 : Int))) ∨ ((c0.Query.Sorts.length : Int) > (4 : Int))) (Or.inl (Or.inl (Or.inl (Or.inr h2))))).symm)) ?_
    refine rs [(1, .q 1 (0)), (3, .q 3 (0)), (38, .b (decide ((((((c0.Cols.length : Int) > (5 : Int)) ∨ ((c0.Row.length : Int) > (5 : Int))) ∨ ((c0.Sets.length : Int) > (4 : Int))) ∨ ((c0.Query.Items.length : Int) > (4 : Int))) ∨ ((c0.Query.Sorts.length : Int) > (4 : Int)))))] [(1, .pure (GCommand.cs c0)), (3, .pure (GQuery.cs c0.Query))] rfl rfl rfl ?_
    exact RunW_nil rfl
   ·have qq7 := decide_eq_false (p := ((c0.Cols.length : Int) > (5 : Int)) ∨ ((c0.Row.length : Int) > (5 : Int))) (not_or.2 ⟨h1, h2⟩)
    refine rn rfl rfl rfl rfl qq7 rfl (u_fa rfl rfl Tryd.underlying43 rfl in_41 (Nat.succ_ne_zero _) rfl rfl (ne_of_lt (n := 0) (Nat.lt_of_lt_of_eq (by decide) (Eq.symm (GCommand.len c0))))) ?_
    refine rn rfl rfl rfl rfl qq7 rfl (u_ld rfl rfl Tryd.underlying41 rfl rfl ((Sub.refl _).trans (GCommand.sub6 c0))) ?_
    refine rn rfl rfl rfl rfl qq7 rfl (p_lenl rfl Tryd.underlying41 rfl rfl) ?_
    refine rn rfl rfl rfl rfl qq7 rfl (p_bin rfl rfl rfl rfl) ?_
    refine rp rfl rfl (p_pkf rfl rfl qq7 (tb ((or_l (p := ((c0.Cols.length : Int) > (5 : Int)) ∨ ((c0.Row.length : Int) > (5 : Int))) (q := (c0.Sets.length : Int) > (4 : Int)) (not_or.2 ⟨h1, h2⟩))))) ?_
    refine rp rfl rfl (p_move rfl rfl) ?_
    refine (Classical.em ((c0.Sets.length : Int) > (4 : Int))).elim (fun h3 => ?_) (fun h3 => ?_)
    ·have qq8 := decide_eq_true (p := (((c0.Cols.length : Int) > (5 : Int)) ∨ ((c0.Row.length : Int) > (5 : Int))) ∨ ((c0.Sets.length : Int) > (4 : Int))) (Or.inr h3)
     iterate 4 (refine r_off rfl rfl rfl rfl qq8 rfl rfl ?_)
     have qq9 := decide_eq_true (p := ((((c0.Cols.length : Int) > (5 : Int)) ∨ ((c0.Row.length : Int) > (5 : Int))) ∨ ((c0.Sets.length : Int) > (4 : Int))) ∨ ((c0.Query.Items.length : Int) > (4 : Int))) (Or.inl (Or.inr h3))
     refine rp rfl rfl (p_pkt rfl rfl qq8 (tb qq9.symm)) ?_
     refine rp rfl rfl (p_move rfl rfl) ?_
     iterate 4 (refine r_off rfl rfl rfl rfl qq9 rfl rfl ?_)
     refine rp rfl rfl (p_pkt rfl rfl qq9 (tb (decide_eq_true (p := (((((c0.Cols.length : Int) > (5 : Int)) ∨ ((c0.Row.length : Int) > (5 : Int))) ∨ ((c0.Sets.length : Int) > (4 : Int))) ∨ ((c0.Query.Items.length : Int) > (4 : Int))) ∨ ((c0.Query.Sorts.length : Int) > (4 : Int))) (Or.inl (Or.inl (Or.inr h3)))).symm)) ?_
     refine rs [(1, .q 1 (0)), (3, .q 3 (0)), (38, .b (decide ((((((c0.Cols.length : Int) > (5 : Int)) ∨ ((c0.Row.length : Int) > (5 : Int))) ∨ ((c0.Sets.length : Int) > (4 : Int))) ∨ ((c0.Query.Items.length : Int) > (4 : Int))) ∨ ((c0.Query.Sorts.length : Int) > (4 : Int)))))] [(1, .pure (GCommand.cs c0)), (3, .pure (GQuery.cs c0.Query))] rfl rfl rfl ?_
     exact RunW_nil rfl
    ·have qq10 := decide_eq_false (p := (((c0.Cols.length : Int) > (5 : Int)) ∨ ((c0.Row.length : Int) > (5 : Int))) ∨ ((c0.Sets.length : Int) > (4 : Int))) (not_or.2 ⟨(not_or.2 ⟨h1, h2⟩), h3⟩)
     refine rn rfl rfl rfl rfl qq10 rfl (u_fa rfl rfl Tryd.underlying37 rfl in_34 (Nat.succ_ne_zero _) rfl rfl (ne_of_lt (n := 0) (Nat.lt_of_lt_of_eq (by decide) (Eq.symm (GQuery.len c0.Query))))) ?_
     refine rn rfl rfl rfl rfl qq10 rfl (u_ld rfl rfl Tryd.underlying34 rfl rfl ((Sub.refl _).trans (GQuery.sub0 c0.Query))) ?_
     refine rn rfl rfl rfl rfl qq10 rfl (p_lenl rfl Tryd.underlying34 rfl rfl) ?_
     refine rn rfl rfl rfl rfl qq10 rfl (p_bin rfl rfl rfl rfl) ?_
     refine rp rfl rfl (p_pkf rfl rfl qq10 (tb ((or_l (p := (((c0.Cols.length : Int) > (5 : Int)) ∨ ((c0.Row.length : Int) > (5 : Int))) ∨ ((c0.Sets.length : Int) > (4 : Int))) (q := (c0.Query.Items.length : Int) > (4 : Int)) (not_or.2 ⟨(not_or.2 ⟨h1, h2⟩), h3⟩))))) ?_
     refine rp rfl rfl (p_move rfl rfl) ?_
     refine (Classical.em ((c0.Query.Items.length : Int) > (4 : Int))).elim (fun h4 => ?_) (fun h4 => ?_)
     ·have qq11 := decide_eq_true (p := ((((c0.Cols.length : Int) > (5 : Int)) ∨ ((c0.Row.length : Int) > (5 : Int))) ∨ ((c0.Sets.length : Int) > (4 : Int))) ∨ ((c0.Query.Items.length : Int) > (4 : Int))) (Or.inr h4)
      iterate 4 (refine r_off rfl rfl rfl rfl qq11 rfl rfl ?_)
      refine rp rfl rfl (p_pkt rfl rfl qq11 (tb (decide_eq_true (p := (((((c0.Cols.length : Int) > (5 : Int)) ∨ ((c0.Row.length : Int) > (5 : Int))) ∨ ((c0.Sets.length : Int) > (4 : Int))) ∨ ((c0.Query.Items.length : Int) > (4 : Int))) ∨ ((c0.Query.Sorts.length : Int) > (4 : Int))) (Or.inl (Or.inr h4))).symm)) ?_
      refine rs [(1, .q 1 (0)), (3, .q 3 (0)), (38, .b (decide ((((((c0.Cols.length : Int) > (5 : Int)) ∨ ((c0.Row.length : Int) > (5 : Int))) ∨ ((c0.Sets.length : Int) > (4 : Int))) ∨ ((c0.Query.Items.length : Int) > (4 : Int))) ∨ ((c0.Query.Sorts.length : Int) > (4 : Int)))))] [(1, .pure (GCommand.cs c0)), (3, .pure (GQuery.cs c0.Query))] rfl rfl rfl ?_
      exact RunW_nil rfl
     ·have qq12 := decide_eq_false (p := ((((c0.Cols.length : Int) > (5 : Int)) ∨ ((c0.Row.length : Int) > (5 : Int))) ∨ ((c0.Sets.length : Int) > (4 : Int))) ∨ ((c0.Query.Items.length : Int) > (4 : Int))) (not_or.2 ⟨(not_or.2 ⟨(not_or.2 ⟨h1, h2⟩), h3⟩), h4⟩)
      refine rn rfl rfl rfl rfl qq12 rfl (u_fa rfl rfl Tryd.underlying37 rfl in_35 (Nat.succ_ne_zero _) rfl rfl (ne_of_lt (n := 0) (Nat.lt_of_lt_of_eq (by decide) (Eq.symm (GQuery.len c0.Query))))) ?_
      refine rn rfl rfl rfl rfl qq12 rfl (u_ld rfl rfl Tryd.underlying35 rfl rfl ((Sub.refl _).trans (GQuery.sub3 c0.Query))) ?_
      refine rn rfl rfl rfl rfl qq12 rfl (p_lenl rfl Tryd.underlying35 rfl rfl) ?_
      refine rn rfl rfl rfl rfl qq12 rfl (p_bin rfl rfl rfl rfl) ?_
      refine rp rfl rfl (p_pkf rfl rfl qq12 (tb ((or_l (p := ((((c0.Cols.length : Int) > (5 : Int)) ∨ ((c0.Row.length : Int) > (5 : Int))) ∨ ((c0.Sets.length : Int) > (4 : Int))) ∨ ((c0.Query.Items.length : Int) > (4 : Int))) (q := (c0.Query.Sorts.length : Int) > (4 : Int)) (not_or.2 ⟨(not_or.2 ⟨(not_or.2 ⟨h1, h2⟩), h3⟩), h4⟩))))) ?_
      refine rs [(1, .q 1 (0)), (3, .q 3 (0)), (38, .b (decide ((((((c0.Cols.length : Int) > (5 : Int)) ∨ ((c0.Row.length : Int) > (5 : Int))) ∨ ((c0.Sets.length : Int) > (4 : Int))) ∨ ((c0.Query.Items.length : Int) > (4 : Int))) ∨ ((c0.Query.Sorts.length : Int) > (4 : Int)))))] [(1, .pure (GCommand.cs c0)), (3, .pure (GQuery.cs c0.Query))] rfl rfl rfl ?_
      exact RunW_nil rfl
 ·refine gen1 (fun t38'1 => (⟨[(1, .q 1 (0)), (3, .q 3 (0)), (38, .b t38'1)], [(1, .pure (GCommand.cs c0)), (3, .pure (GQuery.cs c0.Query))], 76⟩ : TS)) H ?_
  intro t38'1 H
  refine AW2_cond rfl (fun h5 => ?_) (fun h5 => ?_)
  ·replace H := ite_then h5 H
   refine sg [0] rfl ?_
   refine rp rfl rfl (p_asg rfl rfl) ?_
   refine rz [(2, .b false)] [] rfl rfl rfl ?_
   refine AW2_ret ?_
   have hz := some_elim H
   subst hz
   exact ⟨⟨res_tmp (.same _), trivial⟩, trivial⟩
  ·replace H := ite_else (ne_true h5) H
   refine as2 [(1, .q 1 (0)), (3, .q 3 (0))] [(1, .pure (GCommand.cs c0)), (3, .pure (GQuery.cs c0.Query))] rfl rfl rfl ?_
   refine AW2_skip ?_
   refine AW2_seq ?_
   refine bindK H fun g'6 h11 H => ?_
   refine AW2_mid (⟨[(1, .q 1 (0)), (3, .q 3 (0)), (4, .b g'6)], [(1, .pure (GCommand.cs c0)), (3, .pure (GQuery.cs c0.Query))], 76⟩ : TS) ?_ ?_
   ·clear H
    have H := h11
    clear h11
    refine AW2_reg [0, 1, 2, 3, 4, 5, 6, 7, 8] rfl ?_
    refine rp rfl rfl (u_fa rfl rfl Tryd.underlying43 rfl in_27 (Nat.succ_ne_zero _) rfl rfl (ne_of_lt (n := 0) (Nat.lt_of_lt_of_eq (by decide) (Eq.symm (GCommand.len c0))))) ?_
    refine rp rfl rfl (u_lda rfl rfl Tryd.underlying27 rfl in_27 rfl (Nat.succ_pos _) ((Sub.refl _).trans (GCommand.sub7 c0)) (GExpr.len c0.Where)) ?_
    refine bindK H fun r'4 h8 H => ?_
    refine rp rfl rfl (p_callp rfl rfl rfl Tryd.func51 rfl rfl (g_stmt_slim_ac h8) ⟨rfl, trivial⟩) ?_
    refine rp rfl rfl (p_move rfl rfl) ?_
    refine (Classical.em (r'4 = true)).elim (fun h9 => ?_) (fun h9 => ?_)
    ·replace H := ite_then h9 H
     refine rn rfl rfl rfl rfl h9 rfl (u_fa rfl rfl Tryd.underlying37 rfl in_27 (Nat.succ_ne_zero _) rfl rfl (ne_of_lt (n := 0) (Nat.lt_of_lt_of_eq (by decide) (Eq.symm (GQuery.len c0.Query))))) ?_
     refine rn rfl rfl rfl rfl h9 rfl (u_lda rfl rfl Tryd.underlying27 rfl in_27 rfl (Nat.succ_pos _) ((Sub.refl _).trans (GQuery.sub1 c0.Query)) (GExpr.len c0.Query.Where)) ?_
     refine bindK H fun r'5 h10 H => ?_
     refine rn rfl rfl rfl rfl h9 rfl (p_callp rfl rfl rfl Tryd.func51 rfl rfl (g_stmt_slim_ac h10) ⟨rfl, trivial⟩) ?_
     refine rp rfl rfl (p_pkt rfl rfl h9 (.same _)) ?_
     refine rp rfl rfl (p_asg rfl rfl) ?_
     refine rs [(1, .q 1 (0)), (3, .q 3 (0)), (4, .b r'5)] [(1, .pure (GCommand.cs c0)), (3, .pure (GQuery.cs c0.Query))] rfl rfl rfl ?_
     have hz := some_elim H
     subst hz
     exact RunW_nil rfl
    ·replace H := ite_else h9 H
     iterate 3 (refine r_off rfl rfl rfl rfl (bfalse h9) rfl rfl ?_)
     refine rp rfl rfl (p_pkf rfl rfl (bfalse h9) (.same _)) ?_
     refine rp rfl rfl (p_asg rfl rfl) ?_
     refine rs [(1, .q 1 (0)), (3, .q 3 (0)), (4, .b false)] [(1, .pure (GCommand.cs c0)), (3, .pure (GQuery.cs c0.Query))] rfl rfl rfl ?_
     have hz := some_elim H
     subst hz
     exact RunW_nil rfl
   ·refine AW2_seq ?_
    refine sg [0, 1, 2, 3] rfl ?_
    refine rp rfl rfl (u_fa rfl rfl Tryd.underlying43 rfl in_41 (Nat.succ_ne_zero _) rfl rfl (ne_of_lt (n := 0) (Nat.lt_of_lt_of_eq (by decide) (Eq.symm (GCommand.len c0))))) ?_
    refine rp rfl rfl (u_ld rfl rfl Tryd.underlying41 rfl rfl ((Sub.refl _).trans (GCommand.sub6 c0))) ?_
    refine rp rfl rfl (p_lenl rfl Tryd.underlying41 rfl rfl) ?_
    refine rp rfl rfl (p_move rfl rfl) ?_
    refine rz [(3, .q 3 (0)), (4, .b g'6), (48, .p ((fun q : List GSet => AV.lst (q.flatMap GSet.cs) q.length) c0.Sets)), (49, .i (c0.Sets.length : Int)), (50, .i (0 : Int))] [(3, .pure (GQuery.cs c0.Query))] rfl rfl rfl ?_
    refine AW2_block ?_
    refine as2 [(3, .q 3 (0)), (4, .b g'6), (48, .p ((fun q : List GSet => AV.lst (q.flatMap GSet.cs) q.length) c0.Sets)), (49, .i (c0.Sets.length : Int)), (50, .i (0 : Int))] [(3, .pure (GQuery.cs c0.Query))] rfl rfl rfl ?_
    refine bindK H fun y'13 h19 H => ?_
    refine AW2_loopO (fun a'10 : Bool × Int => (⟨[(3, .q 3 (0)), (4, .b a'10.1), (48, .p ((fun q : List GSet => AV.lst (q.flatMap GSet.cs) q.length) c0.Sets)), (49, .i (c0.Sets.length : Int)), (50, .i a'10.2)], [(3, .pure (GQuery.cs c0.Query))], 76⟩ : TS)) (fun (y'11 : Bool) e s' => e = Go.Exit.exit 0 ∧ s' = (⟨[(3, .q 3 (0)), (4, .b y'11)], [(3, .pure (GQuery.cs c0.Query))], 76⟩ : TS)) h19 rfl (fun a x hx => ?_) (fun e s' hs => ?_)
    ·clear H
     obtain ⟨ok4_0, t50_0⟩ := a
     have H := hx
     clear hx
     unfold g_stmt_small_l0 at H
     refine sg [0] rfl ?_
     refine rp rfl rfl (p_bin rfl rfl rfl rfl) ?_
     refine rz [(3, .q 3 (0)), (4, .b ok4_0), (48, .p ((fun q : List GSet => AV.lst (q.flatMap GSet.cs) q.length) c0.Sets)), (49, .i (c0.Sets.length : Int)), (50, .i t50_0), (51, .b (decide (t50_0 < (c0.Sets.length : Int))))] [(3, .pure (GQuery.cs c0.Query))] rfl rfl rfl ?_
     refine AW2_seq ?_
     refine AW2_if (p := t50_0 < (c0.Sets.length : Int)) rfl (fun h12 => ?_) (fun h12 => ?_)
     ·replace H := ite_then h12 H
      refine as2 [(3, .q 3 (0)), (4, .b ok4_0), (48, .p ((fun q : List GSet => AV.lst (q.flatMap GSet.cs) q.length) c0.Sets)), (49, .i (c0.Sets.length : Int)), (50, .i t50_0)] [(3, .pure (GQuery.cs c0.Query))] rfl rfl rfl ?_
      refine AW2_skip ?_
      refine AW2_seq ?_
      refine AW2_block ?_
      refine sg [0, 1, 2, 3] rfl ?_
      refine chkK H fun h13 H => ?_
      refine rp rfl rfl (u_ixl rfl rfl Tryd.underlying41 in_71 rfl rfl (ixe h13) (ixn h13) (fne (fun x => (GSet.len x)) (by decide) (ixn h13))) ?_
      refine rp rfl rfl (u_lda rfl rfl Tryd.underlying71 rfl in_71 rfl (Nat.succ_pos _) (Sub.fm default (fun x => (GSet.len x)) (ixn h13)) (GSet.len (lrd c0.Sets t50_0.toNat))) ?_
      refine r_op rfl rfl (MakeD.opD (u_alloc 6 rfl in_71 one_71 zc_71) rfl rfl rfl rfl) ?_
      refine r_op rfl rfl (u_st rfl rfl rfl rfl rfl in_71 (GSet.len (lrd c0.Sets t50_0.toNat)) (ne_of_lt (n := 0) (Nat.lt_of_lt_of_eq (by decide) (Eq.symm (GSet.len GSet.zero)))) (Upd.refl ((GSet.len (lrd c0.Sets t50_0.toNat)).trans (GSet.len GSet.zero).symm))) ?_
      refine rz [(3, .q 3 (0)), (4, .b ok4_0), (6, .q 6 (0)), (48, .p ((fun q : List GSet => AV.lst (q.flatMap GSet.cs) q.length) c0.Sets)), (49, .i (c0.Sets.length : Int)), (50, .i t50_0)] [(3, .pure (GQuery.cs c0.Query)), (6, .pure (GSet.cs (lrd c0.Sets t50_0.toNat)))] rfl rfl rfl ?_
      refine bindK H fun g'9 h17 H => ?_
      refine AW2_mid (⟨[(3, .q 3 (0)), (4, .b g'9), (48, .p ((fun q : List GSet => AV.lst (q.flatMap GSet.cs) q.length) c0.Sets)), (49, .i (c0.Sets.length : Int)), (50, .i t50_0)], [(3, .pure (GQuery.cs c0.Query))], 76⟩ : TS) ?_ ?_
      ·clear H
       have H := h17
       clear h17
       refine AW2_reg [0, 1, 2, 3, 4, 5, 6] rfl ?_
       refine rp rfl rfl (p_move rfl rfl) ?_
       refine rp rfl rfl (p_move rfl rfl) ?_
       refine (Classical.em (ok4_0 = true)).elim (fun h15 => ?_) (fun h15 => ?_)
       ·replace H := ite_then h15 H
        refine rn rfl rfl rfl rfl h15 rfl (u_fa rfl rfl Tryd.underlying71 rfl in_27 (Nat.succ_ne_zero _) rfl rfl (ne_of_lt (n := 0) (Nat.lt_of_lt_of_eq (by decide) (Eq.symm (GSet.len (lrd c0.Sets t50_0.toNat)))))) ?_
        refine rn rfl rfl rfl rfl h15 rfl (u_lda rfl rfl Tryd.underlying27 rfl in_27 rfl (Nat.succ_pos _) ((Sub.refl _).trans (GSet.sub1 (lrd c0.Sets t50_0.toNat))) (GExpr.len ((lrd c0.Sets t50_0.toNat).Expr))) ?_
        refine bindK H fun r'8 h16 H => ?_
        refine rn rfl rfl rfl rfl h15 rfl (p_callp rfl rfl rfl Tryd.func51 rfl rfl (g_stmt_slim_ac h16) ⟨rfl, trivial⟩) ?_
        refine rp rfl rfl (p_pkt rfl rfl h15 (.same _)) ?_
        refine rp rfl rfl (p_asg rfl rfl) ?_
        refine rs [(3, .q 3 (0)), (4, .b r'8), (48, .p ((fun q : List GSet => AV.lst (q.flatMap GSet.cs) q.length) c0.Sets)), (49, .i (c0.Sets.length : Int)), (50, .i t50_0)] [(3, .pure (GQuery.cs c0.Query))] rfl rfl rfl ?_
        have hz := some_elim H
        subst hz
        exact RunW_nil rfl
       ·replace H := ite_else h15 H
        iterate 3 (refine r_off rfl rfl rfl rfl (bfalse h15) rfl rfl ?_)
        refine rp rfl rfl (p_pkf rfl rfl (bfalse h15) (.same _)) ?_
        refine rp rfl rfl (p_asg rfl rfl) ?_
        refine rs [(3, .q 3 (0)), (4, .b false), (48, .p ((fun q : List GSet => AV.lst (q.flatMap GSet.cs) q.length) c0.Sets)), (49, .i (c0.Sets.length : Int)), (50, .i t50_0)] [(3, .pure (GQuery.cs c0.Query))] rfl rfl rfl ?_
        have hz := some_elim H
        subst hz
        exact RunW_nil rfl
      ·refine AW2_reg [0, 1] rfl ?_
       refine rp rfl rfl (p_bin rfl rfl rfl rfl) ?_
       refine rp rfl rfl (p_move rfl rfl) ?_
       refine rz [(3, .q 3 (0)), (4, .b g'9), (48, .p ((fun q : List GSet => AV.lst (q.flatMap GSet.cs) q.length) c0.Sets)), (49, .i (c0.Sets.length : Int)), (50, .i (w64 (t50_0 + (1 : Int))))] [(3, .pure (GQuery.cs c0.Query))] rfl rfl rfl ?_
       have hz := some_elim H
       subst hz
       exact ⟨rfl, rfl⟩
     ·replace H := ite_else h12 H
      refine as2 [(3, .q 3 (0)), (4, .b ok4_0)] [(3, .pure (GQuery.cs c0.Query))] rfl rfl rfl ?_
      refine AW2_exit ?_
      refine thenQ2_exit ?_
      have hz := some_elim H
      subst hz
      exact ⟨rfl, rfl⟩
    ·obtain ⟨rfl, rfl⟩ := hs
     refine ⟨by simp, ?_⟩
     refine blockQ2_exit ?_
     refine AW2_seq ?_
     refine sg [0, 1, 2, 3] rfl ?_
     refine rp rfl rfl (u_fa rfl rfl Tryd.underlying37 rfl in_34 (Nat.succ_ne_zero _) rfl rfl (ne_of_lt (n := 0) (Nat.lt_of_lt_of_eq (by decide) (Eq.symm (GQuery.len c0.Query))))) ?_
     refine rp rfl rfl (u_ld rfl rfl Tryd.underlying34 rfl rfl ((Sub.refl _).trans (GQuery.sub0 c0.Query))) ?_
     refine rp rfl rfl (p_lenl rfl Tryd.underlying34 rfl rfl) ?_
     refine rp rfl rfl (p_move rfl rfl) ?_
     refine rz [(4, .b y'13), (62, .p ((fun q : List GItem => AV.lst (q.flatMap GItem.cs) q.length) c0.Query.Items)), (63, .i (c0.Query.Items.length : Int)), (64, .i (0 : Int))] [] rfl rfl rfl ?_
     refine AW2_block ?_
     refine as2 [(4, .b y'13), (62, .p ((fun q : List GItem => AV.lst (q.flatMap GItem.cs) q.length) c0.Query.Items)), (63, .i (c0.Query.Items.length : Int)), (64, .i (0 : Int))] [] rfl rfl rfl ?_
     refine bindK H fun y'20 h27 H => ?_
     refine AW2_loopO (fun a'17 : Bool × Int => (⟨[(4, .b a'17.1), (62, .p ((fun q : List GItem => AV.lst (q.flatMap GItem.cs) q.length) c0.Query.Items)), (63, .i (c0.Query.Items.length : Int)), (64, .i a'17.2)], [], 76⟩ : TS)) (fun (y'18 : Bool) e s' => e = Go.Exit.exit 2 ∧ s' = (⟨[(4, .b y'18)], [], 76⟩ : TS)) h27 rfl (fun a x hx => ?_) (fun e s' hs => ?_)
     ·clear H
      obtain ⟨ok4_1, t64_1⟩ := a
      have H := hx
      clear hx
      unfold g_stmt_small_l1 at H
      refine sg [0] rfl ?_
      refine rp rfl rfl (p_bin rfl rfl rfl rfl) ?_
      refine rz [(4, .b ok4_1), (62, .p ((fun q : List GItem => AV.lst (q.flatMap GItem.cs) q.length) c0.Query.Items)), (63, .i (c0.Query.Items.length : Int)), (64, .i t64_1), (65, .b (decide (t64_1 < (c0.Query.Items.length : Int))))] [] rfl rfl rfl ?_
      refine AW2_seq ?_
      refine AW2_if (p := t64_1 < (c0.Query.Items.length : Int)) rfl (fun h20 => ?_) (fun h20 => ?_)
      ·replace H := ite_then h20 H
       refine as2 [(4, .b ok4_1), (62, .p ((fun q : List GItem => AV.lst (q.flatMap GItem.cs) q.length) c0.Query.Items)), (63, .i (c0.Query.Items.length : Int)), (64, .i t64_1)] [] rfl rfl rfl ?_
       refine AW2_skip ?_
       refine AW2_seq ?_
       refine AW2_block ?_
       refine sg [0, 1, 2, 3] rfl ?_
       refine chkK H fun h21 H => ?_
       refine rp rfl rfl (u_ixl rfl rfl Tryd.underlying34 in_61 rfl rfl (ixe h21) (ixn h21) (fne (fun x => (GItem.len x)) (by decide) (ixn h21))) ?_
       refine rp rfl rfl (u_lda rfl rfl Tryd.underlying61 rfl in_61 rfl (Nat.succ_pos _) (Sub.fm default (fun x => (GItem.len x)) (ixn h21)) (GItem.len (lrd c0.Query.Items t64_1.toNat))) ?_
       refine r_op rfl rfl (MakeD.opD (u_alloc 8 rfl in_61 one_61 zc_61) rfl rfl rfl rfl) ?_
       refine r_op rfl rfl (u_st rfl rfl rfl rfl rfl in_61 (GItem.len (lrd c0.Query.Items t64_1.toNat)) (ne_of_lt (n := 0) (Nat.lt_of_lt_of_eq (by decide) (Eq.symm (GItem.len GItem.zero)))) (Upd.refl ((GItem.len (lrd c0.Query.Items t64_1.toNat)).trans (GItem.len GItem.zero).symm))) ?_
       refine rz [(4, .b ok4_1), (8, .q 8 (0)), (62, .p ((fun q : List GItem => AV.lst (q.flatMap GItem.cs) q.length) c0.Query.Items)), (63, .i (c0.Query.Items.length : Int)), (64, .i t64_1)] [(8, .pure (GItem.cs (lrd c0.Query.Items t64_1.toNat)))] rfl rfl rfl ?_
       refine bindK H fun g'16 h25 H => ?_
       refine AW2_mid (⟨[(4, .b g'16), (62, .p ((fun q : List GItem => AV.lst (q.flatMap GItem.cs) q.length) c0.Query.Items)), (63, .i (c0.Query.Items.length : Int)), (64, .i t64_1)], [], 76⟩ : TS) ?_ ?_
       ·clear H
        have H := h25
        clear h25
        refine AW2_reg [0, 1, 2, 3, 4, 5, 6] rfl ?_
        refine rp rfl rfl (p_move rfl rfl) ?_
        refine rp rfl rfl (p_move rfl rfl) ?_
        refine (Classical.em (ok4_1 = true)).elim (fun h23 => ?_) (fun h23 => ?_)
        ·replace H := ite_then h23 H
         refine rn rfl rfl rfl rfl h23 rfl (u_fa rfl rfl Tryd.underlying61 rfl in_27 (Nat.succ_ne_zero _) rfl rfl (ne_of_lt (n := 0) (Nat.lt_of_lt_of_eq (by decide) (Eq.symm (GItem.len (lrd c0.Query.Items t64_1.toNat)))))) ?_
         refine rn rfl rfl rfl rfl h23 rfl (u_lda rfl rfl Tryd.underlying27 rfl in_27 rfl (Nat.succ_pos _) ((Sub.refl _).trans (GItem.sub1 (lrd c0.Query.Items t64_1.toNat))) (GExpr.len ((lrd c0.Query.Items t64_1.toNat).Expr))) ?_
         refine bindK H fun r'15 h24 H => ?_
         refine rn rfl rfl rfl rfl h23 rfl (p_callp rfl rfl rfl Tryd.func51 rfl rfl (g_stmt_slim_ac h24) ⟨rfl, trivial⟩) ?_
         refine rp rfl rfl (p_pkt rfl rfl h23 (.same _)) ?_
         refine rp rfl rfl (p_asg rfl rfl) ?_
         refine rs [(4, .b r'15), (62, .p ((fun q : List GItem => AV.lst (q.flatMap GItem.cs) q.length) c0.Query.Items)), (63, .i (c0.Query.Items.length : Int)), (64, .i t64_1)] [] rfl rfl rfl ?_
         have hz := some_elim H
         subst hz
         exact RunW_nil rfl
        ·replace H := ite_else h23 H
         iterate 3 (refine r_off rfl rfl rfl rfl (bfalse h23) rfl rfl ?_)
         refine rp rfl rfl (p_pkf rfl rfl (bfalse h23) (.same _)) ?_
         refine rp rfl rfl (p_asg rfl rfl) ?_
         refine rs [(4, .b false), (62, .p ((fun q : List GItem => AV.lst (q.flatMap GItem.cs) q.length) c0.Query.Items)), (63, .i (c0.Query.Items.length : Int)), (64, .i t64_1)] [] rfl rfl rfl ?_
         have hz := some_elim H
         subst hz
         exact RunW_nil rfl
       ·refine AW2_reg [0, 1] rfl ?_
        refine rp rfl rfl (p_bin rfl rfl rfl rfl) ?_
        refine rp rfl rfl (p_move rfl rfl) ?_
        refine rz [(4, .b g'16), (62, .p ((fun q : List GItem => AV.lst (q.flatMap GItem.cs) q.length) c0.Query.Items)), (63, .i (c0.Query.Items.length : Int)), (64, .i (w64 (t64_1 + (1 : Int))))] [] rfl rfl rfl ?_
        have hz := some_elim H
        subst hz
        exact ⟨rfl, rfl⟩
      ·replace H := ite_else h20 H
       refine as2 [(4, .b ok4_1)] [] rfl rfl rfl ?_
       refine AW2_exit ?_
       refine thenQ2_exit ?_
       have hz := some_elim H
       subst hz
       exact ⟨rfl, rfl⟩
     ·obtain ⟨rfl, rfl⟩ := hs
      refine ⟨by simp, ?_⟩
      refine blockQ2_exit ?_
      refine sg [0, 1] rfl ?_
      refine rp rfl rfl (p_move rfl rfl) ?_
      refine rp rfl rfl (p_asg rfl rfl) ?_
      refine rz [(2, .b y'20)] [] rfl rfl rfl ?_
      refine AW2_ret ?_
      have hz := some_elim H
      subst hz
      exact ⟨⟨res_tmp (.same _), trivial⟩, trivial⟩

/-! stmt.none -/
noncomputable def g_stmt_none (e0 : GExpr) : Option (Bool) :=
  some (decide ((((e0.Op = (0 : Int)) ∧ (e0.Name = [])) ∧ (e0.Value = GValue.zero)) ∧ ((e0.Args.length : Int) = (0 : Int))))
set_option maxHeartbeats 4000000 in
set_option maxRecDepth 100000 in
theorem g_stmt_none_ac {e0 : GExpr} {r : Bool} (H : g_stmt_none e0 = some r) : ACp Tryd.prog 53 [(.agg (GExpr.cs e0))] (AV.bool r) := by
 refine ACp_of (AC2_of_body (vs := [.b r]) Tryd.func53 rfl rfl (Nat.le_of_ble_eq_true rfl) rfl ?_) (fun _ => .same _)
 unfold g_stmt_none at H
 refine as2 [(0, .g (GExpr.cs e0))] [] rfl rfl rfl ?_
 refine sg [0, 1] rfl ?_
 refine r_op rfl rfl (MakeD.opD (n_box 1 rfl rfl) rfl rfl rfl rfl) ?_
 refine rp rfl rfl (p_asg rfl rfl) ?_
 refine rz [(1, .q 1 (0))] [(1, .pure (GExpr.cs e0))] rfl rfl rfl ?_
 refine AW2_seq ?_
 refine AW2_mid (⟨[(2, .b (decide ((((e0.Op = (0 : Int)) ∧ (e0.Name = [])) ∧ (e0.Value = GValue.zero)) ∧ ((e0.Args.length : Int) = (0 : Int)))))], [], 23⟩ : TS) ?_ ?_
 ·refine AW2_reg [0, 1, 2, 3, 4, 5, 6, 7, 8, 9, 10, 11, 12, 13, 14, 15, 16, 17, 18, 19, 20] rfl ?_
  refine rp rfl rfl (u_fa rfl rfl Tryd.underlying27 rfl in_3 (Nat.succ_ne_zero _) rfl rfl (ne_of_lt (n := 0) (Nat.lt_of_lt_of_eq (by decide) (Eq.symm (GExpr.len e0))))) ?_
  refine rp rfl rfl (u_ld rfl rfl Tryd.underlying3 rfl rfl ((Sub.refl _).trans (GExpr.sub0 e0))) ?_
  refine rp rfl rfl (p_ieq rfl rfl rfl) ?_
  refine rp rfl rfl (p_move rfl rfl) ?_
  refine (Classical.em (e0.Op = (0 : Int))).elim (fun h1 => ?_) (fun h1 => ?_)
  ·refine r_on rfl rfl rfl rfl (decide_eq_true h1) rfl (PureD.opD (u_fa rfl rfl Tryd.underlying27 rfl in_9 (Nat.succ_ne_zero _) rfl rfl (ne_of_lt (n := 0) (Nat.lt_of_lt_of_eq (by decide) (Eq.symm (GExpr.len e0)))))) ?_
   refine r_on rfl rfl rfl rfl (decide_eq_true h1) rfl (PureD.opD (u_ld rfl rfl Tryd.underlying9 rfl rfl ((Sub.refl _).trans (GExpr.sub2 e0)))) ?_
   refine r_on rfl rfl rfl rfl (decide_eq_true h1) rfl (PureD.opD (p_seq rfl rfl rfl)) ?_
   refine rp rfl rfl (p_pkt rfl rfl (decide_eq_true h1) (tb ((and_l (p := e0.Op = (0 : Int)) (q := e0.Name = []) h1)))) ?_
   refine rp rfl rfl (p_move rfl rfl) ?_
   refine (Classical.em (e0.Name = [])).elim (fun h2 => ?_) (fun h2 => ?_)
   ·refine r_on rfl rfl rfl rfl (decide_eq_true (p := (e0.Op = (0 : Int)) ∧ (e0.Name = [])) ⟨h1, h2⟩) rfl (PureD.opD (u_fa rfl rfl Tryd.underlying27 rfl in_24 (Nat.succ_ne_zero _) rfl rfl (ne_of_lt (n := 0) (Nat.lt_of_lt_of_eq (by decide) (Eq.symm (GExpr.len e0)))))) ?_
    refine r_on rfl rfl rfl rfl (decide_eq_true (p := (e0.Op = (0 : Int)) ∧ (e0.Name = [])) ⟨h1, h2⟩) rfl (PureD.opD (u_lda rfl rfl Tryd.underlying24 rfl in_24 rfl (Nat.succ_pos _) ((Sub.refl _).trans (GExpr.sub1 e0)) (GValue.len e0.Value))) ?_
    refine r_on rfl rfl rfl rfl (decide_eq_true (p := (e0.Op = (0 : Int)) ∧ (e0.Name = [])) ⟨h1, h2⟩) rfl (PureD.opD (u_bld rfl in_24 one_24 zc_24 pl_24 rfl rfl)) ?_
    refine r_on rfl rfl rfl rfl (decide_eq_true (p := (e0.Op = (0 : Int)) ∧ (e0.Name = [])) ⟨h1, h2⟩) rfl (PureD.opD (p_eqa (a := e0.Value) (b := GValue.zero) rfl eq_24 rfl (by kernel_rfl) rfl rfl)) ?_
    refine rp rfl rfl (p_pkt rfl rfl (decide_eq_true (p := (e0.Op = (0 : Int)) ∧ (e0.Name = [])) ⟨h1, h2⟩) (tb ((and_l (p := (e0.Op = (0 : Int)) ∧ (e0.Name = [])) (q := e0.Value = GValue.zero) ⟨h1, h2⟩)))) ?_
    refine rp rfl rfl (p_move rfl rfl) ?_
    refine (Classical.em (e0.Value = GValue.zero)).elim (fun h3 => ?_) (fun h3 => ?_)
    ·refine r_on rfl rfl rfl rfl (decide_eq_true (p := ((e0.Op = (0 : Int)) ∧ (e0.Name = [])) ∧ (e0.Value = GValue.zero)) ⟨⟨h1, h2⟩, h3⟩) rfl (PureD.opD (u_fa rfl rfl Tryd.underlying27 rfl in_25 (Nat.succ_ne_zero _) rfl rfl (ne_of_lt (n := 0) (Nat.lt_of_lt_of_eq (by decide) (Eq.symm (GExpr.len e0)))))) ?_
     refine r_on rfl rfl rfl rfl (decide_eq_true (p := ((e0.Op = (0 : Int)) ∧ (e0.Name = [])) ∧ (e0.Value = GValue.zero)) ⟨⟨h1, h2⟩, h3⟩) rfl (PureD.opD (u_ld rfl rfl Tryd.underlying25 rfl rfl ((Sub.refl _).trans (GExpr.sub3 e0)))) ?_
     refine r_on rfl rfl rfl rfl (decide_eq_true (p := ((e0.Op = (0 : Int)) ∧ (e0.Name = [])) ∧ (e0.Value = GValue.zero)) ⟨⟨h1, h2⟩, h3⟩) rfl (PureD.opD (p_lenl rfl Tryd.underlying25 rfl rfl)) ?_
     refine r_on rfl rfl rfl rfl (decide_eq_true (p := ((e0.Op = (0 : Int)) ∧ (e0.Name = [])) ∧ (e0.Value = GValue.zero)) ⟨⟨h1, h2⟩, h3⟩) rfl (PureD.opD (p_ieq rfl rfl rfl)) ?_
     refine rp rfl rfl (p_pkt rfl rfl (decide_eq_true (p := ((e0.Op = (0 : Int)) ∧ (e0.Name = [])) ∧ (e0.Value = GValue.zero)) ⟨⟨h1, h2⟩, h3⟩) (tb ((and_l (p := ((e0.Op = (0 : Int)) ∧ (e0.Name = [])) ∧ (e0.Value = GValue.zero)) (q := (e0.Args.length : Int) = (0 : Int)) ⟨⟨h1, h2⟩, h3⟩)))) ?_
     refine rp rfl rfl (p_asg rfl rfl) ?_
     refine rs [(2, .b (decide ((((e0.Op = (0 : Int)) ∧ (e0.Name = [])) ∧ (e0.Value = GValue.zero)) ∧ ((e0.Args.length : Int) = (0 : Int)))))] [] rfl rfl rfl ?_
     exact RunW_nil rfl
    ·refine r_off rfl rfl rfl rfl (decide_eq_false (p := ((e0.Op = (0 : Int)) ∧ (e0.Name = [])) ∧ (e0.Value = GValue.zero)) (fun h => h3 h.2)) rfl rfl ?_
     refine r_off rfl rfl rfl rfl (decide_eq_false (p := ((e0.Op = (0 : Int)) ∧ (e0.Name = [])) ∧ (e0.Value = GValue.zero)) (fun h => h3 h.2)) rfl rfl ?_
     refine r_off rfl rfl rfl rfl (decide_eq_false (p := ((e0.Op = (0 : Int)) ∧ (e0.Name = [])) ∧ (e0.Value = GValue.zero)) (fun h => h3 h.2)) rfl rfl ?_
     refine r_off rfl rfl rfl rfl (decide_eq_false (p := ((e0.Op = (0 : Int)) ∧ (e0.Name = [])) ∧ (e0.Value = GValue.zero)) (fun h => h3 h.2)) rfl rfl ?_
     refine rp rfl rfl (p_pkf rfl rfl (decide_eq_false (p := ((e0.Op = (0 : Int)) ∧ (e0.Name = [])) ∧ (e0.Value = GValue.zero)) (fun h => h3 h.2)) (tb (decide_eq_false (p := (((e0.Op = (0 : Int)) ∧ (e0.Name = [])) ∧ (e0.Value = GValue.zero)) ∧ ((e0.Args.length : Int) = (0 : Int))) (fun x => (fun h => h3 h.2) x.1)).symm)) ?_
     refine rp rfl rfl (p_asg rfl rfl) ?_
     refine rs [(2, .b (decide ((((e0.Op = (0 : Int)) ∧ (e0.Name = [])) ∧ (e0.Value = GValue.zero)) ∧ ((e0.Args.length : Int) = (0 : Int)))))] [] rfl rfl rfl ?_
     exact RunW_nil rfl
   ·refine r_off rfl rfl rfl rfl (decide_eq_false (p := (e0.Op = (0 : Int)) ∧ (e0.Name = [])) (fun h => h2 h.2)) rfl rfl ?_
    refine r_off rfl rfl rfl rfl (decide_eq_false (p := (e0.Op = (0 : Int)) ∧ (e0.Name = [])) (fun h => h2 h.2)) rfl rfl ?_
    refine r_off rfl rfl rfl rfl (decide_eq_false (p := (e0.Op = (0 : Int)) ∧ (e0.Name = [])) (fun h => h2 h.2)) rfl rfl ?_
    refine r_off rfl rfl rfl rfl (decide_eq_false (p := (e0.Op = (0 : Int)) ∧ (e0.Name = [])) (fun h => h2 h.2)) rfl rfl ?_
    refine rp rfl rfl (p_pkf rfl rfl (decide_eq_false (p := (e0.Op = (0 : Int)) ∧ (e0.Name = [])) (fun h => h2 h.2)) (tb (decide_eq_false (p := ((e0.Op = (0 : Int)) ∧ (e0.Name = [])) ∧ (e0.Value = GValue.zero)) (fun x => (fun h => h2 h.2) x.1)).symm)) ?_
    refine rp rfl rfl (p_move rfl rfl) ?_
    refine r_off rfl rfl rfl rfl (decide_eq_false (p := ((e0.Op = (0 : Int)) ∧ (e0.Name = [])) ∧ (e0.Value = GValue.zero)) (fun h => (fun h => h2 h.2) h.1)) rfl rfl ?_
    refine r_off rfl rfl rfl rfl (decide_eq_false (p := ((e0.Op = (0 : Int)) ∧ (e0.Name = [])) ∧ (e0.Value = GValue.zero)) (fun h => (fun h => h2 h.2) h.1)) rfl rfl ?_
    refine r_off rfl rfl rfl rfl (decide_eq_false (p := ((e0.Op = (0 : Int)) ∧ (e0.Name = [])) ∧ (e0.Value = GValue.zero)) (fun h => (fun h => h2 h.2) h.1)) rfl rfl ?_
    refine r_off rfl rfl rfl rfl (decide_eq_false (p := ((e0.Op = (0 : Int)) ∧ (e0.Name = [])) ∧ (e0.Value = GValue.zero)) (fun h => (fun h => h2 h.2) h.1)) rfl rfl ?_
    refine rp rfl rfl (p_pkf rfl rfl (decide_eq_false (p := ((e0.Op = (0 : Int)) ∧ (e0.Name = [])) ∧ (e0.Value = GValue.zero)) (fun h => (fun h => h2 h.2) h.1)) (tb (decide_eq_false (p := (((e0.Op = (0 : Int)) ∧ (e0.Name = [])) ∧ (e0.Value = GValue.zero)) ∧ ((e0.Args.length : Int) = (0 : Int))) (fun x => (fun h => (fun h => h2 h.2) h.1) x.1)).symm)) ?_
    refine rp rfl rfl (p_asg rfl rfl) ?_
    refine rs [(2, .b (decide ((((e0.Op = (0 : Int)) ∧ (e0.Name = [])) ∧ (e0.Value = GValue.zero)) ∧ ((e0.Args.length : Int) = (0 : Int)))))] [] rfl rfl rfl ?_
    exact RunW_nil rfl
  ·refine r_off rfl rfl rfl rfl (decide_eq_false h1) rfl rfl ?_
   refine r_off rfl rfl rfl rfl (decide_eq_false h1) rfl rfl ?_
   refine r_off rfl rfl rfl rfl (decide_eq_false h1) rfl rfl ?_
   refine rp rfl rfl (p_pkf rfl rfl (decide_eq_false h1) (tb (decide_eq_false (p := (e0.Op = (0 : Int)) ∧ (e0.Name = [])) (fun x => h1 x.1)).symm)) ?_
   refine rp rfl rfl (p_move rfl rfl) ?_
   refine r_off rfl rfl rfl rfl (decide_eq_false (p := (e0.Op = (0 : Int)) ∧ (e0.Name = [])) (fun h => h1 h.1)) rfl rfl ?_
   refine r_off rfl rfl rfl rfl (decide_eq_false (p := (e0.Op = (0 : Int)) ∧ (e0.Name = [])) (fun h => h1 h.1)) rfl rfl ?_
   refine r_off rfl rfl rfl rfl (decide_eq_false (p := (e0.Op = (0 : Int)) ∧ (e0.Name = [])) (fun h => h1 h.1)) rfl rfl ?_
   refine r_off rfl rfl rfl rfl (decide_eq_false (p := (e0.Op = (0 : Int)) ∧ (e0.Name = [])) (fun h => h1 h.1)) rfl rfl ?_
   refine rp rfl rfl (p_pkf rfl rfl (decide_eq_false (p := (e0.Op = (0 : Int)) ∧ (e0.Name = [])) (fun h => h1 h.1)) (tb (decide_eq_false (p := ((e0.Op = (0 : Int)) ∧ (e0.Name = [])) ∧ (e0.Value = GValue.zero)) (fun x => (fun h => h1 h.1) x.1)).symm)) ?_
   refine rp rfl rfl (p_move rfl rfl) ?_
   refine r_off rfl rfl rfl rfl (decide_eq_false (p := ((e0.Op = (0 : Int)) ∧ (e0.Name = [])) ∧ (e0.Value = GValue.zero)) (fun h => (fun h => h1 h.1) h.1)) rfl rfl ?_
   refine r_off rfl rfl rfl rfl (decide_eq_false (p := ((e0.Op = (0 : Int)) ∧ (e0.Name = [])) ∧ (e0.Value = GValue.zero)) (fun h => (fun h => h1 h.1) h.1)) rfl rfl ?_
   refine r_off rfl rfl rfl rfl (decide_eq_false (p := ((e0.Op = (0 : Int)) ∧ (e0.Name = [])) ∧ (e0.Value = GValue.zero)) (fun h => (fun h => h1 h.1) h.1)) rfl rfl ?_
   refine r_off rfl rfl rfl rfl (decide_eq_false (p := ((e0.Op = (0 : Int)) ∧ (e0.Name = [])) ∧ (e0.Value = GValue.zero)) (fun h => (fun h => h1 h.1) h.1)) rfl rfl ?_
   refine rp rfl rfl (p_pkf rfl rfl (decide_eq_false (p := ((e0.Op = (0 : Int)) ∧ (e0.Name = [])) ∧ (e0.Value = GValue.zero)) (fun h => (fun h => h1 h.1) h.1)) (tb (decide_eq_false (p := (((e0.Op = (0 : Int)) ∧ (e0.Name = [])) ∧ (e0.Value = GValue.zero)) ∧ ((e0.Args.length : Int) = (0 : Int))) (fun x => (fun h => (fun h => h1 h.1) h.1) x.1)).symm)) ?_
   refine rp rfl rfl (p_asg rfl rfl) ?_
   refine rs [(2, .b (decide ((((e0.Op = (0 : Int)) ∧ (e0.Name = [])) ∧ (e0.Value = GValue.zero)) ∧ ((e0.Args.length : Int) = (0 : Int)))))] [] rfl rfl rfl ?_
   exact RunW_nil rfl
 ·refine AW2_ret ?_
  have hz := some_elim H
  subst hz
  exact ⟨⟨res_tmp (.same _), trivial⟩, trivial⟩
end Go.Proofs.YtcahembojhmpbaaDoor.VM
