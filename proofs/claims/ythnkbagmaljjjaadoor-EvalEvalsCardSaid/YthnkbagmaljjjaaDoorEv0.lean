/- Words and rules that the proof uses. -/
import Derived.Test.YthnkbagmaljjjaaDoorVtTabs
import Derived.Test.YthnkbagmaljjjaaDoorVtFloat
import Derived.Test.YthnkbagmaljjjaaDoorVtIface
import Derived.Test.YthnkbagmaljjjaaDoorVtExt
import Derived.Test.YthnkbagmaljjjaaDoorVtShelf
namespace Go.Proofs.YthnkbagmaljjjaaDoor.VM
open Go Go.RowKit
abbrev U2 := @Tryd.underlying2
abbrev U3 := @Tryd.underlying3
abbrev U4 := @Tryd.underlying4
abbrev U9 := @Tryd.underlying9
abbrev U22 := @Tryd.underlying22
abbrev U24 := @Tryd.underlying24
abbrev U25 := @Tryd.underlying25
abbrev U27 := @Tryd.underlying27
abbrev U28 := @Tryd.underlying28
abbrev U29 := @Tryd.underlying29
abbrev U53 := @Tryd.underlying53
abbrev U55 := @Tryd.underlying55
abbrev U57 := @Tryd.underlying57
abbrev U59 := @Tryd.underlying59
abbrev U61 := @Tryd.underlying61
abbrev U63 := @Tryd.underlying63
abbrev U86 := @Tryd.underlying86
structure GValue where
  Kind : Int
  Int_ : Int
  Bits : UInt64
  Text : List UInt8
deriving DecidableEq, Inhabited
def GValue.zero : GValue := ⟨(0 : Int), (0 : Int), (0 : UInt64), []⟩
def GValue.cs (x : GValue) : List AV := ([(AV.int x.Kind)]) ++ (([(AV.int x.Int_)]) ++ (([(AV.u64 x.Bits)]) ++ ([(AV.txt x.Text)])))
abbrev GValue.ls (q : List GValue) : AV := AV.lst (q.flatMap GValue.cs) q.length
theorem GValue.len (x : GValue) : (GValue.cs x).length = 4 := by
  simp only [GValue.cs, List.length_append]
  rw [show ([(AV.int x.Kind)]).length = 1 from (show ([(AV.int x.Kind)]).length = 1 from rfl), show ([(AV.int x.Int_)]).length = 1 from (show ([(AV.int x.Int_)]).length = 1 from rfl), show ([(AV.u64 x.Bits)]).length = 1 from (show ([(AV.u64 x.Bits)]).length = 1 from rfl), show ([(AV.txt x.Text)]).length = 1 from (show ([(AV.txt x.Text)]).length = 1 from rfl)]
theorem GValue.sub0 (x : GValue) : Sub (GValue.cs x) 0 ([(AV.int x.Kind)]) := Sub.head _ _
abbrev GValue.w0 (x : GValue) (y : Int) : GValue := { x with Kind := y }
theorem GValue.upd0 (x : GValue) (y : Int) : Upd (GValue.cs x) 0 ([(AV.int y)]) (GValue.cs { x with Kind := y }) := Upd.head (show ([(AV.int y)]).length = ([(AV.int x.Kind)]).length from rfl)
theorem GValue.sub1 (x : GValue) : Sub (GValue.cs x) 1 ([(AV.int x.Int_)]) := Sub.skip (k := 1) (show ([(AV.int x.Kind)]).length = 1 from rfl) (Sub.head _ _)
abbrev GValue.w1 (x : GValue) (y : Int) : GValue := { x with Int_ := y }
theorem GValue.upd1 (x : GValue) (y : Int) : Upd (GValue.cs x) 1 ([(AV.int y)]) (GValue.cs { x with Int_ := y }) := Upd.skip (k := 1) (show ([(AV.int x.Kind)]).length = 1 from rfl) (Upd.head (show ([(AV.int y)]).length = ([(AV.int x.Int_)]).length from rfl))
theorem GValue.sub2 (x : GValue) : Sub (GValue.cs x) 2 ([(AV.u64 x.Bits)]) := Sub.skip (k := 1) (show ([(AV.int x.Kind)]).length = 1 from rfl) (Sub.skip (k := 1) (show ([(AV.int x.Int_)]).length = 1 from rfl) (Sub.head _ _))
abbrev GValue.w2 (x : GValue) (y : UInt64) : GValue := { x with Bits := y }
theorem GValue.upd2 (x : GValue) (y : UInt64) : Upd (GValue.cs x) 2 ([(AV.u64 y)]) (GValue.cs { x with Bits := y }) := Upd.skip (k := 1) (show ([(AV.int x.Kind)]).length = 1 from rfl) (Upd.skip (k := 1) (show ([(AV.int x.Int_)]).length = 1 from rfl) (Upd.head (show ([(AV.u64 y)]).length = ([(AV.u64 x.Bits)]).length from rfl)))
theorem GValue.sub3 (x : GValue) : Sub (GValue.cs x) 3 ([(AV.txt x.Text)]) := Sub.skip (k := 1) (show ([(AV.int x.Kind)]).length = 1 from rfl) (Sub.skip (k := 1) (show ([(AV.int x.Int_)]).length = 1 from rfl) (Sub.skip (k := 1) (show ([(AV.u64 x.Bits)]).length = 1 from rfl) (Sub.refl _)))
abbrev GValue.w3 (x : GValue) (y : List UInt8) : GValue := { x with Text := y }
theorem GValue.upd3 (x : GValue) (y : List UInt8) : Upd (GValue.cs x) 3 ([(AV.txt y)]) (GValue.cs { x with Text := y }) := Upd.skip (k := 1) (show ([(AV.int x.Kind)]).length = 1 from rfl) (Upd.skip (k := 1) (show ([(AV.int x.Int_)]).length = 1 from rfl) (Upd.skip (k := 1) (show ([(AV.u64 x.Bits)]).length = 1 from rfl) (Upd.refl (show ([(AV.txt y)]).length = ([(AV.txt x.Text)]).length from rfl))))
theorem GValue.nl (x : GValue) : (GValue.cs x).all noLst1 = true := nlA rfl (nlA rfl (nlA rfl (rfl)))
structure GExpr where
  Op : Int
  Value : GValue
  Name : List UInt8
  Args : List GExpr
def GExpr.zero : GExpr := ⟨(0 : Int), GValue.zero, [], []⟩
instance : Inhabited GExpr := ⟨GExpr.zero⟩
mutual
def GExpr.cs : GExpr → List AV
  | ⟨x0, x1, x2, x3⟩ => ([(AV.int x0)]) ++ ((GValue.cs x1) ++ (([(AV.txt x2)]) ++ ([AV.lst (GExpr.csL x3) x3.length])))
def GExpr.csL : List GExpr → List AV
  | [] => []
  | x :: l => GExpr.cs x ++ GExpr.csL l
end
theorem GExpr.csL_eq : ∀ l : List GExpr, GExpr.csL l = l.flatMap GExpr.cs
  | [] => by rw [GExpr.csL, List.flatMap_nil]
  | x :: l => by rw [GExpr.csL, GExpr.csL_eq l, List.flatMap_cons]
theorem GExpr.cs_eq (x : GExpr) : GExpr.cs x = ([(AV.int x.Op)]) ++ ((GValue.cs x.Value) ++ (([(AV.txt x.Name)]) ++ ([((fun q : List GExpr => AV.lst (q.flatMap GExpr.cs) q.length) x.Args)]))) := by
  cases x
  rw [GExpr.cs, GExpr.csL_eq]
abbrev GExpr.ls (q : List GExpr) : AV := AV.lst (q.flatMap GExpr.cs) q.length
theorem GExpr.len (x : GExpr) : (GExpr.cs x).length = 7 := by
  simp only [GExpr.cs_eq, List.length_append]
  rw [show ([(AV.int x.Op)]).length = 1 from (show ([(AV.int x.Op)]).length = 1 from rfl), show (GValue.cs x.Value).length = 4 from (GValue.len x.Value), show ([(AV.txt x.Name)]).length = 1 from (show ([(AV.txt x.Name)]).length = 1 from rfl), show ([((fun q : List GExpr => AV.lst (q.flatMap GExpr.cs) q.length) x.Args)]).length = 1 from (show ([((fun q : List GExpr => AV.lst (q.flatMap GExpr.cs) q.length) x.Args)]).length = 1 from rfl)]
theorem GExpr.sub0 (x : GExpr) : Sub (GExpr.cs x) 0 ([(AV.int x.Op)]) := by
  rw [GExpr.cs_eq]
  exact (Sub.head _ _)
abbrev GExpr.w0 (x : GExpr) (y : Int) : GExpr := { x with Op := y }
theorem GExpr.upd0 (x : GExpr) (y : Int) : Upd (GExpr.cs x) 0 ([(AV.int y)]) (GExpr.cs { x with Op := y }) := by
  rw [GExpr.cs_eq x, GExpr.cs_eq { x with Op := y }]
  exact (Upd.head (show ([(AV.int y)]).length = ([(AV.int x.Op)]).length from rfl))
theorem GExpr.sub1 (x : GExpr) : Sub (GExpr.cs x) 1 (GValue.cs x.Value) := by
  rw [GExpr.cs_eq]
  exact (Sub.skip (k := 1) (show ([(AV.int x.Op)]).length = 1 from rfl) (Sub.head _ _))
abbrev GExpr.w1 (x : GExpr) (y : GValue) : GExpr := { x with Value := y }
theorem GExpr.upd1 (x : GExpr) (y : GValue) : Upd (GExpr.cs x) 1 (GValue.cs y) (GExpr.cs { x with Value := y }) := by
  rw [GExpr.cs_eq x, GExpr.cs_eq { x with Value := y }]
  exact (Upd.skip (k := 1) (show ([(AV.int x.Op)]).length = 1 from rfl) (Upd.head ((GValue.len y).trans (GValue.len x.Value).symm)))
theorem GExpr.sub2 (x : GExpr) : Sub (GExpr.cs x) 5 ([(AV.txt x.Name)]) := by
  rw [GExpr.cs_eq]
  exact (Sub.skip (k := 1) (show ([(AV.int x.Op)]).length = 1 from rfl) (Sub.skip (k := 4) (GValue.len x.Value) (Sub.head _ _)))
abbrev GExpr.w2 (x : GExpr) (y : List UInt8) : GExpr := { x with Name := y }
theorem GExpr.upd2 (x : GExpr) (y : List UInt8) : Upd (GExpr.cs x) 5 ([(AV.txt y)]) (GExpr.cs { x with Name := y }) := by
  rw [GExpr.cs_eq x, GExpr.cs_eq { x with Name := y }]
  exact (Upd.skip (k := 1) (show ([(AV.int x.Op)]).length = 1 from rfl) (Upd.skip (k := 4) (GValue.len x.Value) (Upd.head (show ([(AV.txt y)]).length = ([(AV.txt x.Name)]).length from rfl))))
theorem GExpr.sub3 (x : GExpr) : Sub (GExpr.cs x) 6 ([((fun q : List GExpr => AV.lst (q.flatMap GExpr.cs) q.length) x.Args)]) := by
  rw [GExpr.cs_eq]
  exact (Sub.skip (k := 1) (show ([(AV.int x.Op)]).length = 1 from rfl) (Sub.skip (k := 4) (GValue.len x.Value) (Sub.skip (k := 1) (show ([(AV.txt x.Name)]).length = 1 from rfl) (Sub.refl _))))
abbrev GExpr.w3 (x : GExpr) (y : List GExpr) : GExpr := { x with Args := y }
theorem GExpr.upd3 (x : GExpr) (y : List GExpr) : Upd (GExpr.cs x) 6 ([((fun q : List GExpr => AV.lst (q.flatMap GExpr.cs) q.length) y)]) (GExpr.cs { x with Args := y }) := by
  rw [GExpr.cs_eq x, GExpr.cs_eq { x with Args := y }]
  exact (Upd.skip (k := 1) (show ([(AV.int x.Op)]).length = 1 from rfl) (Upd.skip (k := 4) (GValue.len x.Value) (Upd.skip (k := 1) (show ([(AV.txt x.Name)]).length = 1 from rfl) (Upd.refl (show ([((fun q : List GExpr => AV.lst (q.flatMap GExpr.cs) q.length) y)]).length = ([((fun q : List GExpr => AV.lst (q.flatMap GExpr.cs) q.length) x.Args)]).length from rfl)))))
structure GToken where
  Kind : Int
  Text : List UInt8
  Int_ : Int
  Bits : UInt64
deriving DecidableEq, Inhabited
def GToken.zero : GToken := ⟨(0 : Int), [], (0 : Int), (0 : UInt64)⟩
def GToken.cs (x : GToken) : List AV := ([(AV.int x.Kind)]) ++ (([(AV.txt x.Text)]) ++ (([(AV.int x.Int_)]) ++ ([(AV.u64 x.Bits)])))
abbrev GToken.ls (q : List GToken) : AV := AV.lst (q.flatMap GToken.cs) q.length
theorem GToken.len (x : GToken) : (GToken.cs x).length = 4 := by
  simp only [GToken.cs, List.length_append]
  rw [show ([(AV.int x.Kind)]).length = 1 from (show ([(AV.int x.Kind)]).length = 1 from rfl), show ([(AV.txt x.Text)]).length = 1 from (show ([(AV.txt x.Text)]).length = 1 from rfl), show ([(AV.int x.Int_)]).length = 1 from (show ([(AV.int x.Int_)]).length = 1 from rfl), show ([(AV.u64 x.Bits)]).length = 1 from (show ([(AV.u64 x.Bits)]).length = 1 from rfl)]
theorem GToken.sub0 (x : GToken) : Sub (GToken.cs x) 0 ([(AV.int x.Kind)]) := Sub.head _ _
abbrev GToken.w0 (x : GToken) (y : Int) : GToken := { x with Kind := y }
theorem GToken.upd0 (x : GToken) (y : Int) : Upd (GToken.cs x) 0 ([(AV.int y)]) (GToken.cs { x with Kind := y }) := Upd.head (show ([(AV.int y)]).length = ([(AV.int x.Kind)]).length from rfl)
theorem GToken.sub1 (x : GToken) : Sub (GToken.cs x) 1 ([(AV.txt x.Text)]) := Sub.skip (k := 1) (show ([(AV.int x.Kind)]).length = 1 from rfl) (Sub.head _ _)
abbrev GToken.w1 (x : GToken) (y : List UInt8) : GToken := { x with Text := y }
theorem GToken.upd1 (x : GToken) (y : List UInt8) : Upd (GToken.cs x) 1 ([(AV.txt y)]) (GToken.cs { x with Text := y }) := Upd.skip (k := 1) (show ([(AV.int x.Kind)]).length = 1 from rfl) (Upd.head (show ([(AV.txt y)]).length = ([(AV.txt x.Text)]).length from rfl))
theorem GToken.sub2 (x : GToken) : Sub (GToken.cs x) 2 ([(AV.int x.Int_)]) := Sub.skip (k := 1) (show ([(AV.int x.Kind)]).length = 1 from rfl) (Sub.skip (k := 1) (show ([(AV.txt x.Text)]).length = 1 from rfl) (Sub.head _ _))
abbrev GToken.w2 (x : GToken) (y : Int) : GToken := { x with Int_ := y }
theorem GToken.upd2 (x : GToken) (y : Int) : Upd (GToken.cs x) 2 ([(AV.int y)]) (GToken.cs { x with Int_ := y }) := Upd.skip (k := 1) (show ([(AV.int x.Kind)]).length = 1 from rfl) (Upd.skip (k := 1) (show ([(AV.txt x.Text)]).length = 1 from rfl) (Upd.head (show ([(AV.int y)]).length = ([(AV.int x.Int_)]).length from rfl)))
theorem GToken.sub3 (x : GToken) : Sub (GToken.cs x) 3 ([(AV.u64 x.Bits)]) := Sub.skip (k := 1) (show ([(AV.int x.Kind)]).length = 1 from rfl) (Sub.skip (k := 1) (show ([(AV.txt x.Text)]).length = 1 from rfl) (Sub.skip (k := 1) (show ([(AV.int x.Int_)]).length = 1 from rfl) (Sub.refl _)))
abbrev GToken.w3 (x : GToken) (y : UInt64) : GToken := { x with Bits := y }
theorem GToken.upd3 (x : GToken) (y : UInt64) : Upd (GToken.cs x) 3 ([(AV.u64 y)]) (GToken.cs { x with Bits := y }) := Upd.skip (k := 1) (show ([(AV.int x.Kind)]).length = 1 from rfl) (Upd.skip (k := 1) (show ([(AV.txt x.Text)]).length = 1 from rfl) (Upd.skip (k := 1) (show ([(AV.int x.Int_)]).length = 1 from rfl) (Upd.refl (show ([(AV.u64 y)]).length = ([(AV.u64 x.Bits)]).length from rfl))))
theorem GToken.nl (x : GToken) : (GToken.cs x).all noLst1 = true := nlA rfl (nlA rfl (nlA rfl (rfl)))
structure GColumn where
  Name : List UInt8
  Kind : Int
  Null : Bool
deriving DecidableEq, Inhabited
def GColumn.zero : GColumn := ⟨[], (0 : Int), false⟩
def GColumn.cs (x : GColumn) : List AV := ([(AV.txt x.Name)]) ++ (([(AV.int x.Kind)]) ++ ([(AV.bool x.Null)]))
abbrev GColumn.ls (q : List GColumn) : AV := AV.lst (q.flatMap GColumn.cs) q.length
theorem GColumn.len (x : GColumn) : (GColumn.cs x).length = 3 := by
  simp only [GColumn.cs, List.length_append]
  rw [show ([(AV.txt x.Name)]).length = 1 from (show ([(AV.txt x.Name)]).length = 1 from rfl), show ([(AV.int x.Kind)]).length = 1 from (show ([(AV.int x.Kind)]).length = 1 from rfl), show ([(AV.bool x.Null)]).length = 1 from (show ([(AV.bool x.Null)]).length = 1 from rfl)]
theorem GColumn.sub0 (x : GColumn) : Sub (GColumn.cs x) 0 ([(AV.txt x.Name)]) := Sub.head _ _
abbrev GColumn.w0 (x : GColumn) (y : List UInt8) : GColumn := { x with Name := y }
theorem GColumn.upd0 (x : GColumn) (y : List UInt8) : Upd (GColumn.cs x) 0 ([(AV.txt y)]) (GColumn.cs { x with Name := y }) := Upd.head (show ([(AV.txt y)]).length = ([(AV.txt x.Name)]).length from rfl)
theorem GColumn.sub1 (x : GColumn) : Sub (GColumn.cs x) 1 ([(AV.int x.Kind)]) := Sub.skip (k := 1) (show ([(AV.txt x.Name)]).length = 1 from rfl) (Sub.head _ _)
abbrev GColumn.w1 (x : GColumn) (y : Int) : GColumn := { x with Kind := y }
theorem GColumn.upd1 (x : GColumn) (y : Int) : Upd (GColumn.cs x) 1 ([(AV.int y)]) (GColumn.cs { x with Kind := y }) := Upd.skip (k := 1) (show ([(AV.txt x.Name)]).length = 1 from rfl) (Upd.head (show ([(AV.int y)]).length = ([(AV.int x.Kind)]).length from rfl))
theorem GColumn.sub2 (x : GColumn) : Sub (GColumn.cs x) 2 ([(AV.bool x.Null)]) := Sub.skip (k := 1) (show ([(AV.txt x.Name)]).length = 1 from rfl) (Sub.skip (k := 1) (show ([(AV.int x.Kind)]).length = 1 from rfl) (Sub.refl _))
abbrev GColumn.w2 (x : GColumn) (y : Bool) : GColumn := { x with Null := y }
theorem GColumn.upd2 (x : GColumn) (y : Bool) : Upd (GColumn.cs x) 2 ([(AV.bool y)]) (GColumn.cs { x with Null := y }) := Upd.skip (k := 1) (show ([(AV.txt x.Name)]).length = 1 from rfl) (Upd.skip (k := 1) (show ([(AV.int x.Kind)]).length = 1 from rfl) (Upd.refl (show ([(AV.bool y)]).length = ([(AV.bool x.Null)]).length from rfl)))
theorem GColumn.nl (x : GColumn) : (GColumn.cs x).all noLst1 = true := nlA rfl (nlA rfl (rfl))
inductive Geval_thing where
  | nil_
  | sole (y0 : Int) (y1 : Geval_thing)
  | twin (y0 : Int) (y1 : Geval_thing) (y2 : Geval_thing)
  | fixed (y0 : GValue)
  | place (y0 : Int)
  | missing
deriving DecidableEq, Inhabited
def Geval_thing.val : Geval_thing → Value
  | .nil_ => .nilIface
  | .sole y0 y1 => .iface 53 (outs (([(AV.int y0)]) ++ ([AV.sc (Geval_thing.val y1)])))
  | .twin y0 y1 y2 => .iface 55 (outs (([(AV.int y0)]) ++ ([AV.sc (Geval_thing.val y1)]) ++ ([AV.sc (Geval_thing.val y2)])))
  | .fixed y0 => .iface 57 (outs ((GValue.cs y0)))
  | .place y0 => .iface 61 (outs (([(AV.int y0)])))
  | .missing => .iface 63 (outs ([]))
abbrev Geval_thing.av (x : Geval_thing) : AV := .sc (Geval_thing.val x)
structure Geval_sole where
  op_ : Int
  a_ : Geval_thing
deriving DecidableEq, Inhabited
def Geval_sole.zero : Geval_sole := ⟨(0 : Int), Geval_thing.nil_⟩
def Geval_sole.cs (x : Geval_sole) : List AV := ([(AV.int x.op_)]) ++ ([(Geval_thing.av x.a_)])
abbrev Geval_sole.ls (q : List Geval_sole) : AV := AV.lst (q.flatMap Geval_sole.cs) q.length
theorem Geval_sole.len (x : Geval_sole) : (Geval_sole.cs x).length = 2 := by
  simp only [Geval_sole.cs, List.length_append]
  rw [show ([(AV.int x.op_)]).length = 1 from (show ([(AV.int x.op_)]).length = 1 from rfl), show ([(Geval_thing.av x.a_)]).length = 1 from (show ([(Geval_thing.av x.a_)]).length = 1 from rfl)]
theorem Geval_sole.sub0 (x : Geval_sole) : Sub (Geval_sole.cs x) 0 ([(AV.int x.op_)]) := Sub.head _ _
abbrev Geval_sole.w0 (x : Geval_sole) (y : Int) : Geval_sole := { x with op_ := y }
theorem Geval_sole.upd0 (x : Geval_sole) (y : Int) : Upd (Geval_sole.cs x) 0 ([(AV.int y)]) (Geval_sole.cs { x with op_ := y }) := Upd.head (show ([(AV.int y)]).length = ([(AV.int x.op_)]).length from rfl)
theorem Geval_sole.sub1 (x : Geval_sole) : Sub (Geval_sole.cs x) 1 ([(Geval_thing.av x.a_)]) := Sub.skip (k := 1) (show ([(AV.int x.op_)]).length = 1 from rfl) (Sub.refl _)
abbrev Geval_sole.w1 (x : Geval_sole) (y : Geval_thing) : Geval_sole := { x with a_ := y }
theorem Geval_sole.upd1 (x : Geval_sole) (y : Geval_thing) : Upd (Geval_sole.cs x) 1 ([(Geval_thing.av y)]) (Geval_sole.cs { x with a_ := y }) := Upd.skip (k := 1) (show ([(AV.int x.op_)]).length = 1 from rfl) (Upd.refl (show ([(Geval_thing.av y)]).length = ([(Geval_thing.av x.a_)]).length from rfl))
theorem Geval_sole.nl (x : Geval_sole) : (Geval_sole.cs x).all noLst1 = true := nlA rfl (rfl)
structure Geval_twin where
  op_ : Int
  a_ : Geval_thing
  b_ : Geval_thing
deriving DecidableEq, Inhabited
def Geval_twin.zero : Geval_twin := ⟨(0 : Int), Geval_thing.nil_, Geval_thing.nil_⟩
def Geval_twin.cs (x : Geval_twin) : List AV := ([(AV.int x.op_)]) ++ (([(Geval_thing.av x.a_)]) ++ ([(Geval_thing.av x.b_)]))
abbrev Geval_twin.ls (q : List Geval_twin) : AV := AV.lst (q.flatMap Geval_twin.cs) q.length
theorem Geval_twin.len (x : Geval_twin) : (Geval_twin.cs x).length = 3 := by
  simp only [Geval_twin.cs, List.length_append]
  rw [show ([(AV.int x.op_)]).length = 1 from (show ([(AV.int x.op_)]).length = 1 from rfl), show ([(Geval_thing.av x.a_)]).length = 1 from (show ([(Geval_thing.av x.a_)]).length = 1 from rfl), show ([(Geval_thing.av x.b_)]).length = 1 from (show ([(Geval_thing.av x.b_)]).length = 1 from rfl)]
theorem Geval_twin.sub0 (x : Geval_twin) : Sub (Geval_twin.cs x) 0 ([(AV.int x.op_)]) := Sub.head _ _
abbrev Geval_twin.w0 (x : Geval_twin) (y : Int) : Geval_twin := { x with op_ := y }
theorem Geval_twin.upd0 (x : Geval_twin) (y : Int) : Upd (Geval_twin.cs x) 0 ([(AV.int y)]) (Geval_twin.cs { x with op_ := y }) := Upd.head (show ([(AV.int y)]).length = ([(AV.int x.op_)]).length from rfl)
theorem Geval_twin.sub1 (x : Geval_twin) : Sub (Geval_twin.cs x) 1 ([(Geval_thing.av x.a_)]) := Sub.skip (k := 1) (show ([(AV.int x.op_)]).length = 1 from rfl) (Sub.head _ _)
abbrev Geval_twin.w1 (x : Geval_twin) (y : Geval_thing) : Geval_twin := { x with a_ := y }
theorem Geval_twin.upd1 (x : Geval_twin) (y : Geval_thing) : Upd (Geval_twin.cs x) 1 ([(Geval_thing.av y)]) (Geval_twin.cs { x with a_ := y }) := Upd.skip (k := 1) (show ([(AV.int x.op_)]).length = 1 from rfl) (Upd.head (show ([(Geval_thing.av y)]).length = ([(Geval_thing.av x.a_)]).length from rfl))
theorem Geval_twin.sub2 (x : Geval_twin) : Sub (Geval_twin.cs x) 2 ([(Geval_thing.av x.b_)]) := Sub.skip (k := 1) (show ([(AV.int x.op_)]).length = 1 from rfl) (Sub.skip (k := 1) (show ([(Geval_thing.av x.a_)]).length = 1 from rfl) (Sub.refl _))
abbrev Geval_twin.w2 (x : Geval_twin) (y : Geval_thing) : Geval_twin := { x with b_ := y }
theorem Geval_twin.upd2 (x : Geval_twin) (y : Geval_thing) : Upd (Geval_twin.cs x) 2 ([(Geval_thing.av y)]) (Geval_twin.cs { x with b_ := y }) := Upd.skip (k := 1) (show ([(AV.int x.op_)]).length = 1 from rfl) (Upd.skip (k := 1) (show ([(Geval_thing.av x.a_)]).length = 1 from rfl) (Upd.refl (show ([(Geval_thing.av y)]).length = ([(Geval_thing.av x.b_)]).length from rfl)))
theorem Geval_twin.nl (x : Geval_twin) : (Geval_twin.cs x).all noLst1 = true := nlA rfl (nlA rfl (rfl))
structure Geval_fixed where
  v_ : GValue
deriving DecidableEq, Inhabited
def Geval_fixed.zero : Geval_fixed := ⟨GValue.zero⟩
def Geval_fixed.cs (x : Geval_fixed) : List AV := (GValue.cs x.v_)
abbrev Geval_fixed.ls (q : List Geval_fixed) : AV := AV.lst (q.flatMap Geval_fixed.cs) q.length
theorem Geval_fixed.len (x : Geval_fixed) : (Geval_fixed.cs x).length = 4 := by
  simp only [Geval_fixed.cs, List.length_append]
  rw [show (GValue.cs x.v_).length = 4 from (GValue.len x.v_)]
theorem Geval_fixed.sub0 (x : Geval_fixed) : Sub (Geval_fixed.cs x) 0 (GValue.cs x.v_) := Sub.refl _
abbrev Geval_fixed.w0 (x : Geval_fixed) (y : GValue) : Geval_fixed := { x with v_ := y }
theorem Geval_fixed.upd0 (x : Geval_fixed) (y : GValue) : Upd (Geval_fixed.cs x) 0 (GValue.cs y) (Geval_fixed.cs { x with v_ := y }) := Upd.refl ((GValue.len y).trans (GValue.len x.v_).symm)
theorem Geval_fixed.nl (x : Geval_fixed) : (Geval_fixed.cs x).all noLst1 = true := (GValue.nl x.v_)
structure Geval_place where
  i_ : Int
deriving DecidableEq, Inhabited
def Geval_place.zero : Geval_place := ⟨(0 : Int)⟩
def Geval_place.cs (x : Geval_place) : List AV := ([(AV.int x.i_)])
abbrev Geval_place.ls (q : List Geval_place) : AV := AV.lst (q.flatMap Geval_place.cs) q.length
theorem Geval_place.len (x : Geval_place) : (Geval_place.cs x).length = 1 := by
  simp only [Geval_place.cs, List.length_append]
  rw [show ([(AV.int x.i_)]).length = 1 from (show ([(AV.int x.i_)]).length = 1 from rfl)]
theorem Geval_place.sub0 (x : Geval_place) : Sub (Geval_place.cs x) 0 ([(AV.int x.i_)]) := Sub.refl _
abbrev Geval_place.w0 (x : Geval_place) (y : Int) : Geval_place := { x with i_ := y }
theorem Geval_place.upd0 (x : Geval_place) (y : Int) : Upd (Geval_place.cs x) 0 ([(AV.int y)]) (Geval_place.cs { x with i_ := y }) := Upd.refl (show ([(AV.int y)]).length = ([(AV.int x.i_)]).length from rfl)
theorem Geval_place.nl (x : Geval_place) : (Geval_place.cs x).all noLst1 = true := rfl
structure Geval_missing where
deriving DecidableEq, Inhabited
def Geval_missing.zero : Geval_missing := ⟨⟩
def Geval_missing.cs (x : Geval_missing) : List AV := ([] : List AV)
abbrev Geval_missing.ls (q : List Geval_missing) : AV := AV.lst (q.flatMap Geval_missing.cs) q.length
theorem Geval_missing.len (x : Geval_missing) : (Geval_missing.cs x).length = 0 := rfl
theorem Geval_missing.nl (x : Geval_missing) : (Geval_missing.cs x).all noLst1 = true := rfl
theorem in_25 : Info Tryd.prog 25 1 24 (.slice none 0 0) := by unfold Info; kernel_rfl
theorem in_27 : Info Tryd.prog 27 7 88 (.agg #[.int .i64 0, .int .i64 0, .int .i64 0, .int .u64 0, .string ⟨#[]⟩, .string ⟨#[]⟩, .slice none 0 0]) := by unfold Info; kernel_rfl
theorem one_27 : (.agg #[.int .i64 0, .int .i64 0, .int .i64 0, .int .u64 0, .string ⟨#[]⟩, .string ⟨#[]⟩, .slice none 0 0] : Value).cells.all (·.oneCell') = true := by kernel_rfl
theorem zc_27 : ((.agg #[.int .i64 0, .int .i64 0, .int .i64 0, .int .u64 0, .string ⟨#[]⟩, .string ⟨#[]⟩, .slice none 0 0] : Value).cells.toList.map zcell) = GExpr.cs GExpr.zero := by rfl
theorem in_3 : Info Tryd.prog 3 1 8 (.int .i64 0) := by unfold Info; kernel_rfl
theorem one_3 : (.int .i64 0 : Value).cells.all (·.oneCell') = true := by kernel_rfl
theorem in_9 : Info Tryd.prog 9 1 16 (.string ⟨#[]⟩) := by unfold Info; kernel_rfl
theorem in_22 : Info Tryd.prog 22 1 8 (.int .u64 0) := by unfold Info; kernel_rfl
theorem in_24 : Info Tryd.prog 24 4 40 (.agg #[.int .i64 0, .int .i64 0, .int .u64 0, .string ⟨#[]⟩]) := by unfold Info; kernel_rfl
theorem one_24 : (.agg #[.int .i64 0, .int .i64 0, .int .u64 0, .string ⟨#[]⟩] : Value).cells.all (·.oneCell') = true := by kernel_rfl
theorem zc_24 : ((.agg #[.int .i64 0, .int .i64 0, .int .u64 0, .string ⟨#[]⟩] : Value).cells.toList.map zcell) = GValue.cs GValue.zero := by rfl
theorem pl_24 : placesOf Tryd.prog 24 = some [(0, 1), (1, 1), (2, 1), (3, 1)] := by kernel_rfl
theorem in_86 : Info Tryd.prog 86 4 40 (.agg #[.int .i64 0, .string ⟨#[]⟩, .int .i64 0, .int .u64 0]) := by unfold Info; kernel_rfl
theorem one_86 : (.agg #[.int .i64 0, .string ⟨#[]⟩, .int .i64 0, .int .u64 0] : Value).cells.all (·.oneCell') = true := by kernel_rfl
theorem zc_86 : ((.agg #[.int .i64 0, .string ⟨#[]⟩, .int .i64 0, .int .u64 0] : Value).cells.toList.map zcell) = GToken.cs GToken.zero := by rfl
theorem pl_86 : placesOf Tryd.prog 86 = some [(0, 1), (1, 1), (2, 1), (3, 1)] := by kernel_rfl
theorem in_59 : Info Tryd.prog 59 3 32 (.agg #[.string ⟨#[]⟩, .int .i64 0, .bool false]) := by unfold Info; kernel_rfl
theorem one_59 : (.agg #[.string ⟨#[]⟩, .int .i64 0, .bool false] : Value).cells.all (·.oneCell') = true := by kernel_rfl
theorem zc_59 : ((.agg #[.string ⟨#[]⟩, .int .i64 0, .bool false] : Value).cells.toList.map zcell) = GColumn.cs GColumn.zero := by rfl
theorem in_4 : Info Tryd.prog 4 1 1 (.bool false) := by unfold Info; kernel_rfl
theorem in_53 : Info Tryd.prog 53 2 24 (.agg #[.int .i64 0, .nilIface]) := by unfold Info; kernel_rfl
theorem one_53 : (.agg #[.int .i64 0, .nilIface] : Value).cells.all (·.oneCell') = true := by kernel_rfl
theorem zc_53 : ((.agg #[.int .i64 0, .nilIface] : Value).cells.toList.map zcell) = Geval_sole.cs Geval_sole.zero := by rfl
theorem pl_53 : placesOf Tryd.prog 53 = some [(0, 1), (1, 1)] := by kernel_rfl
theorem in_55 : Info Tryd.prog 55 3 40 (.agg #[.int .i64 0, .nilIface, .nilIface]) := by unfold Info; kernel_rfl
theorem one_55 : (.agg #[.int .i64 0, .nilIface, .nilIface] : Value).cells.all (·.oneCell') = true := by kernel_rfl
theorem zc_55 : ((.agg #[.int .i64 0, .nilIface, .nilIface] : Value).cells.toList.map zcell) = Geval_twin.cs Geval_twin.zero := by rfl
theorem pl_55 : placesOf Tryd.prog 55 = some [(0, 1), (1, 1), (2, 1)] := by kernel_rfl
theorem in_57 : Info Tryd.prog 57 4 40 (.agg #[.int .i64 0, .int .i64 0, .int .u64 0, .string ⟨#[]⟩]) := by unfold Info; kernel_rfl
theorem one_57 : (.agg #[.int .i64 0, .int .i64 0, .int .u64 0, .string ⟨#[]⟩] : Value).cells.all (·.oneCell') = true := by kernel_rfl
theorem zc_57 : ((.agg #[.int .i64 0, .int .i64 0, .int .u64 0, .string ⟨#[]⟩] : Value).cells.toList.map zcell) = Geval_fixed.cs Geval_fixed.zero := by rfl
theorem pl_57 : placesOf Tryd.prog 57 = some [(0, 4)] := by kernel_rfl
theorem in_61 : Info Tryd.prog 61 1 8 (.agg #[.int .i64 0]) := by unfold Info; kernel_rfl
theorem one_61 : (.agg #[.int .i64 0] : Value).cells.all (·.oneCell') = true := by kernel_rfl
theorem zc_61 : ((.agg #[.int .i64 0] : Value).cells.toList.map zcell) = Geval_place.cs Geval_place.zero := by rfl
theorem pl_61 : placesOf Tryd.prog 61 = some [(0, 1)] := by kernel_rfl
theorem in_63 : Info Tryd.prog 63 0 0 (.agg #[]) := by unfold Info; kernel_rfl
theorem one_63 : (.agg #[] : Value).cells.all (·.oneCell') = true := by kernel_rfl
theorem zc_63 : ((.agg #[] : Value).cells.toList.map zcell) = Geval_missing.cs Geval_missing.zero := by rfl
theorem pl_63 : placesOf Tryd.prog 63 = some [] := by kernel_rfl
theorem in_43 : Info Tryd.prog 43 1 16 (.nilIface) := by unfold Info; kernel_rfl
theorem eq_24 : EqT Tryd.prog 24 2 (fun x : GValue => .agg (GValue.cs x)) :=
  eqt_struct [fun a b => a.Kind = b.Kind, fun a b => a.Int_ = b.Int_, fun a b => a.Bits = b.Bits, fun a b => a.Text = b.Text] U24 (by kernel_rfl) ⟨(FieldEq.more (fe_one (by decide) U3 rfl (eqt_int U3) (fun a => GValue.sub0 a)) (by decide : 1 ≤ 1)), (FieldEq.more (fe_one (by decide) U3 rfl (eqt_int U3) (fun a => GValue.sub1 a)) (by decide : 1 ≤ 1)), (FieldEq.more (fe_one (by decide) U22 rfl (eqt_u64 U22) (fun a => GValue.sub2 a)) (by decide : 1 ≤ 1)), (FieldEq.more (fe_one (by decide) U9 rfl (eqt_txt U9) (fun a => GValue.sub3 a)) (by decide : 1 ≤ 1)), trivial⟩ (fun a b => by
    cases a; cases b
    simp)
theorem Geval_sole.scl (x : Geval_sole) : (Geval_sole.cs x).all isSc = true := by
  obtain ⟨y0, y1⟩ := x
  cases y1 <;> rfl
theorem Geval_twin.scl (x : Geval_twin) : (Geval_twin.cs x).all isSc = true := by
  obtain ⟨y0, y1, y2⟩ := x
  cases y1 <;> cases y2 <;> rfl
theorem Geval_fixed.scl (x : Geval_fixed) : (Geval_fixed.cs x).all isSc = true := by
  obtain ⟨y0⟩ := x
  rfl
theorem Geval_place.scl (x : Geval_place) : (Geval_place.cs x).all isSc = true := by
  obtain ⟨y0⟩ := x
  rfl
theorem Geval_missing.scl (x : Geval_missing) : (Geval_missing.cs x).all isSc = true := rfl
noncomputable def g_expr_size_l0 (e0 : GExpr) (depth1 : Int) (R' : GExpr → Int → Option (Int × Bool)) : Int × Int → Option ((Int × Int) ⊕ ((Int × Bool) ⊕ Int))
  | (n6_0, t16_0) => (if t16_0 < (e0.Args.length : Int) then if 0 ≤ t16_0 ∧ t16_0 < (e0.Args.length : Int) then (R' (lrd e0.Args t16_0.toNat) (w64 (depth1 + (1 : Int)))).bind fun r'1 => (if ((!r'1.2) = true) ∨ (w64 (n6_0 + r'1.1) > (40 : Int)) then some (.inr (.inl ((0 : Int), false))) else some (.inl (w64 (n6_0 + r'1.1), w64 (t16_0 + (1 : Int))))) else none else some (.inr (.inr n6_0)))
noncomputable def g_expr_size_b (R' : GExpr → Int → Option (Int × Bool)) (e0 : GExpr) (depth1 : Int) : Option (Int × Bool) :=
  (if depth1 > (7 : Int) then some ((0 : Int), false) else (loopO (g_expr_size_l0 e0 depth1 R') ((1 : Int), (0 : Int))).bind fun o'5 => match o'5 with | .inl y'6 => some y'6 | .inr (y'7) => some (y'7, true))
noncomputable def g_expr_size : Nat → GExpr → Int → Option (Int × Bool)
  | 0, _, _ => none
  | fu + 1, e0, depth1 => g_expr_size_b (g_expr_size fu) e0 depth1
set_option maxHeartbeats 4000000 in
set_option maxRecDepth 100000 in
theorem g_expr_size_ac0 {R' : GExpr → Int → Option (Int × Bool)} (hR : ∀ {e0 : GExpr} {depth1 : Int} {r : Int × Bool}, R' e0 depth1 = some r → ACp Tryd.prog 26 [(.agg (GExpr.cs e0)), (AV.int depth1)] (.tup [(AV.int r.1), (AV.bool r.2)])) {e0 : GExpr} {depth1 : Int} {r : Int × Bool} (H : g_expr_size_b R' e0 depth1 = some r) : ACp Tryd.prog 26 [(.agg (GExpr.cs e0)), (AV.int depth1)] (.tup [(AV.int r.1), (AV.bool r.2)]) := by
 refine ACp_of (AC2_of_body (vs := [.i r.1, .b r.2]) Tryd.func26 Y Y (lb Y) Y ?_) (fun _ => .same _)
 unfold g_expr_size_b at H
 refine as2 [(0, .g (GExpr.cs e0)), (1, .i depth1)] [] Y (sg [0,1,2] Y (rq Y (MakeD.opD (n_box 2 Y Y) Y Y Y Y) (ra Y (ra Y (rz [(1, _), (2, .q 2 (0))] [(2, .pure (GExpr.cs e0))] Y (AW2_seq ?_))))))
 refine sg [0,1] Y (rm Y (rp Y (p_bin Y Y Y Y) (rz [(1, _), (2, _), (12, .b (decide (depth1 > (7 : Int))))] [(2, _)] Y (if2 H Y (fun h1 H => ?_) (fun h1 H => ?_)))))
 ·refine sg [0,1] Y (ra Y (ra Y (rz [(4, .i (0 : Int)), (5, .b false)] [] Y (AW2_ret ?_))))
  obtain rfl := se H
  exact ⟨⟨rt, rt, trivial⟩, trivial⟩
 refine as2 [(1, _), (2, _)] [(2, _)] Y (AW2_skip (sg [0] Y (ra Y (rz [(1, _), (2, _), (6, .i (1 : Int))] [(2, _)] Y (AW2_seq (sg [0,1,2,3] Y ?_))))))
 refine rf Y U27 Y in_25 Y Y (GExpr.len e0) (rp Y (u_ld Y Y U25 Y Y (GExpr.sub3 e0)) (rp Y (p_lenl Y U25 Y Y) (rm Y (rz [(1, _), (6, _), (14, .p (GExpr.ls e0.Args)), (15, .i (e0.Args.length : Int)), (16, .i (0 : Int))] [] Y (AW2_block (as2 [(1, _), (6, _), (14, _), (15, _), (16, _)] [] Y ?_))))))
 refine bindK H fun o'5 h7 H => AW2_loopO (fun a'2 : Int × Int => (⟨[(1, .i depth1), (6, .i a'2.1), (14, .p (GExpr.ls e0.Args)), (15, .i (e0.Args.length : Int)), (16, .i a'2.2)], [], 38⟩ : TS)) (fun (o : (Int × Bool) ⊕ Int) e s' => match o with | .inl y'3 => e = Go.Exit.ret ∧ ResAll Tryd.prog s' [ResultVar.tmp 4, ResultVar.tmp 5] [.i y'3.1, .b y'3.2] ∧ HFits s' [] | .inr (y'4) => e = Go.Exit.exit 0 ∧ s' = (⟨[(6, .i y'4)], [], 38⟩ : TS)) h7 Y (fun a x hx => ?_) (fun e s' hs => ?_)
 ·clear H
  obtain ⟨n6_0, t16_0⟩ := a
  have H := hx
  clear hx
  unfold g_expr_size_l0 at H
  refine sg [0] Y (rp Y (p_bin Y Y Y Y) (rz [(1, .i depth1), (6, .i n6_0), (14, .p (GExpr.ls e0.Args)), (15, .i (e0.Args.length : Int)), (16, .i t16_0), (17, .b (decide (t16_0 < (e0.Args.length : Int))))] [] Y (AW2_seq (if2 H Y (fun h2 H => ?_) (fun h2 H => ?_)))))
  ·refine as2 [(1, _), (6, _), (14, _), (15, _), (16, _)] [] Y (AW2_skip (AW2_seq (AW2_block (sg [0,1,2,3] Y (chkK H fun h3 H => rp Y (u_ixl Y Y U25 in_27 Y Y (ixe h3) (ixn h3) (fne (fun x => (GExpr.len x)) (by decide) (ixn h3))) ?_)))))
   refine rp Y (u_lda Y Y U27 Y in_27 Y np (Sub.fm default (fun x => (GExpr.len x)) (ixn h3)) (GExpr.len (lrd e0.Args t16_0.toNat))) (rq Y (MakeD.opD (u_alloc 8 Y in_27 one_27 zc_27) Y Y Y Y) (rq Y (u_sw Y Y Y Y Y in_27 (GExpr.len (lrd e0.Args t16_0.toNat)) (GExpr.len GExpr.zero) Y) (rz [(1, _), (6, _), (8, .q 8 (0)), (14, _), (15, _), (16, _)] [(8, .pure (GExpr.cs (lrd e0.Args t16_0.toNat)))] Y (sg [0,1,2,3,4,5,6,7,8] Y (rp Y (u_lda Y Y U27 Y in_27 Y np (Sub.refl _) (GExpr.len (lrd e0.Args t16_0.toNat))) (rm Y ?_))))))
   refine rp Y (p_bin Y Y Y Y) (bindK H fun r'1 h4 H => rp Y (p_callp Y Y Y Tryd.func26 Y Y (hR h4) ⟨Y, Y, trivial⟩) (rm Y (rp Y (p_ext Y Y Y Y) (rp Y (p_ext Y Y Y Y) (ra Y ?_)))))
   refine ra Y (rz [(1, _), (6, _), (9, .i r'1.1), (10, .b r'1.2), (14, _), (15, _), (16, _)] [] Y (sg [0,1,2,3] Y (rm Y (rm Y (rp Y (p_bin Y Y Y Y) (ra Y ?_))))))
   refine rz [(1, _), (6, .i (w64 (n6_0 + r'1.1))), (10, _), (14, _), (15, _), (16, _)] [] Y (AW2_seq (AW2_mid (⟨[(1, .i depth1), (6, .i (w64 (n6_0 + r'1.1))), (14, .p (GExpr.ls e0.Args)), (15, .i (e0.Args.length : Int)), (16, .i t16_0), (35, .b (decide (((!r'1.2) = true) ∨ (w64 (n6_0 + r'1.1) > (40 : Int)))))], [], 38⟩ : TS) ?_ ?_))
   ·refine AW2_reg [0,1,2,3,4,5] Y (rm Y (rp Y (p_not Y Y) (rm Y ?_)))
    refine (Classical.em ((!r'1.2) = true)).elim (fun h5 => ?_) (fun h5 => ?_)
    ·exact rO Y h5 Y (rO Y h5 Y (rp Y (p_pkt Y Y h5 (tb (dT (p := ((!r'1.2) = true) ∨ (w64 (n6_0 + r'1.1) > (40 : Int))) (Or.inl h5)).symm)) (rend Y Y)))
    exact rn Y (bfalse h5) Y (p_move Y Y) (rn Y (bfalse h5) Y (p_bin Y Y Y Y) (rp Y (p_pkf Y Y (bfalse h5) (tb ((or_l (p := (!r'1.2) = true) (q := w64 (n6_0 + r'1.1) > (40 : Int)) h5)))) (rend Y Y)))
   refine if2 H Y (fun h6 H => ?_) (fun h6 H => ?_)
   ·refine sg [0,1] Y (ra Y (ra Y (rz [(4, .i (0 : Int)), (5, .b false)] [] Y (AW2_ret ?_))))
    obtain rfl := se H
    exact ⟨Y, ⟨rt, rt, trivial⟩, trivial⟩
   refine as2 [(1, _), (6, _), (14, _), (15, _), (16, _)] [] Y (AW2_skip (AW2_reg [0,1] Y (rp Y (p_bin Y Y Y Y) (rm Y (rz [(1, _), (6, _), (14, _), (15, _), (16, .i (w64 (t16_0 + (1 : Int))))] [] Y ?_)))))
   obtain rfl := se H
   exact ⟨Y, Y⟩
  refine as2 [(6, _)] [] Y (AW2_exit (thenQ2_exit ?_))
  obtain rfl := se H
  exact ⟨Y, Y⟩
 rcases o'5 with y'6 | y'7
 ·obtain ⟨rfl, hs⟩ := hs
  refine ⟨by simp, ?_⟩
  obtain rfl := se H
  exact ⟨hs.1, hs.2⟩
 obtain ⟨rfl, rfl⟩ := hs
 refine ⟨by simp, ?_⟩
 refine blockQ2_exit (sg [0,1,2] Y (rm Y (ra Y (ra Y (rz [(4, .i y'7), (5, .b true)] [] Y (AW2_ret ?_))))))
 obtain rfl := se H
 exact ⟨⟨rt, rt, trivial⟩, trivial⟩
theorem g_expr_size_acN : ∀ (fu : Nat) {e0 : GExpr} {depth1 : Int} {r : Int × Bool}, g_expr_size fu e0 depth1 = some r → ACp Tryd.prog 26 [(.agg (GExpr.cs e0)), (AV.int depth1)] (.tup [(AV.int r.1), (AV.bool r.2)])
 | 0, _, _, _, H => (by cases H)
 | fu + 1, _, _, _, H => g_expr_size_ac0 (g_expr_size_acN fu) H
theorem g_expr_size_ac {e0 : GExpr} {depth1 : Int} {r : Int × Bool} (H : g_expr_size 100000 e0 depth1 = some r) : ACp Tryd.prog 26 [(.agg (GExpr.cs e0)), (AV.int depth1)] (.tup [(AV.int r.1), (AV.bool r.2)]) := g_expr_size_acN 100000 H
noncomputable def g_expr_wants (op0 : Int) : Option (Int) :=
  ((if op0 = (1 : Int) then some (decide (op0 = (1 : Int))) else some (decide (op0 = (2 : Int))))).bind fun j'1 => (if j'1 = true then some (0 : Int) else ((if op0 = (3 : Int) then some (decide (op0 = (3 : Int))) else (if op0 = (4 : Int) then some (decide (op0 = (4 : Int))) else (if op0 = (17 : Int) then some (decide (op0 = (17 : Int))) else some (decide (op0 = (18 : Int))))))).bind fun j'2 => (if j'2 = true then some (1 : Int) else some (2 : Int)))
set_option maxHeartbeats 4000000 in
set_option maxRecDepth 100000 in
theorem g_expr_wants_ac {op0 : Int} {r : Int} (H : g_expr_wants op0 = some r) : ACp Tryd.prog 55 [(AV.int op0)] (AV.int r) := by
 refine ACp_of (AC2_of_body (vs := [.i r]) Tryd.func55 Y Y (lb Y) Y ?_) (fun _ => .same _)
 unfold g_expr_wants at H
 refine as2 [(0, .i op0)] [] Y (sg [0] Y (ra Y (rz [(0, _)] [] Y (AW2_seq (sg [0] Y (rm Y ?_))))))
 refine rz [(3, .i op0)] [] Y (AW2_block (AW2_seq (bindK H fun j'1 h1 H => AW2_mid (⟨[(3, .i op0), (4, .b j'1)], [], 12⟩ : TS) ?_ ?_)))
 ·clear H
  have H := h1
  clear h1
  refine sg [0,1] Y (rp Y (p_ieq Y Y Y) (ra Y (rz [(3, .i op0), (4, .b (decide (op0 = (1 : Int))))] [] Y (if2 H Y (fun h2 H => ?_) (fun h2 H => ?_)))))
  ·refine AW2_skip ?_
   obtain rfl := se H
   exact rfl
  refine AW2_reg [0,1] Y (rp Y (p_ieq Y Y Y) (ra Y (rz [(3, _), (4, .b (decide (op0 = (2 : Int))))] [] Y ?_)))
  obtain rfl := se H
  exact rfl
 refine AW2_cond Y (fun h3 => ?_) (fun h3 => ?_)
 ·replace H := ite_then h3 H
  refine sg [0] Y (ra Y (rz [(2, .i (0 : Int))] [] Y (AW2_ret ?_)))
  obtain rfl := se H
  exact ⟨⟨rt, trivial⟩, trivial⟩
 replace H := ite_else (ne_true h3) H
 refine AW2_seq (bindK H fun j'2 h4 H => AW2_mid (⟨[(7, .b j'2)], [], 12⟩ : TS) ?_ ?_)
 ·clear H
  have H := h4
  clear h4
  refine sg [0,1] Y (rp Y (p_ieq Y Y Y) (ra Y (rz [(3, .i op0), (7, .b (decide (op0 = (3 : Int))))] [] Y (if2 H Y (fun h5 H => ?_) (fun h5 H => ?_)))))
  ·refine as2 [(7, _)] [] Y (AW2_skip ?_)
   obtain rfl := se H
   exact rfl
  refine sg [0,1] Y (rp Y (p_ieq Y Y Y) (ra Y (rz [(3, _), (7, .b (decide (op0 = (4 : Int))))] [] Y (if2 H Y (fun h6 H => ?_) (fun h6 H => ?_)))))
  ·refine as2 [(7, _)] [] Y (AW2_skip ?_)
   obtain rfl := se H
   exact rfl
  refine sg [0,1] Y (rp Y (p_ieq Y Y Y) (ra Y (rz [(3, _), (7, .b (decide (op0 = (17 : Int))))] [] Y (if2 H Y (fun h7 H => ?_) (fun h7 H => ?_)))))
  ·refine as2 [(7, _)] [] Y (AW2_skip ?_)
   obtain rfl := se H
   exact rfl
  refine AW2_reg [0,1] Y (rp Y (p_ieq Y Y Y) (ra Y (rz [(7, .b (decide (op0 = (18 : Int))))] [] Y ?_)))
  obtain rfl := se H
  exact rfl
 refine AW2_cond Y (fun h8 => ?_) (fun h8 => ?_)
 ·replace H := ite_then h8 H
  refine sg [0] Y (ra Y (rz [(2, .i (1 : Int))] [] Y (AW2_ret ?_)))
  obtain rfl := se H
  exact ⟨⟨rt, trivial⟩, trivial⟩
 replace H := ite_else (ne_true h8) H
 refine as2 [] [] Y (AW2_skip (sg [0] Y (ra Y (rz [(2, .i (2 : Int))] [] Y (AW2_ret ?_)))))
 obtain rfl := se H
 exact ⟨⟨rt, trivial⟩, trivial⟩
noncomputable def g_lex_small (c0 : UInt8) : Option (Bool) :=
  some (decide (((97 : UInt8) ≤ c0) ∧ (c0 ≤ (122 : UInt8))))
set_option maxHeartbeats 4000000 in
set_option maxRecDepth 100000 in
theorem g_lex_small_ac {c0 : UInt8} {r : Bool} (H : g_lex_small c0 = some r) : ACp Tryd.prog 73 [(AV.b8 c0)] (AV.bool r) := by
 refine ACp_of (AC2_of_body (vs := [.b r]) Tryd.func73 Y Y (lb Y) Y ?_) (fun _ => .same _)
 unfold g_lex_small at H
 refine as2 [(0, .p (AV.b8 c0))] [] Y (sg [0] Y (ra Y (rz [(0, _)] [] Y (AW2_seq (AW2_mid (⟨[(2, .b (decide (((97 : UInt8) ≤ c0) ∧ (c0 ≤ (122 : UInt8)))))], [], 9⟩ : TS) ?_ ?_)))))
 ·refine AW2_reg [0,1,2,3,4,5,6] Y (rm Y (rp Y (p_u8ge (a := c0) (b := (97 : UInt8)) Y Y Y) (rm Y ?_)))
  refine (Classical.em ((97 : UInt8) ≤ c0)).elim (fun h1 => ?_) (fun h1 => ?_)
  ·exact rn Y (dT h1) Y (p_move Y Y) (rn Y (dT h1) Y (p_u8le (a := c0) (b := (122 : UInt8)) Y Y Y) (rp Y (p_pkt Y Y (dT h1) (tb ((and_l (p := (97 : UInt8) ≤ c0) (q := c0 ≤ (122 : UInt8)) h1)))) (ra Y (rend Y Y))))
  exact rO Y (dF h1) Y (rO Y (dF h1) Y (rp Y (p_pkf Y Y (dF h1) (tb (dF (p := ((97 : UInt8) ≤ c0) ∧ (c0 ≤ (122 : UInt8))) (fun x => h1 x.1)).symm)) (ra Y (rend Y Y))))
 refine AW2_ret ?_
 obtain rfl := se H
 exact ⟨⟨rt, trivial⟩, trivial⟩
noncomputable def g_lex_digit (c0 : UInt8) : Option (Bool) :=
  some (decide (((48 : UInt8) ≤ c0) ∧ (c0 ≤ (57 : UInt8))))
set_option maxHeartbeats 4000000 in
set_option maxRecDepth 100000 in
theorem g_lex_digit_ac {c0 : UInt8} {r : Bool} (H : g_lex_digit c0 = some r) : ACp Tryd.prog 78 [(AV.b8 c0)] (AV.bool r) := by
 refine ACp_of (AC2_of_body (vs := [.b r]) Tryd.func78 Y Y (lb Y) Y ?_) (fun _ => .same _)
 unfold g_lex_digit at H
 refine as2 [(0, .p (AV.b8 c0))] [] Y (sg [0] Y (ra Y (rz [(0, _)] [] Y (AW2_seq (AW2_mid (⟨[(2, .b (decide (((48 : UInt8) ≤ c0) ∧ (c0 ≤ (57 : UInt8)))))], [], 9⟩ : TS) ?_ ?_)))))
 ·refine AW2_reg [0,1,2,3,4,5,6] Y (rm Y (rp Y (p_u8ge (a := c0) (b := (48 : UInt8)) Y Y Y) (rm Y ?_)))
  refine (Classical.em ((48 : UInt8) ≤ c0)).elim (fun h1 => ?_) (fun h1 => ?_)
  ·exact rn Y (dT h1) Y (p_move Y Y) (rn Y (dT h1) Y (p_u8le (a := c0) (b := (57 : UInt8)) Y Y Y) (rp Y (p_pkt Y Y (dT h1) (tb ((and_l (p := (48 : UInt8) ≤ c0) (q := c0 ≤ (57 : UInt8)) h1)))) (ra Y (rend Y Y))))
  exact rO Y (dF h1) Y (rO Y (dF h1) Y (rp Y (p_pkf Y Y (dF h1) (tb (dF (p := ((48 : UInt8) ≤ c0) ∧ (c0 ≤ (57 : UInt8))) (fun x => h1 x.1)).symm)) (ra Y (rend Y Y))))
 refine AW2_ret ?_
 obtain rfl := se H
 exact ⟨⟨rt, trivial⟩, trivial⟩
noncomputable def g_lex_inName (c0 : UInt8) : Option (Bool) :=
  ((g_lex_small c0).bind fun r'3 => (if r'3 = true then some true else (g_lex_digit c0).bind fun r'4 => (if r'4 = true then some true else some (decide (c0 = (95 : UInt8)))))).bind fun g'5 => some g'5
set_option maxHeartbeats 4000000 in
set_option maxRecDepth 100000 in
theorem g_lex_inName_ac {c0 : UInt8} {r : Bool} (H : g_lex_inName c0 = some r) : ACp Tryd.prog 72 [(AV.b8 c0)] (AV.bool r) := by
 refine ACp_of (AC2_of_body (vs := [.b r]) Tryd.func72 Y Y (lb Y) Y ?_) (fun _ => .same _)
 unfold g_lex_inName at H
 refine as2 [(0, .p (AV.b8 c0))] [] Y (sg [0] Y (ra Y (rz [(0, _)] [] Y (AW2_seq (bindK H fun g'5 h7 H => AW2_mid (⟨[(2, .b g'5)], [], 13⟩ : TS) ?_ ?_)))))
 ·clear H
  have H := h7
  clear h7
  refine AW2_reg [0,1,2,3,4,5,6,7,8,9,10] Y (rm Y (bindK H fun r'3 h3 H => rp Y (p_callp Y Y Y Tryd.func73 Y Y (g_lex_small_ac h3) ⟨Y, trivial⟩) (rm Y (em2 H (fun h4 H => ?_) (fun h4 H => ?_)))))
  ·refine rO Y h4 Y (rO Y h4 Y (rp Y (p_pkt Y Y h4 (.same _)) (rm Y (rO Y Y Y (rO Y Y Y (rp Y (p_pkt Y Y Y (.same _)) ?_))))))
   refine ra Y (rs [(2, .b true)] [] Y ?_)
   obtain rfl := se H
   exact RunW_nil rfl
  refine rn Y (bfalse h4) Y (p_move Y Y) (bindK H fun r'4 h5 H => rn Y (bfalse h4) Y (p_callp Y Y Y Tryd.func78 Y Y (g_lex_digit_ac h5) ⟨Y, trivial⟩) (rp Y (p_pkf Y Y (bfalse h4) (.same _)) (rm Y (em2 H (fun h6 H => ?_) (fun h6 H => ?_)))))
  ·refine rO Y h6 Y (rO Y h6 Y (rp Y (p_pkt Y Y h6 (.same _)) (ra Y (rs [(2, .b true)] [] Y ?_))))
   obtain rfl := se H
   exact RunW_nil rfl
  refine rn Y (bfalse h6) Y (p_move Y Y) (rn Y (bfalse h6) Y (p_u8eq (a := c0) (b := (95 : UInt8)) Y Y Y) (rp Y (p_pkf Y Y (bfalse h6) (.same _)) (ra Y (rs [(2, .b (decide (c0 = (95 : UInt8))))] [] Y ?_))))
  obtain rfl := se H
  exact RunW_nil rfl
 refine AW2_ret ?_
 obtain rfl := se H
 exact ⟨⟨rt, trivial⟩, trivial⟩
noncomputable def g_lex_great (c0 : UInt8) : Option (Bool) :=
  some (decide (((65 : UInt8) ≤ c0) ∧ (c0 ≤ (90 : UInt8))))
set_option maxHeartbeats 4000000 in
set_option maxRecDepth 100000 in
theorem g_lex_great_ac {c0 : UInt8} {r : Bool} (H : g_lex_great c0 = some r) : ACp Tryd.prog 74 [(AV.b8 c0)] (AV.bool r) := by
 refine ACp_of (AC2_of_body (vs := [.b r]) Tryd.func74 Y Y (lb Y) Y ?_) (fun _ => .same _)
 unfold g_lex_great at H
 refine as2 [(0, .p (AV.b8 c0))] [] Y (sg [0] Y (ra Y (rz [(0, _)] [] Y (AW2_seq (AW2_mid (⟨[(2, .b (decide (((65 : UInt8) ≤ c0) ∧ (c0 ≤ (90 : UInt8)))))], [], 9⟩ : TS) ?_ ?_)))))
 ·refine AW2_reg [0,1,2,3,4,5,6] Y (rm Y (rp Y (p_u8ge (a := c0) (b := (65 : UInt8)) Y Y Y) (rm Y ?_)))
  refine (Classical.em ((65 : UInt8) ≤ c0)).elim (fun h1 => ?_) (fun h1 => ?_)
  ·exact rn Y (dT h1) Y (p_move Y Y) (rn Y (dT h1) Y (p_u8le (a := c0) (b := (90 : UInt8)) Y Y Y) (rp Y (p_pkt Y Y (dT h1) (tb ((and_l (p := (65 : UInt8) ≤ c0) (q := c0 ≤ (90 : UInt8)) h1)))) (ra Y (rend Y Y))))
  exact rO Y (dF h1) Y (rO Y (dF h1) Y (rp Y (p_pkf Y Y (dF h1) (tb (dF (p := ((65 : UInt8) ≤ c0) ∧ (c0 ≤ (90 : UInt8))) (fun x => h1 x.1)).symm)) (ra Y (rend Y Y))))
 refine AW2_ret ?_
 obtain rfl := se H
 exact ⟨⟨rt, trivial⟩, trivial⟩
noncomputable def g_math_Signbit (x0 : F64) : Option (Bool) :=
  some (decide (w64 (x0.toNat : Int) < (0 : Int)))
set_option maxHeartbeats 4000000 in
set_option maxRecDepth 100000 in
theorem g_math_Signbit_ac {x0 : F64} {r : Bool} (H : g_math_Signbit x0 = some r) : ACp Tryd.prog 57 [(AV.f64 x0)] (AV.bool r) := by
 refine ACp_of (AC2_of_body (vs := [.b r]) Tryd.func57 Y Y (lb Y) Y ?_) (fun _ => .same _)
 unfold g_math_Signbit at H
 refine as2 [(0, .p (AV.f64 x0))] [] Y (sg [0] Y (ra Y (rz [(0, _)] [] Y (sg [0,1,2,3,4] Y (rm Y (rp Y (p_tobits (a := x0) Y Y Y Tryd.func77 Y Y (by kernel_rfl) (by kernel_rfl) Y) ?_))))))
 refine rp Y (p_u64_i (a := x0) Y U22 U2 Y) (rp Y (p_bin Y Y Y Y) (ra Y (rz [(2, .b (decide (w64 (x0.toNat : Int) < (0 : Int))))] [] Y (AW2_ret ?_))))
 obtain rfl := se H
 exact ⟨⟨rt, trivial⟩, trivial⟩
noncomputable def g_value_Check (v0 : GValue) : Option (Int) :=
  (if (v0.Kind < (0 : Int)) ∨ (v0.Kind > (4 : Int)) then some (2 : Int) else (if (v0.Text.length : Int) > (40 : Int) then some (1 : Int) else letO (decide ((((v0.Kind ≠ (4 : Int)) ∧ (v0.Text ≠ [])) ∨ ((v0.Kind ≠ (3 : Int)) ∧ (v0.Bits ≠ (0 : UInt64)))) ∨ (((v0.Kind ≠ (2 : Int)) ∧ (v0.Kind ≠ (1 : Int))) ∧ (v0.Int_ ≠ (0 : Int))))) fun t48'1 => (if t48'1 = true then some (3 : Int) else (show Option (Int ⊕ Unit) from (if v0.Kind = (1 : Int) then (if (v0.Int_ ≠ (0 : Int)) ∧ (v0.Int_ ≠ (1 : Int)) then some (.inl (3 : Int)) else some (.inr ())) else (if v0.Kind = (3 : Int) then ((if (fneq v0.Bits v0.Bits) = true then some true else (if (feq v0.Bits (0 : F64)) = true then (g_math_Signbit v0.Bits).bind fun r'4 => some r'4 else some false))).bind fun g'5 => (if g'5 = true then some (.inl (3 : Int)) else some (.inr ())) else (if v0.Kind = (4 : Int) then (g_utf8_ValidString v0.Text).bind fun r'6 => (if (!r'6) = true then some (.inl (3 : Int)) else some (.inr ())) else some (.inr ()))))).bind fun o'8 => match o'8 with | .inl y'7 => some y'7 | .inr j'2 => some (0 : Int))))
set_option maxHeartbeats 4000000 in
set_option maxRecDepth 100000 in
theorem g_value_Check_ac {v0 : GValue} {r : Int} (H : g_value_Check v0 = some r) : ACp Tryd.prog 40 [(.agg (GValue.cs v0))] (AV.int r) := by
 refine ACp_of (AC2_of_body (vs := [.i r]) Tryd.func40 Y Y (lb Y) Y ?_) (fun _ => .same _)
 unfold g_value_Check at H
 refine as2 [(0, .g (GValue.cs v0))] [] Y (sg [0,1] Y (rq Y (MakeD.opD (n_box 1 Y Y) Y Y Y Y) (ra Y (rz [(1, .q 1 (0))] [(1, .pure (GValue.cs v0))] Y (AW2_seq (AW2_seq ?_))))))
 refine AW2_mid (⟨[(1, .q 1 (0)), (11, .b (decide ((v0.Kind < (0 : Int)) ∨ (v0.Kind > (4 : Int)))))], [(1, .pure (GValue.cs v0))], 83⟩ : TS) ?_ ?_
 ·refine AW2_reg [0,1,2,3,4,5,6,7] Y (rf Y U24 Y in_3 Y Y (GValue.len v0) (rp Y (u_ld Y Y U3 Y Y (GValue.sub0 v0)) (rp Y (p_bin Y Y Y Y) (rm Y ?_))))
  refine (Classical.em (v0.Kind < (0 : Int))).elim (fun h1 => ?_) (fun h1 => ?_)
  ·iterate 3 (refine rO Y (dT h1) Y ?_)
   exact rp Y (p_pkt Y Y (dT h1) (tb (dT (p := (v0.Kind < (0 : Int)) ∨ (v0.Kind > (4 : Int))) (Or.inl h1)).symm)) (rend Y Y)
  exact rn Y (dF h1) Y (u_fa Y Y U24 Y in_3 nz Y Y (nl (GValue.len v0))) (rn Y (dF h1) Y (u_ld Y Y U3 Y Y (GValue.sub0 v0)) (rn Y (dF h1) Y (p_bin Y Y Y Y) (rp Y (p_pkf Y Y (dF h1) (tb ((or_l (p := v0.Kind < (0 : Int)) (q := v0.Kind > (4 : Int)) h1)))) (rend Y Y))))
 refine if2 H Y (fun h2 H => ?_) (fun h2 H => ?_)
 ·refine sg [0] Y (ra Y (rz [(2, .i (2 : Int))] [] Y (AW2_ret ?_)))
  obtain rfl := se H
  exact ⟨⟨rt, trivial⟩, trivial⟩
 refine as2 [(1, _)] [(1, _)] Y (AW2_skip (AW2_seq (sg [0,1,2,3] Y (rf Y U24 Y in_9 Y Y (GValue.len v0) (rp Y (u_ld Y Y U9 Y Y (GValue.sub3 v0)) (rp Y (p_lent Y U9 Y) ?_))))))
 refine rp Y (p_bin Y Y Y Y) (rz [(1, _), (15, .b (decide ((v0.Text.length : Int) > (40 : Int))))] [(1, _)] Y (if2 H Y (fun h3 H => ?_) (fun h3 H => ?_)))
 ·refine sg [0] Y (ra Y (rz [(2, .i (1 : Int))] [] Y (AW2_ret ?_)))
  obtain rfl := se H
  exact ⟨⟨rt, trivial⟩, trivial⟩
 refine as2 [(1, _)] [(1, _)] Y (AW2_skip (AW2_seq (AW2_seq (AW2_mid (⟨[(1, .q 1 (0)), (48, .b (decide ((((v0.Kind ≠ (4 : Int)) ∧ (v0.Text ≠ [])) ∨ ((v0.Kind ≠ (3 : Int)) ∧ (v0.Bits ≠ (0 : UInt64)))) ∨ (((v0.Kind ≠ (2 : Int)) ∧ (v0.Kind ≠ (1 : Int))) ∧ (v0.Int_ ≠ (0 : Int))))))], [(1, .pure (GValue.cs v0))], 83⟩ : TS) ?_ ?_))))
 ·refine AW2_reg [0,1,2,3,4,5,6,7,8,9,10,11,12,13,14,15,16,17,18,19,20,21,22,23,24,25,26,27,28,29,30,31,32] Y (rf Y U24 Y in_3 Y Y (GValue.len v0) (rp Y (u_ld Y Y U3 Y Y (GValue.sub0 v0)) (rp Y (p_ine Y Y Y) (rm Y ?_))))
  refine (Classical.em (v0.Kind ≠ (4 : Int))).elim (fun h4 => ?_) (fun h4 => ?_)
  ·refine rn Y (dT h4) Y (u_fa Y Y U24 Y in_9 nz Y Y (nl (GValue.len v0))) (rn Y (dT h4) Y (u_ld Y Y U9 Y Y (GValue.sub3 v0)) (rn Y (dT h4) Y (p_sne Y Y Y) (rp Y (p_pkt Y Y (dT h4) (tb ((and_l (p := v0.Kind ≠ (4 : Int)) (q := v0.Text ≠ []) h4)))) (rm Y ?_))))
   refine (Classical.em (v0.Text ≠ [])).elim (fun h5 => ?_) (fun h5 => ?_)
   ·have qq1 := dT (p := (v0.Kind ≠ (4 : Int)) ∧ (v0.Text ≠ [])) ⟨h4, h5⟩
    iterate 4 (refine rO Y qq1 Y ?_)
    iterate 3 (refine r_off2 rfl rfl rfl rfl rfl rfl ?_)
    refine rO Y qq1 Y ?_
    have qq2 := dT (p := ((v0.Kind ≠ (4 : Int)) ∧ (v0.Text ≠ [])) ∨ ((v0.Kind ≠ (3 : Int)) ∧ (v0.Bits ≠ (0 : UInt64)))) (Or.inl ⟨h4, h5⟩)
    refine rp Y (p_pkt Y Y qq1 (tb qq2.symm)) (rm Y ?_)
    iterate 4 (refine rO Y qq2 Y ?_)
    iterate 3 (refine r_off2 rfl rfl rfl rfl rfl rfl ?_)
    iterate 2 (refine rO Y qq2 Y ?_)
    iterate 3 (refine r_off2 rfl rfl rfl rfl rfl rfl ?_)
    exact rO Y qq2 Y (rp Y (p_pkt Y Y qq2 (tb (dT (p := (((v0.Kind ≠ (4 : Int)) ∧ (v0.Text ≠ [])) ∨ ((v0.Kind ≠ (3 : Int)) ∧ (v0.Bits ≠ (0 : UInt64)))) ∨ (((v0.Kind ≠ (2 : Int)) ∧ (v0.Kind ≠ (1 : Int))) ∧ (v0.Int_ ≠ (0 : Int)))) (Or.inl (Or.inl ⟨h4, h5⟩))).symm)) (rend Y Y))
   have qq3 := dF (p := (v0.Kind ≠ (4 : Int)) ∧ (v0.Text ≠ [])) (fun h => h5 h.2)
   refine rn Y qq3 Y (u_fa Y Y U24 Y in_3 nz Y Y (nl (GValue.len v0))) (rn Y qq3 Y (u_ld Y Y U3 Y Y (GValue.sub0 v0)) (rn Y qq3 Y (p_ine Y Y Y) (rn Y qq3 Y (p_move Y Y) ?_)))
   refine (Classical.em (v0.Kind ≠ (3 : Int))).elim (fun h6 => ?_) (fun h6 => ?_)
   ·refine rn Y (dT h6) Y (u_fa Y Y U24 Y in_22 nz Y Y (nl (GValue.len v0))) (rn Y (dT h6) Y (u_ld Y Y U22 Y Y (GValue.sub2 v0)) (rn Y (dT h6) Y (p_u64ne (a := v0.Bits) (b := (0 : UInt64)) Y Y Y) (rn Y qq3 Y (p_pkt Y Y (dT h6) (tb ((and_l (p := v0.Kind ≠ (3 : Int)) (q := v0.Bits ≠ (0 : UInt64)) h6)))) (rp Y (p_pkf Y Y qq3 (tb ((or_l (p := (v0.Kind ≠ (4 : Int)) ∧ (v0.Text ≠ [])) (q := (v0.Kind ≠ (3 : Int)) ∧ (v0.Bits ≠ (0 : UInt64))) (fun h => h5 h.2))))) (rm Y ?_)))))
    refine (Classical.em (v0.Bits ≠ (0 : UInt64))).elim (fun h7 => ?_) (fun h7 => ?_)
    ·have qq4 := dT (p := ((v0.Kind ≠ (4 : Int)) ∧ (v0.Text ≠ [])) ∨ ((v0.Kind ≠ (3 : Int)) ∧ (v0.Bits ≠ (0 : UInt64)))) (Or.inr ⟨h6, h7⟩)
     iterate 4 (refine rO Y qq4 Y ?_)
     iterate 3 (refine r_off2 rfl rfl rfl rfl rfl rfl ?_)
     iterate 2 (refine rO Y qq4 Y ?_)
     iterate 3 (refine r_off2 rfl rfl rfl rfl rfl rfl ?_)
     exact rO Y qq4 Y (rp Y (p_pkt Y Y qq4 (tb (dT (p := (((v0.Kind ≠ (4 : Int)) ∧ (v0.Text ≠ [])) ∨ ((v0.Kind ≠ (3 : Int)) ∧ (v0.Bits ≠ (0 : UInt64)))) ∨ (((v0.Kind ≠ (2 : Int)) ∧ (v0.Kind ≠ (1 : Int))) ∧ (v0.Int_ ≠ (0 : Int)))) (Or.inl (Or.inr ⟨h6, h7⟩))).symm)) (rend Y Y))
    have qq5 := dF (p := ((v0.Kind ≠ (4 : Int)) ∧ (v0.Text ≠ [])) ∨ ((v0.Kind ≠ (3 : Int)) ∧ (v0.Bits ≠ (0 : UInt64)))) (not_or.2 ⟨(fun h => h5 h.2), (fun h => h7 h.2)⟩)
    refine rn Y qq5 Y (u_fa Y Y U24 Y in_3 nz Y Y (nl (GValue.len v0))) (rn Y qq5 Y (u_ld Y Y U3 Y Y (GValue.sub0 v0)) (rn Y qq5 Y (p_ine Y Y Y) (rn Y qq5 Y (p_move Y Y) ?_)))
    refine (Classical.em (v0.Kind ≠ (2 : Int))).elim (fun h8 => ?_) (fun h8 => ?_)
    ·refine rn Y (dT h8) Y (u_fa Y Y U24 Y in_3 nz Y Y (nl (GValue.len v0))) (rn Y (dT h8) Y (u_ld Y Y U3 Y Y (GValue.sub0 v0)) (rn Y (dT h8) Y (p_ine Y Y Y) (rn Y qq5 Y (p_pkt Y Y (dT h8) (tb ((and_l (p := v0.Kind ≠ (2 : Int)) (q := v0.Kind ≠ (1 : Int)) h8)))) (rn Y qq5 Y (p_move Y Y) ?_))))
     refine (Classical.em (v0.Kind ≠ (1 : Int))).elim (fun h9 => ?_) (fun h9 => ?_)
     ·have qq6 := dT (p := (v0.Kind ≠ (2 : Int)) ∧ (v0.Kind ≠ (1 : Int))) ⟨h8, h9⟩
      exact rn Y qq6 Y (u_fa Y Y U24 Y in_3 nz Y Y (nl (GValue.len v0))) (rn Y qq6 Y (u_ld Y Y U3 Y Y (GValue.sub1 v0)) (rn Y qq6 Y (p_ine Y Y Y) (rn Y qq5 Y (p_pkt Y Y qq6 (tb ((and_l (p := (v0.Kind ≠ (2 : Int)) ∧ (v0.Kind ≠ (1 : Int))) (q := v0.Int_ ≠ (0 : Int)) ⟨h8, h9⟩)))) (rp Y (p_pkf Y Y qq5 (tb ((or_l (p := ((v0.Kind ≠ (4 : Int)) ∧ (v0.Text ≠ [])) ∨ ((v0.Kind ≠ (3 : Int)) ∧ (v0.Bits ≠ (0 : UInt64)))) (q := ((v0.Kind ≠ (2 : Int)) ∧ (v0.Kind ≠ (1 : Int))) ∧ (v0.Int_ ≠ (0 : Int))) (not_or.2 ⟨(fun h => h5 h.2), (fun h => h7 h.2)⟩))))) (rend Y Y)))))
     have qq7 := dF (p := (v0.Kind ≠ (2 : Int)) ∧ (v0.Kind ≠ (1 : Int))) (fun h => h9 h.2)
     iterate 3 (refine rO Y qq7 Y ?_)
     exact rn Y qq5 Y (p_pkf Y Y qq7 (tb (dF (p := ((v0.Kind ≠ (2 : Int)) ∧ (v0.Kind ≠ (1 : Int))) ∧ (v0.Int_ ≠ (0 : Int))) (fun x => (fun h => h9 h.2) x.1)).symm)) (rp Y (p_pkf Y Y qq5 (tb ((or_l (p := ((v0.Kind ≠ (4 : Int)) ∧ (v0.Text ≠ [])) ∨ ((v0.Kind ≠ (3 : Int)) ∧ (v0.Bits ≠ (0 : UInt64)))) (q := ((v0.Kind ≠ (2 : Int)) ∧ (v0.Kind ≠ (1 : Int))) ∧ (v0.Int_ ≠ (0 : Int))) (not_or.2 ⟨(fun h => h5 h.2), (fun h => h7 h.2)⟩))))) (rend Y Y))
    iterate 3 (refine rO Y (dF h8) Y ?_)
    refine rn Y qq5 Y (p_pkf Y Y (dF h8) (tb (dF (p := (v0.Kind ≠ (2 : Int)) ∧ (v0.Kind ≠ (1 : Int))) (fun x => h8 x.1)).symm)) (rn Y qq5 Y (p_move Y Y) ?_)
    have qq8 := dF (p := (v0.Kind ≠ (2 : Int)) ∧ (v0.Kind ≠ (1 : Int))) (fun h => h8 h.1)
    iterate 3 (refine rO Y qq8 Y ?_)
    exact rn Y qq5 Y (p_pkf Y Y qq8 (tb (dF (p := ((v0.Kind ≠ (2 : Int)) ∧ (v0.Kind ≠ (1 : Int))) ∧ (v0.Int_ ≠ (0 : Int))) (fun x => (fun h => h8 h.1) x.1)).symm)) (rp Y (p_pkf Y Y qq5 (tb ((or_l (p := ((v0.Kind ≠ (4 : Int)) ∧ (v0.Text ≠ [])) ∨ ((v0.Kind ≠ (3 : Int)) ∧ (v0.Bits ≠ (0 : UInt64)))) (q := ((v0.Kind ≠ (2 : Int)) ∧ (v0.Kind ≠ (1 : Int))) ∧ (v0.Int_ ≠ (0 : Int))) (not_or.2 ⟨(fun h => h5 h.2), (fun h => h7 h.2)⟩))))) (rend Y Y))
   iterate 3 (refine rO Y (dF h6) Y ?_)
   refine rn Y qq3 Y (p_pkf Y Y (dF h6) (tb (dF (p := (v0.Kind ≠ (3 : Int)) ∧ (v0.Bits ≠ (0 : UInt64))) (fun x => h6 x.1)).symm)) (rp Y (p_pkf Y Y qq3 (tb ((or_l (p := (v0.Kind ≠ (4 : Int)) ∧ (v0.Text ≠ [])) (q := (v0.Kind ≠ (3 : Int)) ∧ (v0.Bits ≠ (0 : UInt64))) (fun h => h5 h.2))))) (rm Y ?_))
   have qq9 := dF (p := ((v0.Kind ≠ (4 : Int)) ∧ (v0.Text ≠ [])) ∨ ((v0.Kind ≠ (3 : Int)) ∧ (v0.Bits ≠ (0 : UInt64)))) (not_or.2 ⟨(fun h => h5 h.2), (fun h => h6 h.1)⟩)
   refine rn Y qq9 Y (u_fa Y Y U24 Y in_3 nz Y Y (nl (GValue.len v0))) (rn Y qq9 Y (u_ld Y Y U3 Y Y (GValue.sub0 v0)) (rn Y qq9 Y (p_ine Y Y Y) (rn Y qq9 Y (p_move Y Y) ?_)))
   refine (Classical.em (v0.Kind ≠ (2 : Int))).elim (fun h10 => ?_) (fun h10 => ?_)
   ·refine rn Y (dT h10) Y (u_fa Y Y U24 Y in_3 nz Y Y (nl (GValue.len v0))) (rn Y (dT h10) Y (u_ld Y Y U3 Y Y (GValue.sub0 v0)) (rn Y (dT h10) Y (p_ine Y Y Y) (rn Y qq9 Y (p_pkt Y Y (dT h10) (tb ((and_l (p := v0.Kind ≠ (2 : Int)) (q := v0.Kind ≠ (1 : Int)) h10)))) (rn Y qq9 Y (p_move Y Y) ?_))))
    refine (Classical.em (v0.Kind ≠ (1 : Int))).elim (fun h11 => ?_) (fun h11 => ?_)
    ·have qq10 := dT (p := (v0.Kind ≠ (2 : Int)) ∧ (v0.Kind ≠ (1 : Int))) ⟨h10, h11⟩
     exact rn Y qq10 Y (u_fa Y Y U24 Y in_3 nz Y Y (nl (GValue.len v0))) (rn Y qq10 Y (u_ld Y Y U3 Y Y (GValue.sub1 v0)) (rn Y qq10 Y (p_ine Y Y Y) (rn Y qq9 Y (p_pkt Y Y qq10 (tb ((and_l (p := (v0.Kind ≠ (2 : Int)) ∧ (v0.Kind ≠ (1 : Int))) (q := v0.Int_ ≠ (0 : Int)) ⟨h10, h11⟩)))) (rp Y (p_pkf Y Y qq9 (tb ((or_l (p := ((v0.Kind ≠ (4 : Int)) ∧ (v0.Text ≠ [])) ∨ ((v0.Kind ≠ (3 : Int)) ∧ (v0.Bits ≠ (0 : UInt64)))) (q := ((v0.Kind ≠ (2 : Int)) ∧ (v0.Kind ≠ (1 : Int))) ∧ (v0.Int_ ≠ (0 : Int))) (not_or.2 ⟨(fun h => h5 h.2), (fun h => h6 h.1)⟩))))) (rend Y Y)))))
    have qq11 := dF (p := (v0.Kind ≠ (2 : Int)) ∧ (v0.Kind ≠ (1 : Int))) (fun h => h11 h.2)
    iterate 3 (refine rO Y qq11 Y ?_)
    exact rn Y qq9 Y (p_pkf Y Y qq11 (tb (dF (p := ((v0.Kind ≠ (2 : Int)) ∧ (v0.Kind ≠ (1 : Int))) ∧ (v0.Int_ ≠ (0 : Int))) (fun x => (fun h => h11 h.2) x.1)).symm)) (rp Y (p_pkf Y Y qq9 (tb ((or_l (p := ((v0.Kind ≠ (4 : Int)) ∧ (v0.Text ≠ [])) ∨ ((v0.Kind ≠ (3 : Int)) ∧ (v0.Bits ≠ (0 : UInt64)))) (q := ((v0.Kind ≠ (2 : Int)) ∧ (v0.Kind ≠ (1 : Int))) ∧ (v0.Int_ ≠ (0 : Int))) (not_or.2 ⟨(fun h => h5 h.2), (fun h => h6 h.1)⟩))))) (rend Y Y))
   iterate 3 (refine rO Y (dF h10) Y ?_)
   refine rn Y qq9 Y (p_pkf Y Y (dF h10) (tb (dF (p := (v0.Kind ≠ (2 : Int)) ∧ (v0.Kind ≠ (1 : Int))) (fun x => h10 x.1)).symm)) (rn Y qq9 Y (p_move Y Y) ?_)
   have qq12 := dF (p := (v0.Kind ≠ (2 : Int)) ∧ (v0.Kind ≠ (1 : Int))) (fun h => h10 h.1)
   iterate 3 (refine rO Y qq12 Y ?_)
   exact rn Y qq9 Y (p_pkf Y Y qq12 (tb (dF (p := ((v0.Kind ≠ (2 : Int)) ∧ (v0.Kind ≠ (1 : Int))) ∧ (v0.Int_ ≠ (0 : Int))) (fun x => (fun h => h10 h.1) x.1)).symm)) (rp Y (p_pkf Y Y qq9 (tb ((or_l (p := ((v0.Kind ≠ (4 : Int)) ∧ (v0.Text ≠ [])) ∨ ((v0.Kind ≠ (3 : Int)) ∧ (v0.Bits ≠ (0 : UInt64)))) (q := ((v0.Kind ≠ (2 : Int)) ∧ (v0.Kind ≠ (1 : Int))) ∧ (v0.Int_ ≠ (0 : Int))) (not_or.2 ⟨(fun h => h5 h.2), (fun h => h6 h.1)⟩))))) (rend Y Y))
  iterate 3 (refine rO Y (dF h4) Y ?_)
  refine rp Y (p_pkf Y Y (dF h4) (tb (dF (p := (v0.Kind ≠ (4 : Int)) ∧ (v0.Text ≠ [])) (fun x => h4 x.1)).symm)) (rm Y ?_)
  have qq13 := dF (p := (v0.Kind ≠ (4 : Int)) ∧ (v0.Text ≠ [])) (fun h => h4 h.1)
  refine rn Y qq13 Y (u_fa Y Y U24 Y in_3 nz Y Y (nl (GValue.len v0))) (rn Y qq13 Y (u_ld Y Y U3 Y Y (GValue.sub0 v0)) (rn Y qq13 Y (p_ine Y Y Y) (rn Y qq13 Y (p_move Y Y) ?_)))
  refine (Classical.em (v0.Kind ≠ (3 : Int))).elim (fun h12 => ?_) (fun h12 => ?_)
  ·refine rn Y (dT h12) Y (u_fa Y Y U24 Y in_22 nz Y Y (nl (GValue.len v0))) (rn Y (dT h12) Y (u_ld Y Y U22 Y Y (GValue.sub2 v0)) (rn Y (dT h12) Y (p_u64ne (a := v0.Bits) (b := (0 : UInt64)) Y Y Y) (rn Y qq13 Y (p_pkt Y Y (dT h12) (tb ((and_l (p := v0.Kind ≠ (3 : Int)) (q := v0.Bits ≠ (0 : UInt64)) h12)))) (rp Y (p_pkf Y Y qq13 (tb ((or_l (p := (v0.Kind ≠ (4 : Int)) ∧ (v0.Text ≠ [])) (q := (v0.Kind ≠ (3 : Int)) ∧ (v0.Bits ≠ (0 : UInt64))) (fun h => h4 h.1))))) (rm Y ?_)))))
   refine (Classical.em (v0.Bits ≠ (0 : UInt64))).elim (fun h13 => ?_) (fun h13 => ?_)
   ·have qq14 := dT (p := ((v0.Kind ≠ (4 : Int)) ∧ (v0.Text ≠ [])) ∨ ((v0.Kind ≠ (3 : Int)) ∧ (v0.Bits ≠ (0 : UInt64)))) (Or.inr ⟨h12, h13⟩)
    iterate 4 (refine rO Y qq14 Y ?_)
    iterate 3 (refine r_off2 rfl rfl rfl rfl rfl rfl ?_)
    iterate 2 (refine rO Y qq14 Y ?_)
    iterate 3 (refine r_off2 rfl rfl rfl rfl rfl rfl ?_)
    exact rO Y qq14 Y (rp Y (p_pkt Y Y qq14 (tb (dT (p := (((v0.Kind ≠ (4 : Int)) ∧ (v0.Text ≠ [])) ∨ ((v0.Kind ≠ (3 : Int)) ∧ (v0.Bits ≠ (0 : UInt64)))) ∨ (((v0.Kind ≠ (2 : Int)) ∧ (v0.Kind ≠ (1 : Int))) ∧ (v0.Int_ ≠ (0 : Int)))) (Or.inl (Or.inr ⟨h12, h13⟩))).symm)) (rend Y Y))
   have qq15 := dF (p := ((v0.Kind ≠ (4 : Int)) ∧ (v0.Text ≠ [])) ∨ ((v0.Kind ≠ (3 : Int)) ∧ (v0.Bits ≠ (0 : UInt64)))) (not_or.2 ⟨(fun h => h4 h.1), (fun h => h13 h.2)⟩)
   refine rn Y qq15 Y (u_fa Y Y U24 Y in_3 nz Y Y (nl (GValue.len v0))) (rn Y qq15 Y (u_ld Y Y U3 Y Y (GValue.sub0 v0)) (rn Y qq15 Y (p_ine Y Y Y) (rn Y qq15 Y (p_move Y Y) ?_)))
   refine (Classical.em (v0.Kind ≠ (2 : Int))).elim (fun h14 => ?_) (fun h14 => ?_)
   ·refine rn Y (dT h14) Y (u_fa Y Y U24 Y in_3 nz Y Y (nl (GValue.len v0))) (rn Y (dT h14) Y (u_ld Y Y U3 Y Y (GValue.sub0 v0)) (rn Y (dT h14) Y (p_ine Y Y Y) (rn Y qq15 Y (p_pkt Y Y (dT h14) (tb ((and_l (p := v0.Kind ≠ (2 : Int)) (q := v0.Kind ≠ (1 : Int)) h14)))) (rn Y qq15 Y (p_move Y Y) ?_))))
    refine (Classical.em (v0.Kind ≠ (1 : Int))).elim (fun h15 => ?_) (fun h15 => ?_)
    ·have qq16 := dT (p := (v0.Kind ≠ (2 : Int)) ∧ (v0.Kind ≠ (1 : Int))) ⟨h14, h15⟩
     exact rn Y qq16 Y (u_fa Y Y U24 Y in_3 nz Y Y (nl (GValue.len v0))) (rn Y qq16 Y (u_ld Y Y U3 Y Y (GValue.sub1 v0)) (rn Y qq16 Y (p_ine Y Y Y) (rn Y qq15 Y (p_pkt Y Y qq16 (tb ((and_l (p := (v0.Kind ≠ (2 : Int)) ∧ (v0.Kind ≠ (1 : Int))) (q := v0.Int_ ≠ (0 : Int)) ⟨h14, h15⟩)))) (rp Y (p_pkf Y Y qq15 (tb ((or_l (p := ((v0.Kind ≠ (4 : Int)) ∧ (v0.Text ≠ [])) ∨ ((v0.Kind ≠ (3 : Int)) ∧ (v0.Bits ≠ (0 : UInt64)))) (q := ((v0.Kind ≠ (2 : Int)) ∧ (v0.Kind ≠ (1 : Int))) ∧ (v0.Int_ ≠ (0 : Int))) (not_or.2 ⟨(fun h => h4 h.1), (fun h => h13 h.2)⟩))))) (rend Y Y)))))
    have qq17 := dF (p := (v0.Kind ≠ (2 : Int)) ∧ (v0.Kind ≠ (1 : Int))) (fun h => h15 h.2)
    iterate 3 (refine rO Y qq17 Y ?_)
    exact rn Y qq15 Y (p_pkf Y Y qq17 (tb (dF (p := ((v0.Kind ≠ (2 : Int)) ∧ (v0.Kind ≠ (1 : Int))) ∧ (v0.Int_ ≠ (0 : Int))) (fun x => (fun h => h15 h.2) x.1)).symm)) (rp Y (p_pkf Y Y qq15 (tb ((or_l (p := ((v0.Kind ≠ (4 : Int)) ∧ (v0.Text ≠ [])) ∨ ((v0.Kind ≠ (3 : Int)) ∧ (v0.Bits ≠ (0 : UInt64)))) (q := ((v0.Kind ≠ (2 : Int)) ∧ (v0.Kind ≠ (1 : Int))) ∧ (v0.Int_ ≠ (0 : Int))) (not_or.2 ⟨(fun h => h4 h.1), (fun h => h13 h.2)⟩))))) (rend Y Y))
   iterate 3 (refine rO Y (dF h14) Y ?_)
   refine rn Y qq15 Y (p_pkf Y Y (dF h14) (tb (dF (p := (v0.Kind ≠ (2 : Int)) ∧ (v0.Kind ≠ (1 : Int))) (fun x => h14 x.1)).symm)) (rn Y qq15 Y (p_move Y Y) ?_)
   have qq18 := dF (p := (v0.Kind ≠ (2 : Int)) ∧ (v0.Kind ≠ (1 : Int))) (fun h => h14 h.1)
   iterate 3 (refine rO Y qq18 Y ?_)
   exact rn Y qq15 Y (p_pkf Y Y qq18 (tb (dF (p := ((v0.Kind ≠ (2 : Int)) ∧ (v0.Kind ≠ (1 : Int))) ∧ (v0.Int_ ≠ (0 : Int))) (fun x => (fun h => h14 h.1) x.1)).symm)) (rp Y (p_pkf Y Y qq15 (tb ((or_l (p := ((v0.Kind ≠ (4 : Int)) ∧ (v0.Text ≠ [])) ∨ ((v0.Kind ≠ (3 : Int)) ∧ (v0.Bits ≠ (0 : UInt64)))) (q := ((v0.Kind ≠ (2 : Int)) ∧ (v0.Kind ≠ (1 : Int))) ∧ (v0.Int_ ≠ (0 : Int))) (not_or.2 ⟨(fun h => h4 h.1), (fun h => h13 h.2)⟩))))) (rend Y Y))
  iterate 3 (refine rO Y (dF h12) Y ?_)
  refine rn Y qq13 Y (p_pkf Y Y (dF h12) (tb (dF (p := (v0.Kind ≠ (3 : Int)) ∧ (v0.Bits ≠ (0 : UInt64))) (fun x => h12 x.1)).symm)) (rp Y (p_pkf Y Y qq13 (tb ((or_l (p := (v0.Kind ≠ (4 : Int)) ∧ (v0.Text ≠ [])) (q := (v0.Kind ≠ (3 : Int)) ∧ (v0.Bits ≠ (0 : UInt64))) (fun h => h4 h.1))))) (rm Y ?_))
  have qq19 := dF (p := ((v0.Kind ≠ (4 : Int)) ∧ (v0.Text ≠ [])) ∨ ((v0.Kind ≠ (3 : Int)) ∧ (v0.Bits ≠ (0 : UInt64)))) (not_or.2 ⟨(fun h => h4 h.1), (fun h => h12 h.1)⟩)
  refine rn Y qq19 Y (u_fa Y Y U24 Y in_3 nz Y Y (nl (GValue.len v0))) (rn Y qq19 Y (u_ld Y Y U3 Y Y (GValue.sub0 v0)) (rn Y qq19 Y (p_ine Y Y Y) (rn Y qq19 Y (p_move Y Y) ?_)))
  refine (Classical.em (v0.Kind ≠ (2 : Int))).elim (fun h16 => ?_) (fun h16 => ?_)
  ·refine rn Y (dT h16) Y (u_fa Y Y U24 Y in_3 nz Y Y (nl (GValue.len v0))) (rn Y (dT h16) Y (u_ld Y Y U3 Y Y (GValue.sub0 v0)) (rn Y (dT h16) Y (p_ine Y Y Y) (rn Y qq19 Y (p_pkt Y Y (dT h16) (tb ((and_l (p := v0.Kind ≠ (2 : Int)) (q := v0.Kind ≠ (1 : Int)) h16)))) (rn Y qq19 Y (p_move Y Y) ?_))))
   refine (Classical.em (v0.Kind ≠ (1 : Int))).elim (fun h17 => ?_) (fun h17 => ?_)
   ·have qq20 := dT (p := (v0.Kind ≠ (2 : Int)) ∧ (v0.Kind ≠ (1 : Int))) ⟨h16, h17⟩
    exact rn Y qq20 Y (u_fa Y Y U24 Y in_3 nz Y Y (nl (GValue.len v0))) (rn Y qq20 Y (u_ld Y Y U3 Y Y (GValue.sub1 v0)) (rn Y qq20 Y (p_ine Y Y Y) (rn Y qq19 Y (p_pkt Y Y qq20 (tb ((and_l (p := (v0.Kind ≠ (2 : Int)) ∧ (v0.Kind ≠ (1 : Int))) (q := v0.Int_ ≠ (0 : Int)) ⟨h16, h17⟩)))) (rp Y (p_pkf Y Y qq19 (tb ((or_l (p := ((v0.Kind ≠ (4 : Int)) ∧ (v0.Text ≠ [])) ∨ ((v0.Kind ≠ (3 : Int)) ∧ (v0.Bits ≠ (0 : UInt64)))) (q := ((v0.Kind ≠ (2 : Int)) ∧ (v0.Kind ≠ (1 : Int))) ∧ (v0.Int_ ≠ (0 : Int))) (not_or.2 ⟨(fun h => h4 h.1), (fun h => h12 h.1)⟩))))) (rend Y Y)))))
   have qq21 := dF (p := (v0.Kind ≠ (2 : Int)) ∧ (v0.Kind ≠ (1 : Int))) (fun h => h17 h.2)
   iterate 3 (refine rO Y qq21 Y ?_)
   exact rn Y qq19 Y (p_pkf Y Y qq21 (tb (dF (p := ((v0.Kind ≠ (2 : Int)) ∧ (v0.Kind ≠ (1 : Int))) ∧ (v0.Int_ ≠ (0 : Int))) (fun x => (fun h => h17 h.2) x.1)).symm)) (rp Y (p_pkf Y Y qq19 (tb ((or_l (p := ((v0.Kind ≠ (4 : Int)) ∧ (v0.Text ≠ [])) ∨ ((v0.Kind ≠ (3 : Int)) ∧ (v0.Bits ≠ (0 : UInt64)))) (q := ((v0.Kind ≠ (2 : Int)) ∧ (v0.Kind ≠ (1 : Int))) ∧ (v0.Int_ ≠ (0 : Int))) (not_or.2 ⟨(fun h => h4 h.1), (fun h => h12 h.1)⟩))))) (rend Y Y))
  iterate 3 (refine rO Y (dF h16) Y ?_)
  refine rn Y qq19 Y (p_pkf Y Y (dF h16) (tb (dF (p := (v0.Kind ≠ (2 : Int)) ∧ (v0.Kind ≠ (1 : Int))) (fun x => h16 x.1)).symm)) (rn Y qq19 Y (p_move Y Y) ?_)
  have qq22 := dF (p := (v0.Kind ≠ (2 : Int)) ∧ (v0.Kind ≠ (1 : Int))) (fun h => h16 h.1)
  iterate 3 (refine rO Y qq22 Y ?_)
  exact rn Y qq19 Y (p_pkf Y Y qq22 (tb (dF (p := ((v0.Kind ≠ (2 : Int)) ∧ (v0.Kind ≠ (1 : Int))) ∧ (v0.Int_ ≠ (0 : Int))) (fun x => (fun h => h16 h.1) x.1)).symm)) (rp Y (p_pkf Y Y qq19 (tb ((or_l (p := ((v0.Kind ≠ (4 : Int)) ∧ (v0.Text ≠ [])) ∨ ((v0.Kind ≠ (3 : Int)) ∧ (v0.Bits ≠ (0 : UInt64)))) (q := ((v0.Kind ≠ (2 : Int)) ∧ (v0.Kind ≠ (1 : Int))) ∧ (v0.Int_ ≠ (0 : Int))) (not_or.2 ⟨(fun h => h4 h.1), (fun h => h12 h.1)⟩))))) (rend Y Y))
 refine gen1 (fun t48'1 => (⟨[(1, .q 1 (0)), (48, .b t48'1)], [(1, .pure (GValue.cs v0))], 83⟩ : TS)) H ?_
 intro t48'1 H
 refine AW2_cond Y (fun h18 => ?_) (fun h18 => ?_)
 ·replace H := ite_then h18 H
  refine sg [0] Y (ra Y (rz [(2, .i (3 : Int))] [] Y (AW2_ret ?_)))
  obtain rfl := se H
  exact ⟨⟨rt, trivial⟩, trivial⟩
 replace H := ite_else (ne_true h18) H
 refine as2 [(1, .q 1 (0))] [(1, .pure (GValue.cs v0))] Y (AW2_skip (AW2_seq (bindK H fun o'8 h19 H => AW2_join (fun j'2 : Unit => (⟨[], [], 83⟩ : TS)) (fun r e s' => e = Go.Exit.ret ∧ ResAll Tryd.prog s' [ResultVar.tmp 2] [.i r] ∧ HFits s' []) (x := o'8) ?_ (fun j'2 hy => ?_) (fun y'7 e s' hy hs => ?_))))
 ·clear H
  have H := h19
  clear h19
  refine sg [0,1] Y (rf Y U24 Y in_3 Y Y (GValue.len v0) (rp Y (u_ld Y Y U3 Y Y (GValue.sub0 v0)) (rz [(1, .q 1 (0)), (50, .i v0.Kind)] [(1, .pure (GValue.cs v0))] Y (AW2_block (sg [0,1] Y (rp Y (p_ieq Y Y Y) ?_))))))
  refine ra Y (rz [(1, _), (50, _), (51, .b (decide (v0.Kind = (1 : Int))))] [(1, _)] Y (if2 H Y (fun h20 H => ?_) (fun h20 H => ?_)))
  ·refine AW2_seq (AW2_mid (⟨[(60, .b (decide ((v0.Int_ ≠ (0 : Int)) ∧ (v0.Int_ ≠ (1 : Int)))))], [], 83⟩ : TS) ?_ ?_)
   ·refine AW2_reg [0,1,2,3,4,5,6,7] Y (rf Y U24 Y in_3 Y Y (GValue.len v0) (rp Y (u_ld Y Y U3 Y Y (GValue.sub1 v0)) (rp Y (p_ine Y Y Y) (rm Y ?_))))
    refine (Classical.em (v0.Int_ ≠ (0 : Int))).elim (fun h21 => ?_) (fun h21 => ?_)
    ·exact rn Y (dT h21) Y (u_fa Y Y U24 Y in_3 nz Y Y (nl (GValue.len v0))) (rn Y (dT h21) Y (u_ld Y Y U3 Y Y (GValue.sub1 v0)) (rn Y (dT h21) Y (p_ine Y Y Y) (rp Y (p_pkt Y Y (dT h21) (tb ((and_l (p := v0.Int_ ≠ (0 : Int)) (q := v0.Int_ ≠ (1 : Int)) h21)))) (rend Y Y))))
    iterate 3 (refine rO Y (dF h21) Y ?_)
    exact rp Y (p_pkf Y Y (dF h21) (tb (dF (p := (v0.Int_ ≠ (0 : Int)) ∧ (v0.Int_ ≠ (1 : Int))) (fun x => h21 x.1)).symm)) (rend Y Y)
   refine if2 H Y (fun h22 H => ?_) (fun h22 H => ?_)
   ·refine sg [0] Y (ra Y (rz [(2, .i (3 : Int))] [] Y (AW2_ret ?_)))
    obtain rfl := se H
    exact ⟨Y, ⟨rt, trivial⟩, trivial⟩
   refine as2 [] [] Y (AW2_skip ?_)
   obtain rfl := se H
   exact ⟨Y, Y⟩
  refine sg [0,1] Y (rp Y (p_ieq Y Y Y) (ra Y (rz [(1, _), (50, _), (61, .b (decide (v0.Kind = (3 : Int))))] [(1, _)] Y (if2 H Y (fun h23 H => ?_) (fun h23 H => ?_)))))
  ·refine sg [0,1,2,3] Y (rf Y U24 Y in_22 Y Y (GValue.len v0) (rp Y (u_ld Y Y U22 Y Y (GValue.sub2 v0)) (rp Y (p_frombits (a := v0.Bits) Y Y Y Tryd.func56 Y Y (by kernel_rfl) (by kernel_rfl) Y) (ra Y (rz [(3, .p (AV.f64 v0.Bits))] [] Y (AW2_seq ?_))))))
   refine bindK H fun g'5 h28 H => AW2_mid (⟨[(76, .b g'5)], [], 83⟩ : TS) ?_ ?_
   ·clear H
    have H := h28
    clear h28
    refine AW2_reg [0,1,2,3,4,5,6,7,8,9,10] Y (rm Y (rm Y (rp Y (p_fbin (a := v0.Bits) (b := v0.Bits) (v := fneq v0.Bits v0.Bits) Y Y Y Y) (rm Y (em2 H (fun h25 H => ?_) (fun h25 H => ?_))))))
    ·iterate 3 (refine rO Y h25 Y ?_)
     iterate 2 (refine r_off2 rfl rfl rfl rfl rfl rfl ?_)
     refine rO Y h25 Y (rp Y (p_pkt Y Y h25 (.same _)) (rs [(76, .b true)] [] Y ?_))
     obtain rfl := se H
     exact RunW_nil rfl
    refine rn Y (bfalse h25) Y (p_move Y Y) (rn Y (bfalse h25) Y (p_fbin (a := v0.Bits) (b := (0 : F64)) (v := feq v0.Bits (0 : F64)) Y Y Y Y) (rn Y (bfalse h25) Y (p_move Y Y) (em2 H (fun h26 H => ?_) (fun h26 H => ?_))))
    ·refine rn Y h26 Y (p_move Y Y) (bindK H fun r'4 h27 H => rn Y h26 Y (p_callp Y Y Y Tryd.func57 Y Y (g_math_Signbit_ac h27) ⟨Y, trivial⟩) (rn Y (bfalse h25) Y (p_pkt Y Y h26 (.same _)) (rp Y (p_pkf Y Y (bfalse h25) (.same _)) (rs [(76, .b r'4)] [] Y ?_))))
     obtain rfl := se H
     exact RunW_nil rfl
    iterate 2 (refine rO Y (bfalse h26) Y ?_)
    refine rn Y (bfalse h25) Y (p_pkf Y Y (bfalse h26) (.same _)) (rp Y (p_pkf Y Y (bfalse h25) (.same _)) (rs [(76, .b false)] [] Y ?_))
    obtain rfl := se H
    exact RunW_nil rfl
   refine AW2_cond Y (fun h29 => ?_) (fun h29 => ?_)
   ·replace H := ite_then h29 H
    refine sg [0] Y (ra Y (rz [(2, .i (3 : Int))] [] Y (AW2_ret ?_)))
    obtain rfl := se H
    exact ⟨Y, ⟨rt, trivial⟩, trivial⟩
   replace H := ite_else (ne_true h29) H
   refine as2 [] [] Y (AW2_skip ?_)
   obtain rfl := se H
   exact ⟨Y, Y⟩
  refine sg [0,1] Y (rp Y (p_ieq Y Y Y) (ra Y (rz [(1, _), (77, .b (decide (v0.Kind = (4 : Int))))] [(1, _)] Y (if2 H Y (fun h31 H => ?_) (fun h31 H => ?_)))))
  ·refine sg [0,1,2,3] Y (rf Y U24 Y in_9 Y Y (GValue.len v0) (rp Y (u_ld Y Y U9 Y Y (GValue.sub3 v0)) (bindK H fun r'6 h32 H => rp Y (p_callp Y Y Y Tryd.func43 Y Y (g_utf8_ValidString_ac h32) ⟨Y, trivial⟩) (rp Y (p_not Y Y) (rz [(82, .b (!r'6))] [] Y ?_)))))
   refine AW2_cond Y (fun h33 => ?_) (fun h33 => ?_)
   ·replace H := ite_then h33 H
    refine sg [0] Y (ra Y (rz [(2, .i (3 : Int))] [] Y (AW2_ret ?_)))
    obtain rfl := se H
    exact ⟨Y, ⟨rt, trivial⟩, trivial⟩
   replace H := ite_else (ne_true h33) H
   refine as2 [] [] Y (AW2_skip ?_)
   obtain rfl := se H
   exact ⟨Y, Y⟩
  refine as2 [] [] Y (AW2_skip ?_)
  obtain rfl := se H
  exact ⟨Y, Y⟩
 ·subst hy
  refine sg [0] Y (ra Y (rz [(2, .i (0 : Int))] [] Y (AW2_ret ?_)))
  obtain rfl := se H
  exact ⟨⟨rt, trivial⟩, trivial⟩
 subst hy
 obtain ⟨rfl, hs⟩ := hs
 obtain rfl := se H
 exact ⟨hs.1, hs.2⟩
noncomputable def g_lex_sign (t0 : List UInt8) : Option (Bool) :=
  ((if t0 = [40] then some (decide (t0 = [40])) else (if t0 = [41] then some (decide (t0 = [41])) else (if t0 = [44] then some (decide (t0 = [44])) else (if t0 = [46] then some (decide (t0 = [46])) else (if t0 = [61] then some (decide (t0 = [61])) else (if t0 = [60] then some (decide (t0 = [60])) else (if t0 = [62] then some (decide (t0 = [62])) else (if t0 = [60, 61] then some (decide (t0 = [60, 61])) else (if t0 = [62, 61] then some (decide (t0 = [62, 61])) else (if t0 = [60, 62] then some (decide (t0 = [60, 62])) else (if t0 = [43] then some (decide (t0 = [43])) else (if t0 = [45] then some (decide (t0 = [45])) else (if t0 = [42] then some (decide (t0 = [42])) else (if t0 = [47] then some (decide (t0 = [47])) else (if t0 = [124, 124] then some (decide (t0 = [124, 124])) else some (decide (t0 = [59])))))))))))))))))).bind fun j'1 => (if j'1 = true then some true else some false)
set_option maxHeartbeats 4000000 in
set_option maxRecDepth 100000 in
theorem g_lex_sign_ac {t0 : List UInt8} {r : Bool} (H : g_lex_sign t0 = some r) : ACp Tryd.prog 75 [(AV.txt t0)] (AV.bool r) := by
 refine ACp_of (AC2_of_body (vs := [.b r]) Tryd.func75 Y Y (lb Y) Y ?_) (fun _ => .same _)
 unfold g_lex_sign at H
 refine as2 [(0, .t t0)] [] Y (sg [0] Y (ra Y (rz [(0, _)] [] Y (AW2_seq (sg [0] Y (rm Y ?_))))))
 refine rz [(3, .t t0)] [] Y (AW2_block (AW2_seq (bindK H fun j'1 h1 H => AW2_mid (⟨[(4, .b j'1)], [], 21⟩ : TS) ?_ ?_)))
 ·clear H
  have H := h1
  clear h1
  refine sg [0,1] Y (rp Y (p_seq Y Y Y) (ra Y (rz [(3, .t t0), (4, .b (decide (t0 = [40])))] [] Y (if2 H Y (fun h2 H => ?_) (fun h2 H => ?_)))))
  ·refine as2 [(4, _)] [] Y (AW2_skip ?_)
   obtain rfl := se H
   exact rfl
  refine sg [0,1] Y (rp Y (p_seq Y Y Y) (ra Y (rz [(3, _), (4, .b (decide (t0 = [41])))] [] Y (if2 H Y (fun h3 H => ?_) (fun h3 H => ?_)))))
  ·refine as2 [(4, _)] [] Y (AW2_skip ?_)
   obtain rfl := se H
   exact rfl
  refine sg [0,1] Y (rp Y (p_seq Y Y Y) (ra Y (rz [(3, _), (4, .b (decide (t0 = [44])))] [] Y (if2 H Y (fun h4 H => ?_) (fun h4 H => ?_)))))
  ·refine as2 [(4, _)] [] Y (AW2_skip ?_)
   obtain rfl := se H
   exact rfl
  refine sg [0,1] Y (rp Y (p_seq Y Y Y) (ra Y (rz [(3, _), (4, .b (decide (t0 = [46])))] [] Y (if2 H Y (fun h5 H => ?_) (fun h5 H => ?_)))))
  ·refine as2 [(4, _)] [] Y (AW2_skip ?_)
   obtain rfl := se H
   exact rfl
  refine sg [0,1] Y (rp Y (p_seq Y Y Y) (ra Y (rz [(3, _), (4, .b (decide (t0 = [61])))] [] Y (if2 H Y (fun h6 H => ?_) (fun h6 H => ?_)))))
  ·refine as2 [(4, _)] [] Y (AW2_skip ?_)
   obtain rfl := se H
   exact rfl
  refine sg [0,1] Y (rp Y (p_seq Y Y Y) (ra Y (rz [(3, _), (4, .b (decide (t0 = [60])))] [] Y (if2 H Y (fun h7 H => ?_) (fun h7 H => ?_)))))
  ·refine as2 [(4, _)] [] Y (AW2_skip ?_)
   obtain rfl := se H
   exact rfl
  refine sg [0,1] Y (rp Y (p_seq Y Y Y) (ra Y (rz [(3, _), (4, .b (decide (t0 = [62])))] [] Y (if2 H Y (fun h8 H => ?_) (fun h8 H => ?_)))))
  ·refine as2 [(4, _)] [] Y (AW2_skip ?_)
   obtain rfl := se H
   exact rfl
  refine sg [0,1] Y (rp Y (p_seq Y Y Y) (ra Y (rz [(3, _), (4, .b (decide (t0 = [60,61])))] [] Y (if2 H Y (fun h9 H => ?_) (fun h9 H => ?_)))))
  ·refine as2 [(4, _)] [] Y (AW2_skip ?_)
   obtain rfl := se H
   exact rfl
  refine sg [0,1] Y (rp Y (p_seq Y Y Y) (ra Y (rz [(3, _), (4, .b (decide (t0 = [62,61])))] [] Y (if2 H Y (fun h10 H => ?_) (fun h10 H => ?_)))))
  ·refine as2 [(4, _)] [] Y (AW2_skip ?_)
   obtain rfl := se H
   exact rfl
  refine sg [0,1] Y (rp Y (p_seq Y Y Y) (ra Y (rz [(3, _), (4, .b (decide (t0 = [60,62])))] [] Y (if2 H Y (fun h11 H => ?_) (fun h11 H => ?_)))))
  ·refine as2 [(4, _)] [] Y (AW2_skip ?_)
   obtain rfl := se H
   exact rfl
  refine sg [0,1] Y (rp Y (p_seq Y Y Y) (ra Y (rz [(3, _), (4, .b (decide (t0 = [43])))] [] Y (if2 H Y (fun h12 H => ?_) (fun h12 H => ?_)))))
  ·refine as2 [(4, _)] [] Y (AW2_skip ?_)
   obtain rfl := se H
   exact rfl
  refine sg [0,1] Y (rp Y (p_seq Y Y Y) (ra Y (rz [(3, _), (4, .b (decide (t0 = [45])))] [] Y (if2 H Y (fun h13 H => ?_) (fun h13 H => ?_)))))
  ·refine as2 [(4, _)] [] Y (AW2_skip ?_)
   obtain rfl := se H
   exact rfl
  refine sg [0,1] Y (rp Y (p_seq Y Y Y) (ra Y (rz [(3, _), (4, .b (decide (t0 = [42])))] [] Y (if2 H Y (fun h14 H => ?_) (fun h14 H => ?_)))))
  ·refine as2 [(4, _)] [] Y (AW2_skip ?_)
   obtain rfl := se H
   exact rfl
  refine sg [0,1] Y (rp Y (p_seq Y Y Y) (ra Y (rz [(3, _), (4, .b (decide (t0 = [47])))] [] Y (if2 H Y (fun h15 H => ?_) (fun h15 H => ?_)))))
  ·refine as2 [(4, _)] [] Y (AW2_skip ?_)
   obtain rfl := se H
   exact rfl
  refine sg [0,1] Y (rp Y (p_seq Y Y Y) (ra Y (rz [(3, _), (4, .b (decide (t0 = [124,124])))] [] Y (if2 H Y (fun h16 H => ?_) (fun h16 H => ?_)))))
  ·refine as2 [(4, _)] [] Y (AW2_skip ?_)
   obtain rfl := se H
   exact rfl
  refine AW2_reg [0,1] Y (rp Y (p_seq Y Y Y) (ra Y (rz [(4, .b (decide (t0 = [59])))] [] Y ?_)))
  obtain rfl := se H
  exact rfl
 refine AW2_cond Y (fun h17 => ?_) (fun h17 => ?_)
 ·replace H := ite_then h17 H
  refine sg [0] Y (ra Y (rz [(2, .b true)] [] Y (AW2_ret ?_)))
  obtain rfl := se H
  exact ⟨⟨rt, trivial⟩, trivial⟩
 replace H := ite_else (ne_true h17) H
 refine as2 [] [] Y (AW2_skip (sg [0] Y (ra Y (rz [(2, .b false)] [] Y (AW2_ret ?_)))))
 obtain rfl := se H
 exact ⟨⟨rt, trivial⟩, trivial⟩
noncomputable def g_lex_all_i0_l0 (s0 : List UInt8) : Int → Option (Int ⊕ (Bool ⊕ Unit))
  | t8_0 => (if t8_0 < (s0.length : Int) then if 0 ≤ t8_0 ∧ t8_0 < (s0.length : Int) then (g_lex_inName (lrd s0 t8_0.toNat)).bind fun r'1 => (if (!r'1) = true then some (.inr (.inl false)) else some (.inl (w64 (t8_0 + (1 : Int))))) else none else some (.inr (.inr ())))
noncomputable def g_lex_all_i0 (s0 : List UInt8) : Option (Bool) :=
  (loopO (g_lex_all_i0_l0 s0) (0 : Int)).bind fun o'5 => match o'5 with | .inl y'6 => some y'6 | .inr (y'7) => some (decide (s0 ≠ []))
set_option maxHeartbeats 4000000 in
set_option maxRecDepth 100000 in
theorem g_lex_all_i0_ac {s0 : List UInt8} {r : Bool} (H : g_lex_all_i0 s0 = some r) : ACp Tryd.prog 71 [(AV.txt s0), .clo 72 []] (AV.bool r) := by
 refine ACp_of (AC2_of_body (vs := [.b r]) Tryd.func71 Y Y (lb Y) Y ?_) (fun _ => .same _)
 unfold g_lex_all_i0 at H
 refine AW2_st [(0, .t s0), (1, .clo 72 [])] [] Y ⟨TLes.same _, (fun _ => .same _), trivial⟩ trivial (sg [0] Y (ra Y (RunW_st [(0, .t s0), (1, .clo 72 [])] [] Y ⟨TLes.same _, (fun _ => .same _), trivial⟩ trivial (RunW_nil (AW2_seq (sg [0,1,2] Y ?_))))))
 refine rm Y (rp Y (p_lent Y U9 Y) (rm Y (RunW_st [(0, .t s0), (1, .clo 72 []), (7, .i (s0.length : Int)), (8, .i (0 : Int))] [] Y ⟨TLes.same _, (fun _ => .same _), TLes.same _, TLes.same _, trivial⟩ trivial (RunW_nil (AW2_block (AW2_st [(0, .t s0), (1, .clo 72 []), (7, .i (s0.length : Int)), (8, .i (0 : Int))] [] Y ⟨TLes.same _, (fun _ => .same _), TLes.same _, TLes.same _, trivial⟩ trivial ?_))))))
 refine bindK H fun o'5 h5 H => AW2_loopO (fun a'2 : Int => (⟨[(0, .t s0), (1, .clo 72 []), (7, .i (s0.length : Int)), (8, .i a'2)], [], 20⟩ : TS)) (fun (o : Bool ⊕ Unit) e s' => match o with | .inl y'3 => e = Go.Exit.ret ∧ ResAll Tryd.prog s' [ResultVar.tmp 4] [.b y'3] ∧ HFits s' [] | .inr (y'4) => e = Go.Exit.exit 0 ∧ s' = (⟨[(0, .t s0)], [], 20⟩ : TS)) h5 Y (fun t8_0 x hx => ?_) (fun e s' hs => ?_)
 ·clear H
  have H := hx
  clear hx
  unfold g_lex_all_i0_l0 at H
  refine sg [0] Y (rp Y (p_bin Y Y Y Y) (RunW_st [(0, .t s0), (1, .clo 72 []), (7, .i (s0.length : Int)), (8, .i t8_0), (9, .b (decide (t8_0 < (s0.length : Int))))] [] Y ⟨TLes.same _, (fun _ => .same _), TLes.same _, TLes.same _, TLes.same _, trivial⟩ trivial (RunW_nil (AW2_seq (if2 H Y (fun h1 H => ?_) (fun h1 H => ?_))))))
  ·refine AW2_st [(0, .t s0), (1, .clo 72 []), (7, .i (s0.length : Int)), (8, .i t8_0)] [] Y ⟨TLes.same _, (fun _ => .same _), TLes.same _, TLes.same _, trivial⟩ trivial (AW2_skip (AW2_seq (AW2_block (sg [0,1] Y (rm Y (ra Y ?_))))))
   refine RunW_st [(0, .t s0), (1, .clo 72 []), (5, .i t8_0), (7, .i (s0.length : Int)), (8, .i t8_0)] [] Y ⟨TLes.same _, (fun _ => .same _), TLes.same _, TLes.same _, TLes.same _, trivial⟩ trivial (RunW_nil (sg [0,1,2,3,4,5] Y (rm Y (rm Y (rm Y (chkK H fun h2 H => ?_))))))
   refine rp Y (p_ixt Y U9 Y Y (ixe h2) (lrd_get (ixn h2))) (bindK H fun r'1 h3 H => rp Y (p_callp Y Y Y Tryd.func72 Y Y (g_lex_inName_ac h3) ⟨Y, trivial⟩) (rp Y (p_not Y Y) (RunW_st [(0, .t s0), (1, .clo 72 []), (7, .i (s0.length : Int)), (8, .i t8_0), (16, .b (!r'1))] [] Y ⟨TLes.same _, (fun _ => .same _), TLes.same _, TLes.same _, TLes.same _, trivial⟩ trivial (RunW_nil (AW2_cond Y (fun h4 => ?_) (fun h4 => ?_))))))
   ·replace H := ite_then h4 H
    refine sg [0] Y (ra Y (rz [(4, .b false)] [] Y (AW2_ret ?_)))
    obtain rfl := se H
    exact ⟨Y, ⟨rt, trivial⟩, trivial⟩
   replace H := ite_else (ne_true h4) H
   refine AW2_st [(0, .t s0), (1, .clo 72 []), (7, .i (s0.length : Int)), (8, .i t8_0)] [] Y ⟨TLes.same _, (fun _ => .same _), TLes.same _, TLes.same _, trivial⟩ trivial (AW2_skip (AW2_reg [0,1] Y (rp Y (p_bin Y Y Y Y) (rm Y (RunW_st [(0, .t s0), (1, .clo 72 []), (7, .i (s0.length : Int)), (8, .i (w64 (t8_0 + (1 : Int))))] [] Y ⟨TLes.same _, (fun _ => .same _), TLes.same _, TLes.same _, trivial⟩ trivial (RunW_nil ?_))))))
   obtain rfl := se H
   exact ⟨Y, Y⟩
  refine as2 [(0, .t s0)] [] Y (AW2_exit (thenQ2_exit ?_))
  obtain rfl := se H
  exact ⟨Y, Y⟩
 rcases o'5 with y'6 | y'7
 ·obtain ⟨rfl, hs⟩ := hs
  refine ⟨by simp, ?_⟩
  obtain rfl := se H
  exact ⟨hs.1, hs.2⟩
 obtain ⟨rfl, rfl⟩ := hs
 refine ⟨by simp, ?_⟩
 refine blockQ2_exit (sg [0,1,2] Y (rm Y (rp Y (p_sne Y Y Y) (ra Y (rz [(4, .b (decide (s0 ≠ [])))] [] Y (AW2_ret ?_))))))
 obtain rfl := se H
 exact ⟨⟨rt, trivial⟩, trivial⟩
noncomputable def g_lex_all_i1_l0 (s0 : List UInt8) : Int → Option (Int ⊕ (Bool ⊕ Unit))
  | t8_0 => (if t8_0 < (s0.length : Int) then if 0 ≤ t8_0 ∧ t8_0 < (s0.length : Int) then (g_lex_great (lrd s0 t8_0.toNat)).bind fun r'1 => (if (!r'1) = true then some (.inr (.inl false)) else some (.inl (w64 (t8_0 + (1 : Int))))) else none else some (.inr (.inr ())))
noncomputable def g_lex_all_i1 (s0 : List UInt8) : Option (Bool) :=
  (loopO (g_lex_all_i1_l0 s0) (0 : Int)).bind fun o'5 => match o'5 with | .inl y'6 => some y'6 | .inr (y'7) => some (decide (s0 ≠ []))
set_option maxHeartbeats 4000000 in
set_option maxRecDepth 100000 in
theorem g_lex_all_i1_ac {s0 : List UInt8} {r : Bool} (H : g_lex_all_i1 s0 = some r) : ACp Tryd.prog 71 [(AV.txt s0), .clo 74 []] (AV.bool r) := by
 refine ACp_of (AC2_of_body (vs := [.b r]) Tryd.func71 Y Y (lb Y) Y ?_) (fun _ => .same _)
 unfold g_lex_all_i1 at H
 refine AW2_st [(0, .t s0), (1, .clo 74 [])] [] Y ⟨TLes.same _, (fun _ => .same _), trivial⟩ trivial (sg [0] Y (ra Y (RunW_st [(0, .t s0), (1, .clo 74 [])] [] Y ⟨TLes.same _, (fun _ => .same _), trivial⟩ trivial (RunW_nil (AW2_seq (sg [0,1,2] Y ?_))))))
 refine rm Y (rp Y (p_lent Y U9 Y) (rm Y (RunW_st [(0, .t s0), (1, .clo 74 []), (7, .i (s0.length : Int)), (8, .i (0 : Int))] [] Y ⟨TLes.same _, (fun _ => .same _), TLes.same _, TLes.same _, trivial⟩ trivial (RunW_nil (AW2_block (AW2_st [(0, .t s0), (1, .clo 74 []), (7, .i (s0.length : Int)), (8, .i (0 : Int))] [] Y ⟨TLes.same _, (fun _ => .same _), TLes.same _, TLes.same _, trivial⟩ trivial ?_))))))
 refine bindK H fun o'5 h5 H => AW2_loopO (fun a'2 : Int => (⟨[(0, .t s0), (1, .clo 74 []), (7, .i (s0.length : Int)), (8, .i a'2)], [], 20⟩ : TS)) (fun (o : Bool ⊕ Unit) e s' => match o with | .inl y'3 => e = Go.Exit.ret ∧ ResAll Tryd.prog s' [ResultVar.tmp 4] [.b y'3] ∧ HFits s' [] | .inr (y'4) => e = Go.Exit.exit 0 ∧ s' = (⟨[(0, .t s0)], [], 20⟩ : TS)) h5 Y (fun t8_0 x hx => ?_) (fun e s' hs => ?_)
 ·clear H
  have H := hx
  clear hx
  unfold g_lex_all_i1_l0 at H
  refine sg [0] Y (rp Y (p_bin Y Y Y Y) (RunW_st [(0, .t s0), (1, .clo 74 []), (7, .i (s0.length : Int)), (8, .i t8_0), (9, .b (decide (t8_0 < (s0.length : Int))))] [] Y ⟨TLes.same _, (fun _ => .same _), TLes.same _, TLes.same _, TLes.same _, trivial⟩ trivial (RunW_nil (AW2_seq (if2 H Y (fun h1 H => ?_) (fun h1 H => ?_))))))
  ·refine AW2_st [(0, .t s0), (1, .clo 74 []), (7, .i (s0.length : Int)), (8, .i t8_0)] [] Y ⟨TLes.same _, (fun _ => .same _), TLes.same _, TLes.same _, trivial⟩ trivial (AW2_skip (AW2_seq (AW2_block (sg [0,1] Y (rm Y (ra Y ?_))))))
   refine RunW_st [(0, .t s0), (1, .clo 74 []), (5, .i t8_0), (7, .i (s0.length : Int)), (8, .i t8_0)] [] Y ⟨TLes.same _, (fun _ => .same _), TLes.same _, TLes.same _, TLes.same _, trivial⟩ trivial (RunW_nil (sg [0,1,2,3,4,5] Y (rm Y (rm Y (rm Y (chkK H fun h2 H => ?_))))))
   refine rp Y (p_ixt Y U9 Y Y (ixe h2) (lrd_get (ixn h2))) (bindK H fun r'1 h3 H => rp Y (p_callp Y Y Y Tryd.func74 Y Y (g_lex_great_ac h3) ⟨Y, trivial⟩) (rp Y (p_not Y Y) (RunW_st [(0, .t s0), (1, .clo 74 []), (7, .i (s0.length : Int)), (8, .i t8_0), (16, .b (!r'1))] [] Y ⟨TLes.same _, (fun _ => .same _), TLes.same _, TLes.same _, TLes.same _, trivial⟩ trivial (RunW_nil (AW2_cond Y (fun h4 => ?_) (fun h4 => ?_))))))
   ·replace H := ite_then h4 H
    refine sg [0] Y (ra Y (rz [(4, .b false)] [] Y (AW2_ret ?_)))
    obtain rfl := se H
    exact ⟨Y, ⟨rt, trivial⟩, trivial⟩
   replace H := ite_else (ne_true h4) H
   refine AW2_st [(0, .t s0), (1, .clo 74 []), (7, .i (s0.length : Int)), (8, .i t8_0)] [] Y ⟨TLes.same _, (fun _ => .same _), TLes.same _, TLes.same _, trivial⟩ trivial (AW2_skip (AW2_reg [0,1] Y (rp Y (p_bin Y Y Y Y) (rm Y (RunW_st [(0, .t s0), (1, .clo 74 []), (7, .i (s0.length : Int)), (8, .i (w64 (t8_0 + (1 : Int))))] [] Y ⟨TLes.same _, (fun _ => .same _), TLes.same _, TLes.same _, trivial⟩ trivial (RunW_nil ?_))))))
   obtain rfl := se H
   exact ⟨Y, Y⟩
  refine as2 [(0, .t s0)] [] Y (AW2_exit (thenQ2_exit ?_))
  obtain rfl := se H
  exact ⟨Y, Y⟩
 rcases o'5 with y'6 | y'7
 ·obtain ⟨rfl, hs⟩ := hs
  refine ⟨by simp, ?_⟩
  obtain rfl := se H
  exact ⟨hs.1, hs.2⟩
 obtain ⟨rfl, rfl⟩ := hs
 refine ⟨by simp, ?_⟩
 refine blockQ2_exit (sg [0,1,2] Y (rm Y (rp Y (p_sne Y Y Y) (ra Y (rz [(4, .b (decide (s0 ≠ [])))] [] Y (AW2_ret ?_))))))
 obtain rfl := se H
 exact ⟨⟨rt, trivial⟩, trivial⟩
noncomputable def g_lex_Check (t0 : GToken) : Option (Int) :=
  (if (t0.Kind < (1 : Int)) ∨ (t0.Kind > (6 : Int)) then some (2 : Int) else letO (decide (((t0.Kind = (4 : Int)) ∧ ((t0.Text.length : Int) > (40 : Int))) ∨ (((t0.Kind = (1 : Int)) ∨ (t0.Kind = (2 : Int))) ∧ ((t0.Text.length : Int) > (8 : Int))))) fun t36'1 => (if t36'1 = true then some (1 : Int) else letO (decide ((((t0.Kind ≠ (3 : Int)) ∧ (t0.Int_ ≠ (0 : Int))) ∨ ((t0.Kind ≠ (5 : Int)) ∧ (t0.Bits ≠ (0 : UInt64)))) ∨ (((t0.Kind = (3 : Int)) ∨ (t0.Kind = (5 : Int))) ∧ (t0.Text ≠ [])))) fun t69'2 => (if t69'2 = true then some (3 : Int) else ((if t0.Kind = (1 : Int) then ((g_lex_all_i0 t0.Text).bind fun r'5 => (if r'5 = true then if 0 < t0.Text.length then (g_lex_small (lrd t0.Text 0)).bind fun r'6 => some r'6 else none else some false)).bind fun g'7 => some g'7 else (if t0.Kind = (2 : Int) then (g_lex_all_i1 t0.Text).bind fun r'8 => some r'8 else (if t0.Kind = (3 : Int) then some (decide (t0.Int_ ≥ (0 : Int))) else (if t0.Kind = (4 : Int) then (g_utf8_ValidString t0.Text).bind fun r'9 => some r'9 else (if t0.Kind = (5 : Int) then (g_value_Check ({ { GValue.zero with Kind := (3 : Int) } with Bits := t0.Bits })).bind fun r'10 => some (decide (r'10 = (0 : Int))) else (if t0.Kind = (6 : Int) then (g_lex_sign t0.Text).bind fun r'11 => some r'11 else some true))))))).bind fun j'3 => (if (!j'3) = true then some (3 : Int) else some (0 : Int)))))
set_option maxHeartbeats 4000000 in
set_option maxRecDepth 100000 in
theorem g_lex_Check_ac {t0 : GToken} {r : Int} (H : g_lex_Check t0 = some r) : ACp Tryd.prog 52 [(.agg (GToken.cs t0))] (AV.int r) := by
 refine ACp_of (AC2_of_body (vs := [.i r]) Tryd.func52 Y Y (lb Y) Y ?_) (fun _ => .same _)
 unfold g_lex_Check at H
 refine as2 [(0, .g (GToken.cs t0))] [] Y (sg [0,1] Y (rq Y (MakeD.opD (n_box 1 Y Y) Y Y Y Y) (ra Y (rz [(1, .q 1 (0))] [(1, .pure (GToken.cs t0))] Y (AW2_seq (AW2_seq ?_))))))
 refine AW2_mid (⟨[(1, .q 1 (0)), (11, .b (decide ((t0.Kind < (1 : Int)) ∨ (t0.Kind > (6 : Int)))))], [(1, .pure (GToken.cs t0))], 112⟩ : TS) ?_ ?_
 ·refine AW2_reg [0,1,2,3,4,5,6,7] Y (rf Y U86 Y in_3 Y Y (GToken.len t0) (rp Y (u_ld Y Y U3 Y Y (GToken.sub0 t0)) (rp Y (p_bin Y Y Y Y) (rm Y ?_))))
  refine (Classical.em (t0.Kind < (1 : Int))).elim (fun h1 => ?_) (fun h1 => ?_)
  ·iterate 3 (refine rO Y (dT h1) Y ?_)
   exact rp Y (p_pkt Y Y (dT h1) (tb (dT (p := (t0.Kind < (1 : Int)) ∨ (t0.Kind > (6 : Int))) (Or.inl h1)).symm)) (rend Y Y)
  exact rn Y (dF h1) Y (u_fa Y Y U86 Y in_3 nz Y Y (nl (GToken.len t0))) (rn Y (dF h1) Y (u_ld Y Y U3 Y Y (GToken.sub0 t0)) (rn Y (dF h1) Y (p_bin Y Y Y Y) (rp Y (p_pkf Y Y (dF h1) (tb ((or_l (p := t0.Kind < (1 : Int)) (q := t0.Kind > (6 : Int)) h1)))) (rend Y Y))))
 refine if2 H Y (fun h2 H => ?_) (fun h2 H => ?_)
 ·refine sg [0] Y (ra Y (rz [(2, .i (2 : Int))] [] Y (AW2_ret ?_)))
  obtain rfl := se H
  exact ⟨⟨rt, trivial⟩, trivial⟩
 refine as2 [(1, _)] [(1, _)] Y (AW2_skip (AW2_seq (AW2_seq (AW2_mid (⟨[(1, .q 1 (0)), (36, .b (decide (((t0.Kind = (4 : Int)) ∧ ((t0.Text.length : Int) > (40 : Int))) ∨ (((t0.Kind = (1 : Int)) ∨ (t0.Kind = (2 : Int))) ∧ ((t0.Text.length : Int) > (8 : Int))))))], [(1, .pure (GToken.cs t0))], 112⟩ : TS) ?_ ?_))))
 ·refine AW2_reg [0,1,2,3,4,5,6,7,8,9,10,11,12,13,14,15,16,17,18,19,20,21,22,23,24] Y (rf Y U86 Y in_3 Y Y (GToken.len t0) (rp Y (u_ld Y Y U3 Y Y (GToken.sub0 t0)) (rp Y (p_ieq Y Y Y) (rm Y ?_))))
  refine (Classical.em (t0.Kind = (4 : Int))).elim (fun h3 => ?_) (fun h3 => ?_)
  ·refine rn Y (dT h3) Y (u_fa Y Y U86 Y in_9 nz Y Y (nl (GToken.len t0))) (rn Y (dT h3) Y (u_ld Y Y U9 Y Y (GToken.sub1 t0)) (rn Y (dT h3) Y (p_lent Y U9 Y) (rn Y (dT h3) Y (p_bin Y Y Y Y) (rp Y (p_pkt Y Y (dT h3) (tb ((and_l (p := t0.Kind = (4 : Int)) (q := (t0.Text.length : Int) > (40 : Int)) h3)))) (rm Y ?_)))))
   refine (Classical.em ((t0.Text.length : Int) > (40 : Int))).elim (fun h4 => ?_) (fun h4 => ?_)
   ·have qq1 := dT (p := (t0.Kind = (4 : Int)) ∧ ((t0.Text.length : Int) > (40 : Int))) ⟨h3, h4⟩
    iterate 4 (refine rO Y qq1 Y ?_)
    iterate 3 (refine r_off2 rfl rfl rfl rfl rfl rfl ?_)
    iterate 2 (refine rO Y qq1 Y ?_)
    iterate 4 (refine r_off2 rfl rfl rfl rfl rfl rfl ?_)
    exact rO Y qq1 Y (rp Y (p_pkt Y Y qq1 (tb (dT (p := ((t0.Kind = (4 : Int)) ∧ ((t0.Text.length : Int) > (40 : Int))) ∨ (((t0.Kind = (1 : Int)) ∨ (t0.Kind = (2 : Int))) ∧ ((t0.Text.length : Int) > (8 : Int)))) (Or.inl ⟨h3, h4⟩)).symm)) (rend Y Y))
   have qq2 := dF (p := (t0.Kind = (4 : Int)) ∧ ((t0.Text.length : Int) > (40 : Int))) (fun h => h4 h.2)
   refine rn Y qq2 Y (u_fa Y Y U86 Y in_3 nz Y Y (nl (GToken.len t0))) (rn Y qq2 Y (u_ld Y Y U3 Y Y (GToken.sub0 t0)) (rn Y qq2 Y (p_ieq Y Y Y) (rn Y qq2 Y (p_move Y Y) ?_)))
   refine (Classical.em (t0.Kind = (1 : Int))).elim (fun h5 => ?_) (fun h5 => ?_)
   ·iterate 3 (refine rO Y (dT h5) Y ?_)
    have qq3 := dT (p := (t0.Kind = (1 : Int)) ∨ (t0.Kind = (2 : Int))) (Or.inl h5)
    refine rn Y qq2 Y (p_pkt Y Y (dT h5) (tb qq3.symm)) (rn Y qq2 Y (p_move Y Y) (rn Y qq3 Y (u_fa Y Y U86 Y in_9 nz Y Y (nl (GToken.len t0))) (rn Y qq3 Y (u_ld Y Y U9 Y Y (GToken.sub1 t0)) (rn Y qq3 Y (p_lent Y U9 Y) (rn Y qq3 Y (p_bin Y Y Y Y) (rn Y qq2 Y (p_pkt Y Y qq3 (tb ((and_l (p := (t0.Kind = (1 : Int)) ∨ (t0.Kind = (2 : Int))) (q := (t0.Text.length : Int) > (8 : Int)) (Or.inl h5))))) ?_))))))
    exact rp Y (p_pkf Y Y qq2 (tb ((or_l (p := (t0.Kind = (4 : Int)) ∧ ((t0.Text.length : Int) > (40 : Int))) (q := ((t0.Kind = (1 : Int)) ∨ (t0.Kind = (2 : Int))) ∧ ((t0.Text.length : Int) > (8 : Int))) (fun h => h4 h.2))))) (rend Y Y)
   refine rn Y (dF h5) Y (u_fa Y Y U86 Y in_3 nz Y Y (nl (GToken.len t0))) (rn Y (dF h5) Y (u_ld Y Y U3 Y Y (GToken.sub0 t0)) (rn Y (dF h5) Y (p_ieq Y Y Y) (rn Y qq2 Y (p_pkf Y Y (dF h5) (tb ((or_l (p := t0.Kind = (1 : Int)) (q := t0.Kind = (2 : Int)) h5)))) (rn Y qq2 Y (p_move Y Y) ?_))))
   refine (Classical.em (t0.Kind = (2 : Int))).elim (fun h6 => ?_) (fun h6 => ?_)
   ·have qq4 := dT (p := (t0.Kind = (1 : Int)) ∨ (t0.Kind = (2 : Int))) (Or.inr h6)
    exact rn Y qq4 Y (u_fa Y Y U86 Y in_9 nz Y Y (nl (GToken.len t0))) (rn Y qq4 Y (u_ld Y Y U9 Y Y (GToken.sub1 t0)) (rn Y qq4 Y (p_lent Y U9 Y) (rn Y qq4 Y (p_bin Y Y Y Y) (rn Y qq2 Y (p_pkt Y Y qq4 (tb ((and_l (p := (t0.Kind = (1 : Int)) ∨ (t0.Kind = (2 : Int))) (q := (t0.Text.length : Int) > (8 : Int)) (Or.inr h6))))) (rp Y (p_pkf Y Y qq2 (tb ((or_l (p := (t0.Kind = (4 : Int)) ∧ ((t0.Text.length : Int) > (40 : Int))) (q := ((t0.Kind = (1 : Int)) ∨ (t0.Kind = (2 : Int))) ∧ ((t0.Text.length : Int) > (8 : Int))) (fun h => h4 h.2))))) (rend Y Y))))))
   have qq5 := dF (p := (t0.Kind = (1 : Int)) ∨ (t0.Kind = (2 : Int))) (not_or.2 ⟨h5, h6⟩)
   iterate 4 (refine rO Y qq5 Y ?_)
   exact rn Y qq2 Y (p_pkf Y Y qq5 (tb (dF (p := ((t0.Kind = (1 : Int)) ∨ (t0.Kind = (2 : Int))) ∧ ((t0.Text.length : Int) > (8 : Int))) (fun x => (not_or.2 ⟨h5, h6⟩) x.1)).symm)) (rp Y (p_pkf Y Y qq2 (tb ((or_l (p := (t0.Kind = (4 : Int)) ∧ ((t0.Text.length : Int) > (40 : Int))) (q := ((t0.Kind = (1 : Int)) ∨ (t0.Kind = (2 : Int))) ∧ ((t0.Text.length : Int) > (8 : Int))) (fun h => h4 h.2))))) (rend Y Y))
  iterate 4 (refine rO Y (dF h3) Y ?_)
  refine rp Y (p_pkf Y Y (dF h3) (tb (dF (p := (t0.Kind = (4 : Int)) ∧ ((t0.Text.length : Int) > (40 : Int))) (fun x => h3 x.1)).symm)) (rm Y ?_)
  have qq6 := dF (p := (t0.Kind = (4 : Int)) ∧ ((t0.Text.length : Int) > (40 : Int))) (fun h => h3 h.1)
  refine rn Y qq6 Y (u_fa Y Y U86 Y in_3 nz Y Y (nl (GToken.len t0))) (rn Y qq6 Y (u_ld Y Y U3 Y Y (GToken.sub0 t0)) (rn Y qq6 Y (p_ieq Y Y Y) (rn Y qq6 Y (p_move Y Y) ?_)))
  refine (Classical.em (t0.Kind = (1 : Int))).elim (fun h7 => ?_) (fun h7 => ?_)
  ·iterate 3 (refine rO Y (dT h7) Y ?_)
   have qq7 := dT (p := (t0.Kind = (1 : Int)) ∨ (t0.Kind = (2 : Int))) (Or.inl h7)
   refine rn Y qq6 Y (p_pkt Y Y (dT h7) (tb qq7.symm)) (rn Y qq6 Y (p_move Y Y) (rn Y qq7 Y (u_fa Y Y U86 Y in_9 nz Y Y (nl (GToken.len t0))) (rn Y qq7 Y (u_ld Y Y U9 Y Y (GToken.sub1 t0)) (rn Y qq7 Y (p_lent Y U9 Y) (rn Y qq7 Y (p_bin Y Y Y Y) (rn Y qq6 Y (p_pkt Y Y qq7 (tb ((and_l (p := (t0.Kind = (1 : Int)) ∨ (t0.Kind = (2 : Int))) (q := (t0.Text.length : Int) > (8 : Int)) (Or.inl h7))))) ?_))))))
   exact rp Y (p_pkf Y Y qq6 (tb ((or_l (p := (t0.Kind = (4 : Int)) ∧ ((t0.Text.length : Int) > (40 : Int))) (q := ((t0.Kind = (1 : Int)) ∨ (t0.Kind = (2 : Int))) ∧ ((t0.Text.length : Int) > (8 : Int))) (fun h => h3 h.1))))) (rend Y Y)
  refine rn Y (dF h7) Y (u_fa Y Y U86 Y in_3 nz Y Y (nl (GToken.len t0))) (rn Y (dF h7) Y (u_ld Y Y U3 Y Y (GToken.sub0 t0)) (rn Y (dF h7) Y (p_ieq Y Y Y) (rn Y qq6 Y (p_pkf Y Y (dF h7) (tb ((or_l (p := t0.Kind = (1 : Int)) (q := t0.Kind = (2 : Int)) h7)))) (rn Y qq6 Y (p_move Y Y) ?_))))
  refine (Classical.em (t0.Kind = (2 : Int))).elim (fun h8 => ?_) (fun h8 => ?_)
  ·have qq8 := dT (p := (t0.Kind = (1 : Int)) ∨ (t0.Kind = (2 : Int))) (Or.inr h8)
   exact rn Y qq8 Y (u_fa Y Y U86 Y in_9 nz Y Y (nl (GToken.len t0))) (rn Y qq8 Y (u_ld Y Y U9 Y Y (GToken.sub1 t0)) (rn Y qq8 Y (p_lent Y U9 Y) (rn Y qq8 Y (p_bin Y Y Y Y) (rn Y qq6 Y (p_pkt Y Y qq8 (tb ((and_l (p := (t0.Kind = (1 : Int)) ∨ (t0.Kind = (2 : Int))) (q := (t0.Text.length : Int) > (8 : Int)) (Or.inr h8))))) (rp Y (p_pkf Y Y qq6 (tb ((or_l (p := (t0.Kind = (4 : Int)) ∧ ((t0.Text.length : Int) > (40 : Int))) (q := ((t0.Kind = (1 : Int)) ∨ (t0.Kind = (2 : Int))) ∧ ((t0.Text.length : Int) > (8 : Int))) (fun h => h3 h.1))))) (rend Y Y))))))
  have qq9 := dF (p := (t0.Kind = (1 : Int)) ∨ (t0.Kind = (2 : Int))) (not_or.2 ⟨h7, h8⟩)
  iterate 4 (refine rO Y qq9 Y ?_)
  exact rn Y qq6 Y (p_pkf Y Y qq9 (tb (dF (p := ((t0.Kind = (1 : Int)) ∨ (t0.Kind = (2 : Int))) ∧ ((t0.Text.length : Int) > (8 : Int))) (fun x => (not_or.2 ⟨h7, h8⟩) x.1)).symm)) (rp Y (p_pkf Y Y qq6 (tb ((or_l (p := (t0.Kind = (4 : Int)) ∧ ((t0.Text.length : Int) > (40 : Int))) (q := ((t0.Kind = (1 : Int)) ∨ (t0.Kind = (2 : Int))) ∧ ((t0.Text.length : Int) > (8 : Int))) (fun h => h3 h.1))))) (rend Y Y))
 refine gen1 (fun t36'1 => (⟨[(1, .q 1 (0)), (36, .b t36'1)], [(1, .pure (GToken.cs t0))], 112⟩ : TS)) H ?_
 intro t36'1 H
 refine AW2_cond Y (fun h9 => ?_) (fun h9 => ?_)
 ·replace H := ite_then h9 H
  refine sg [0] Y (ra Y (rz [(2, .i (1 : Int))] [] Y (AW2_ret ?_)))
  obtain rfl := se H
  exact ⟨⟨rt, trivial⟩, trivial⟩
 replace H := ite_else (ne_true h9) H
 refine as2 [(1, .q 1 (0))] [(1, .pure (GToken.cs t0))] Y (AW2_skip (AW2_seq (AW2_seq (AW2_mid (⟨[(1, .q 1 (0)), (69, .b (decide ((((t0.Kind ≠ (3 : Int)) ∧ (t0.Int_ ≠ (0 : Int))) ∨ ((t0.Kind ≠ (5 : Int)) ∧ (t0.Bits ≠ (0 : UInt64)))) ∨ (((t0.Kind = (3 : Int)) ∨ (t0.Kind = (5 : Int))) ∧ (t0.Text ≠ [])))))], [(1, .pure (GToken.cs t0))], 112⟩ : TS) ?_ ?_))))
 ·refine AW2_reg [0,1,2,3,4,5,6,7,8,9,10,11,12,13,14,15,16,17,18,19,20,21,22,23,24,25,26,27,28,29,30,31,32] Y (rf Y U86 Y in_3 Y Y (GToken.len t0) (rp Y (u_ld Y Y U3 Y Y (GToken.sub0 t0)) (rp Y (p_ine Y Y Y) (rm Y ?_))))
  refine (Classical.em (t0.Kind ≠ (3 : Int))).elim (fun h10 => ?_) (fun h10 => ?_)
  ·refine rn Y (dT h10) Y (u_fa Y Y U86 Y in_3 nz Y Y (nl (GToken.len t0))) (rn Y (dT h10) Y (u_ld Y Y U3 Y Y (GToken.sub2 t0)) (rn Y (dT h10) Y (p_ine Y Y Y) (rp Y (p_pkt Y Y (dT h10) (tb ((and_l (p := t0.Kind ≠ (3 : Int)) (q := t0.Int_ ≠ (0 : Int)) h10)))) (rm Y ?_))))
   refine (Classical.em (t0.Int_ ≠ (0 : Int))).elim (fun h11 => ?_) (fun h11 => ?_)
   ·have qq10 := dT (p := (t0.Kind ≠ (3 : Int)) ∧ (t0.Int_ ≠ (0 : Int))) ⟨h10, h11⟩
    iterate 4 (refine rO Y qq10 Y ?_)
    iterate 3 (refine r_off2 rfl rfl rfl rfl rfl rfl ?_)
    refine rO Y qq10 Y ?_
    have qq11 := dT (p := ((t0.Kind ≠ (3 : Int)) ∧ (t0.Int_ ≠ (0 : Int))) ∨ ((t0.Kind ≠ (5 : Int)) ∧ (t0.Bits ≠ (0 : UInt64)))) (Or.inl ⟨h10, h11⟩)
    refine rp Y (p_pkt Y Y qq10 (tb qq11.symm)) (rm Y ?_)
    iterate 4 (refine rO Y qq11 Y ?_)
    iterate 3 (refine r_off2 rfl rfl rfl rfl rfl rfl ?_)
    iterate 2 (refine rO Y qq11 Y ?_)
    iterate 3 (refine r_off2 rfl rfl rfl rfl rfl rfl ?_)
    exact rO Y qq11 Y (rp Y (p_pkt Y Y qq11 (tb (dT (p := (((t0.Kind ≠ (3 : Int)) ∧ (t0.Int_ ≠ (0 : Int))) ∨ ((t0.Kind ≠ (5 : Int)) ∧ (t0.Bits ≠ (0 : UInt64)))) ∨ (((t0.Kind = (3 : Int)) ∨ (t0.Kind = (5 : Int))) ∧ (t0.Text ≠ []))) (Or.inl (Or.inl ⟨h10, h11⟩))).symm)) (rend Y Y))
   have qq12 := dF (p := (t0.Kind ≠ (3 : Int)) ∧ (t0.Int_ ≠ (0 : Int))) (fun h => h11 h.2)
   refine rn Y qq12 Y (u_fa Y Y U86 Y in_3 nz Y Y (nl (GToken.len t0))) (rn Y qq12 Y (u_ld Y Y U3 Y Y (GToken.sub0 t0)) (rn Y qq12 Y (p_ine Y Y Y) (rn Y qq12 Y (p_move Y Y) ?_)))
   refine (Classical.em (t0.Kind ≠ (5 : Int))).elim (fun h12 => ?_) (fun h12 => ?_)
   ·refine rn Y (dT h12) Y (u_fa Y Y U86 Y in_22 nz Y Y (nl (GToken.len t0))) (rn Y (dT h12) Y (u_ld Y Y U22 Y Y (GToken.sub3 t0)) (rn Y (dT h12) Y (p_u64ne (a := t0.Bits) (b := (0 : UInt64)) Y Y Y) (rn Y qq12 Y (p_pkt Y Y (dT h12) (tb ((and_l (p := t0.Kind ≠ (5 : Int)) (q := t0.Bits ≠ (0 : UInt64)) h12)))) (rp Y (p_pkf Y Y qq12 (tb ((or_l (p := (t0.Kind ≠ (3 : Int)) ∧ (t0.Int_ ≠ (0 : Int))) (q := (t0.Kind ≠ (5 : Int)) ∧ (t0.Bits ≠ (0 : UInt64))) (fun h => h11 h.2))))) (rm Y ?_)))))
    refine (Classical.em (t0.Bits ≠ (0 : UInt64))).elim (fun h13 => ?_) (fun h13 => ?_)
    ·have qq13 := dT (p := ((t0.Kind ≠ (3 : Int)) ∧ (t0.Int_ ≠ (0 : Int))) ∨ ((t0.Kind ≠ (5 : Int)) ∧ (t0.Bits ≠ (0 : UInt64)))) (Or.inr ⟨h12, h13⟩)
     iterate 4 (refine rO Y qq13 Y ?_)
     iterate 3 (refine r_off2 rfl rfl rfl rfl rfl rfl ?_)
     iterate 2 (refine rO Y qq13 Y ?_)
     iterate 3 (refine r_off2 rfl rfl rfl rfl rfl rfl ?_)
     exact rO Y qq13 Y (rp Y (p_pkt Y Y qq13 (tb (dT (p := (((t0.Kind ≠ (3 : Int)) ∧ (t0.Int_ ≠ (0 : Int))) ∨ ((t0.Kind ≠ (5 : Int)) ∧ (t0.Bits ≠ (0 : UInt64)))) ∨ (((t0.Kind = (3 : Int)) ∨ (t0.Kind = (5 : Int))) ∧ (t0.Text ≠ []))) (Or.inl (Or.inr ⟨h12, h13⟩))).symm)) (rend Y Y))
    have qq14 := dF (p := ((t0.Kind ≠ (3 : Int)) ∧ (t0.Int_ ≠ (0 : Int))) ∨ ((t0.Kind ≠ (5 : Int)) ∧ (t0.Bits ≠ (0 : UInt64)))) (not_or.2 ⟨(fun h => h11 h.2), (fun h => h13 h.2)⟩)
    refine rn Y qq14 Y (u_fa Y Y U86 Y in_3 nz Y Y (nl (GToken.len t0))) (rn Y qq14 Y (u_ld Y Y U3 Y Y (GToken.sub0 t0)) (rn Y qq14 Y (p_ieq Y Y Y) (rn Y qq14 Y (p_move Y Y) ?_)))
    refine (Classical.em (t0.Kind = (3 : Int))).elim (fun h14 => ?_) (fun h14 => ?_)
    ·iterate 3 (refine rO Y (dT h14) Y ?_)
     have qq15 := dT (p := (t0.Kind = (3 : Int)) ∨ (t0.Kind = (5 : Int))) (Or.inl h14)
     refine rn Y qq14 Y (p_pkt Y Y (dT h14) (tb qq15.symm)) (rn Y qq14 Y (p_move Y Y) (rn Y qq15 Y (u_fa Y Y U86 Y in_9 nz Y Y (nl (GToken.len t0))) (rn Y qq15 Y (u_ld Y Y U9 Y Y (GToken.sub1 t0)) (rn Y qq15 Y (p_sne Y Y Y) (rn Y qq14 Y (p_pkt Y Y qq15 (tb ((and_l (p := (t0.Kind = (3 : Int)) ∨ (t0.Kind = (5 : Int))) (q := t0.Text ≠ []) (Or.inl h14))))) (rp Y (p_pkf Y Y qq14 (tb ((or_l (p := ((t0.Kind ≠ (3 : Int)) ∧ (t0.Int_ ≠ (0 : Int))) ∨ ((t0.Kind ≠ (5 : Int)) ∧ (t0.Bits ≠ (0 : UInt64)))) (q := ((t0.Kind = (3 : Int)) ∨ (t0.Kind = (5 : Int))) ∧ (t0.Text ≠ [])) (not_or.2 ⟨(fun h => h11 h.2), (fun h => h13 h.2)⟩))))) ?_))))))
     exact rend Y Y
    refine rn Y (dF h14) Y (u_fa Y Y U86 Y in_3 nz Y Y (nl (GToken.len t0))) (rn Y (dF h14) Y (u_ld Y Y U3 Y Y (GToken.sub0 t0)) (rn Y (dF h14) Y (p_ieq Y Y Y) (rn Y qq14 Y (p_pkf Y Y (dF h14) (tb ((or_l (p := t0.Kind = (3 : Int)) (q := t0.Kind = (5 : Int)) h14)))) (rn Y qq14 Y (p_move Y Y) ?_))))
    refine (Classical.em (t0.Kind = (5 : Int))).elim (fun h15 => ?_) (fun h15 => ?_)
    ·have qq16 := dT (p := (t0.Kind = (3 : Int)) ∨ (t0.Kind = (5 : Int))) (Or.inr h15)
     exact rn Y qq16 Y (u_fa Y Y U86 Y in_9 nz Y Y (nl (GToken.len t0))) (rn Y qq16 Y (u_ld Y Y U9 Y Y (GToken.sub1 t0)) (rn Y qq16 Y (p_sne Y Y Y) (rn Y qq14 Y (p_pkt Y Y qq16 (tb ((and_l (p := (t0.Kind = (3 : Int)) ∨ (t0.Kind = (5 : Int))) (q := t0.Text ≠ []) (Or.inr h15))))) (rp Y (p_pkf Y Y qq14 (tb ((or_l (p := ((t0.Kind ≠ (3 : Int)) ∧ (t0.Int_ ≠ (0 : Int))) ∨ ((t0.Kind ≠ (5 : Int)) ∧ (t0.Bits ≠ (0 : UInt64)))) (q := ((t0.Kind = (3 : Int)) ∨ (t0.Kind = (5 : Int))) ∧ (t0.Text ≠ [])) (not_or.2 ⟨(fun h => h11 h.2), (fun h => h13 h.2)⟩))))) (rend Y Y)))))
    have qq17 := dF (p := (t0.Kind = (3 : Int)) ∨ (t0.Kind = (5 : Int))) (not_or.2 ⟨h14, h15⟩)
    iterate 3 (refine rO Y qq17 Y ?_)
    exact rn Y qq14 Y (p_pkf Y Y qq17 (tb (dF (p := ((t0.Kind = (3 : Int)) ∨ (t0.Kind = (5 : Int))) ∧ (t0.Text ≠ [])) (fun x => (not_or.2 ⟨h14, h15⟩) x.1)).symm)) (rp Y (p_pkf Y Y qq14 (tb ((or_l (p := ((t0.Kind ≠ (3 : Int)) ∧ (t0.Int_ ≠ (0 : Int))) ∨ ((t0.Kind ≠ (5 : Int)) ∧ (t0.Bits ≠ (0 : UInt64)))) (q := ((t0.Kind = (3 : Int)) ∨ (t0.Kind = (5 : Int))) ∧ (t0.Text ≠ [])) (not_or.2 ⟨(fun h => h11 h.2), (fun h => h13 h.2)⟩))))) (rend Y Y))
   iterate 3 (refine rO Y (dF h12) Y ?_)
   refine rn Y qq12 Y (p_pkf Y Y (dF h12) (tb (dF (p := (t0.Kind ≠ (5 : Int)) ∧ (t0.Bits ≠ (0 : UInt64))) (fun x => h12 x.1)).symm)) (rp Y (p_pkf Y Y qq12 (tb ((or_l (p := (t0.Kind ≠ (3 : Int)) ∧ (t0.Int_ ≠ (0 : Int))) (q := (t0.Kind ≠ (5 : Int)) ∧ (t0.Bits ≠ (0 : UInt64))) (fun h => h11 h.2))))) (rm Y ?_))
   have qq18 := dF (p := ((t0.Kind ≠ (3 : Int)) ∧ (t0.Int_ ≠ (0 : Int))) ∨ ((t0.Kind ≠ (5 : Int)) ∧ (t0.Bits ≠ (0 : UInt64)))) (not_or.2 ⟨(fun h => h11 h.2), (fun h => h12 h.1)⟩)
   refine rn Y qq18 Y (u_fa Y Y U86 Y in_3 nz Y Y (nl (GToken.len t0))) (rn Y qq18 Y (u_ld Y Y U3 Y Y (GToken.sub0 t0)) (rn Y qq18 Y (p_ieq Y Y Y) (rn Y qq18 Y (p_move Y Y) ?_)))
   refine (Classical.em (t0.Kind = (3 : Int))).elim (fun h16 => ?_) (fun h16 => ?_)
   ·iterate 3 (refine rO Y (dT h16) Y ?_)
    have qq19 := dT (p := (t0.Kind = (3 : Int)) ∨ (t0.Kind = (5 : Int))) (Or.inl h16)
    refine rn Y qq18 Y (p_pkt Y Y (dT h16) (tb qq19.symm)) (rn Y qq18 Y (p_move Y Y) (rn Y qq19 Y (u_fa Y Y U86 Y in_9 nz Y Y (nl (GToken.len t0))) (rn Y qq19 Y (u_ld Y Y U9 Y Y (GToken.sub1 t0)) (rn Y qq19 Y (p_sne Y Y Y) (rn Y qq18 Y (p_pkt Y Y qq19 (tb ((and_l (p := (t0.Kind = (3 : Int)) ∨ (t0.Kind = (5 : Int))) (q := t0.Text ≠ []) (Or.inl h16))))) (rp Y (p_pkf Y Y qq18 (tb ((or_l (p := ((t0.Kind ≠ (3 : Int)) ∧ (t0.Int_ ≠ (0 : Int))) ∨ ((t0.Kind ≠ (5 : Int)) ∧ (t0.Bits ≠ (0 : UInt64)))) (q := ((t0.Kind = (3 : Int)) ∨ (t0.Kind = (5 : Int))) ∧ (t0.Text ≠ [])) (not_or.2 ⟨(fun h => h11 h.2), (fun h => h12 h.1)⟩))))) ?_))))))
    exact rend Y Y
   refine rn Y (dF h16) Y (u_fa Y Y U86 Y in_3 nz Y Y (nl (GToken.len t0))) (rn Y (dF h16) Y (u_ld Y Y U3 Y Y (GToken.sub0 t0)) (rn Y (dF h16) Y (p_ieq Y Y Y) (rn Y qq18 Y (p_pkf Y Y (dF h16) (tb ((or_l (p := t0.Kind = (3 : Int)) (q := t0.Kind = (5 : Int)) h16)))) (rn Y qq18 Y (p_move Y Y) ?_))))
   refine (Classical.em (t0.Kind = (5 : Int))).elim (fun h17 => ?_) (fun h17 => ?_)
   ·have qq20 := dT (p := (t0.Kind = (3 : Int)) ∨ (t0.Kind = (5 : Int))) (Or.inr h17)
    exact rn Y qq20 Y (u_fa Y Y U86 Y in_9 nz Y Y (nl (GToken.len t0))) (rn Y qq20 Y (u_ld Y Y U9 Y Y (GToken.sub1 t0)) (rn Y qq20 Y (p_sne Y Y Y) (rn Y qq18 Y (p_pkt Y Y qq20 (tb ((and_l (p := (t0.Kind = (3 : Int)) ∨ (t0.Kind = (5 : Int))) (q := t0.Text ≠ []) (Or.inr h17))))) (rp Y (p_pkf Y Y qq18 (tb ((or_l (p := ((t0.Kind ≠ (3 : Int)) ∧ (t0.Int_ ≠ (0 : Int))) ∨ ((t0.Kind ≠ (5 : Int)) ∧ (t0.Bits ≠ (0 : UInt64)))) (q := ((t0.Kind = (3 : Int)) ∨ (t0.Kind = (5 : Int))) ∧ (t0.Text ≠ [])) (not_or.2 ⟨(fun h => h11 h.2), (fun h => h12 h.1)⟩))))) (rend Y Y)))))
   have qq21 := dF (p := (t0.Kind = (3 : Int)) ∨ (t0.Kind = (5 : Int))) (not_or.2 ⟨h16, h17⟩)
   iterate 3 (refine rO Y qq21 Y ?_)
   exact rn Y qq18 Y (p_pkf Y Y qq21 (tb (dF (p := ((t0.Kind = (3 : Int)) ∨ (t0.Kind = (5 : Int))) ∧ (t0.Text ≠ [])) (fun x => (not_or.2 ⟨h16, h17⟩) x.1)).symm)) (rp Y (p_pkf Y Y qq18 (tb ((or_l (p := ((t0.Kind ≠ (3 : Int)) ∧ (t0.Int_ ≠ (0 : Int))) ∨ ((t0.Kind ≠ (5 : Int)) ∧ (t0.Bits ≠ (0 : UInt64)))) (q := ((t0.Kind = (3 : Int)) ∨ (t0.Kind = (5 : Int))) ∧ (t0.Text ≠ [])) (not_or.2 ⟨(fun h => h11 h.2), (fun h => h12 h.1)⟩))))) (rend Y Y))
  iterate 3 (refine rO Y (dF h10) Y ?_)
  refine rp Y (p_pkf Y Y (dF h10) (tb (dF (p := (t0.Kind ≠ (3 : Int)) ∧ (t0.Int_ ≠ (0 : Int))) (fun x => h10 x.1)).symm)) (rm Y ?_)
  have qq22 := dF (p := (t0.Kind ≠ (3 : Int)) ∧ (t0.Int_ ≠ (0 : Int))) (fun h => h10 h.1)
  refine rn Y qq22 Y (u_fa Y Y U86 Y in_3 nz Y Y (nl (GToken.len t0))) (rn Y qq22 Y (u_ld Y Y U3 Y Y (GToken.sub0 t0)) (rn Y qq22 Y (p_ine Y Y Y) (rn Y qq22 Y (p_move Y Y) ?_)))
  refine (Classical.em (t0.Kind ≠ (5 : Int))).elim (fun h18 => ?_) (fun h18 => ?_)
  ·refine rn Y (dT h18) Y (u_fa Y Y U86 Y in_22 nz Y Y (nl (GToken.len t0))) (rn Y (dT h18) Y (u_ld Y Y U22 Y Y (GToken.sub3 t0)) (rn Y (dT h18) Y (p_u64ne (a := t0.Bits) (b := (0 : UInt64)) Y Y Y) (rn Y qq22 Y (p_pkt Y Y (dT h18) (tb ((and_l (p := t0.Kind ≠ (5 : Int)) (q := t0.Bits ≠ (0 : UInt64)) h18)))) (rp Y (p_pkf Y Y qq22 (tb ((or_l (p := (t0.Kind ≠ (3 : Int)) ∧ (t0.Int_ ≠ (0 : Int))) (q := (t0.Kind ≠ (5 : Int)) ∧ (t0.Bits ≠ (0 : UInt64))) (fun h => h10 h.1))))) (rm Y ?_)))))
   refine (Classical.em (t0.Bits ≠ (0 : UInt64))).elim (fun h19 => ?_) (fun h19 => ?_)
   ·have qq23 := dT (p := ((t0.Kind ≠ (3 : Int)) ∧ (t0.Int_ ≠ (0 : Int))) ∨ ((t0.Kind ≠ (5 : Int)) ∧ (t0.Bits ≠ (0 : UInt64)))) (Or.inr ⟨h18, h19⟩)
    iterate 4 (refine rO Y qq23 Y ?_)
    iterate 3 (refine r_off2 rfl rfl rfl rfl rfl rfl ?_)
    iterate 2 (refine rO Y qq23 Y ?_)
    iterate 3 (refine r_off2 rfl rfl rfl rfl rfl rfl ?_)
    exact rO Y qq23 Y (rp Y (p_pkt Y Y qq23 (tb (dT (p := (((t0.Kind ≠ (3 : Int)) ∧ (t0.Int_ ≠ (0 : Int))) ∨ ((t0.Kind ≠ (5 : Int)) ∧ (t0.Bits ≠ (0 : UInt64)))) ∨ (((t0.Kind = (3 : Int)) ∨ (t0.Kind = (5 : Int))) ∧ (t0.Text ≠ []))) (Or.inl (Or.inr ⟨h18, h19⟩))).symm)) (rend Y Y))
   have qq24 := dF (p := ((t0.Kind ≠ (3 : Int)) ∧ (t0.Int_ ≠ (0 : Int))) ∨ ((t0.Kind ≠ (5 : Int)) ∧ (t0.Bits ≠ (0 : UInt64)))) (not_or.2 ⟨(fun h => h10 h.1), (fun h => h19 h.2)⟩)
   refine rn Y qq24 Y (u_fa Y Y U86 Y in_3 nz Y Y (nl (GToken.len t0))) (rn Y qq24 Y (u_ld Y Y U3 Y Y (GToken.sub0 t0)) (rn Y qq24 Y (p_ieq Y Y Y) (rn Y qq24 Y (p_move Y Y) ?_)))
   refine (Classical.em (t0.Kind = (3 : Int))).elim (fun h20 => ?_) (fun h20 => ?_)
   ·iterate 3 (refine rO Y (dT h20) Y ?_)
    have qq25 := dT (p := (t0.Kind = (3 : Int)) ∨ (t0.Kind = (5 : Int))) (Or.inl h20)
    refine rn Y qq24 Y (p_pkt Y Y (dT h20) (tb qq25.symm)) (rn Y qq24 Y (p_move Y Y) (rn Y qq25 Y (u_fa Y Y U86 Y in_9 nz Y Y (nl (GToken.len t0))) (rn Y qq25 Y (u_ld Y Y U9 Y Y (GToken.sub1 t0)) (rn Y qq25 Y (p_sne Y Y Y) (rn Y qq24 Y (p_pkt Y Y qq25 (tb ((and_l (p := (t0.Kind = (3 : Int)) ∨ (t0.Kind = (5 : Int))) (q := t0.Text ≠ []) (Or.inl h20))))) (rp Y (p_pkf Y Y qq24 (tb ((or_l (p := ((t0.Kind ≠ (3 : Int)) ∧ (t0.Int_ ≠ (0 : Int))) ∨ ((t0.Kind ≠ (5 : Int)) ∧ (t0.Bits ≠ (0 : UInt64)))) (q := ((t0.Kind = (3 : Int)) ∨ (t0.Kind = (5 : Int))) ∧ (t0.Text ≠ [])) (not_or.2 ⟨(fun h => h10 h.1), (fun h => h19 h.2)⟩))))) ?_))))))
    exact rend Y Y
   refine rn Y (dF h20) Y (u_fa Y Y U86 Y in_3 nz Y Y (nl (GToken.len t0))) (rn Y (dF h20) Y (u_ld Y Y U3 Y Y (GToken.sub0 t0)) (rn Y (dF h20) Y (p_ieq Y Y Y) (rn Y qq24 Y (p_pkf Y Y (dF h20) (tb ((or_l (p := t0.Kind = (3 : Int)) (q := t0.Kind = (5 : Int)) h20)))) (rn Y qq24 Y (p_move Y Y) ?_))))
   refine (Classical.em (t0.Kind = (5 : Int))).elim (fun h21 => ?_) (fun h21 => ?_)
   ·have qq26 := dT (p := (t0.Kind = (3 : Int)) ∨ (t0.Kind = (5 : Int))) (Or.inr h21)
    exact rn Y qq26 Y (u_fa Y Y U86 Y in_9 nz Y Y (nl (GToken.len t0))) (rn Y qq26 Y (u_ld Y Y U9 Y Y (GToken.sub1 t0)) (rn Y qq26 Y (p_sne Y Y Y) (rn Y qq24 Y (p_pkt Y Y qq26 (tb ((and_l (p := (t0.Kind = (3 : Int)) ∨ (t0.Kind = (5 : Int))) (q := t0.Text ≠ []) (Or.inr h21))))) (rp Y (p_pkf Y Y qq24 (tb ((or_l (p := ((t0.Kind ≠ (3 : Int)) ∧ (t0.Int_ ≠ (0 : Int))) ∨ ((t0.Kind ≠ (5 : Int)) ∧ (t0.Bits ≠ (0 : UInt64)))) (q := ((t0.Kind = (3 : Int)) ∨ (t0.Kind = (5 : Int))) ∧ (t0.Text ≠ [])) (not_or.2 ⟨(fun h => h10 h.1), (fun h => h19 h.2)⟩))))) (rend Y Y)))))
   have qq27 := dF (p := (t0.Kind = (3 : Int)) ∨ (t0.Kind = (5 : Int))) (not_or.2 ⟨h20, h21⟩)
   iterate 3 (refine rO Y qq27 Y ?_)
   exact rn Y qq24 Y (p_pkf Y Y qq27 (tb (dF (p := ((t0.Kind = (3 : Int)) ∨ (t0.Kind = (5 : Int))) ∧ (t0.Text ≠ [])) (fun x => (not_or.2 ⟨h20, h21⟩) x.1)).symm)) (rp Y (p_pkf Y Y qq24 (tb ((or_l (p := ((t0.Kind ≠ (3 : Int)) ∧ (t0.Int_ ≠ (0 : Int))) ∨ ((t0.Kind ≠ (5 : Int)) ∧ (t0.Bits ≠ (0 : UInt64)))) (q := ((t0.Kind = (3 : Int)) ∨ (t0.Kind = (5 : Int))) ∧ (t0.Text ≠ [])) (not_or.2 ⟨(fun h => h10 h.1), (fun h => h19 h.2)⟩))))) (rend Y Y))
  iterate 3 (refine rO Y (dF h18) Y ?_)
  refine rn Y qq22 Y (p_pkf Y Y (dF h18) (tb (dF (p := (t0.Kind ≠ (5 : Int)) ∧ (t0.Bits ≠ (0 : UInt64))) (fun x => h18 x.1)).symm)) (rp Y (p_pkf Y Y qq22 (tb ((or_l (p := (t0.Kind ≠ (3 : Int)) ∧ (t0.Int_ ≠ (0 : Int))) (q := (t0.Kind ≠ (5 : Int)) ∧ (t0.Bits ≠ (0 : UInt64))) (fun h => h10 h.1))))) (rm Y ?_))
  have qq28 := dF (p := ((t0.Kind ≠ (3 : Int)) ∧ (t0.Int_ ≠ (0 : Int))) ∨ ((t0.Kind ≠ (5 : Int)) ∧ (t0.Bits ≠ (0 : UInt64)))) (not_or.2 ⟨(fun h => h10 h.1), (fun h => h18 h.1)⟩)
  refine rn Y qq28 Y (u_fa Y Y U86 Y in_3 nz Y Y (nl (GToken.len t0))) (rn Y qq28 Y (u_ld Y Y U3 Y Y (GToken.sub0 t0)) (rn Y qq28 Y (p_ieq Y Y Y) (rn Y qq28 Y (p_move Y Y) ?_)))
  refine (Classical.em (t0.Kind = (3 : Int))).elim (fun h22 => ?_) (fun h22 => ?_)
  ·iterate 3 (refine rO Y (dT h22) Y ?_)
   have qq29 := dT (p := (t0.Kind = (3 : Int)) ∨ (t0.Kind = (5 : Int))) (Or.inl h22)
   refine rn Y qq28 Y (p_pkt Y Y (dT h22) (tb qq29.symm)) (rn Y qq28 Y (p_move Y Y) (rn Y qq29 Y (u_fa Y Y U86 Y in_9 nz Y Y (nl (GToken.len t0))) (rn Y qq29 Y (u_ld Y Y U9 Y Y (GToken.sub1 t0)) (rn Y qq29 Y (p_sne Y Y Y) (rn Y qq28 Y (p_pkt Y Y qq29 (tb ((and_l (p := (t0.Kind = (3 : Int)) ∨ (t0.Kind = (5 : Int))) (q := t0.Text ≠ []) (Or.inl h22))))) (rp Y (p_pkf Y Y qq28 (tb ((or_l (p := ((t0.Kind ≠ (3 : Int)) ∧ (t0.Int_ ≠ (0 : Int))) ∨ ((t0.Kind ≠ (5 : Int)) ∧ (t0.Bits ≠ (0 : UInt64)))) (q := ((t0.Kind = (3 : Int)) ∨ (t0.Kind = (5 : Int))) ∧ (t0.Text ≠ [])) (not_or.2 ⟨(fun h => h10 h.1), (fun h => h18 h.1)⟩))))) ?_))))))
   exact rend Y Y
  refine rn Y (dF h22) Y (u_fa Y Y U86 Y in_3 nz Y Y (nl (GToken.len t0))) (rn Y (dF h22) Y (u_ld Y Y U3 Y Y (GToken.sub0 t0)) (rn Y (dF h22) Y (p_ieq Y Y Y) (rn Y qq28 Y (p_pkf Y Y (dF h22) (tb ((or_l (p := t0.Kind = (3 : Int)) (q := t0.Kind = (5 : Int)) h22)))) (rn Y qq28 Y (p_move Y Y) ?_))))
  refine (Classical.em (t0.Kind = (5 : Int))).elim (fun h23 => ?_) (fun h23 => ?_)
  ·have qq30 := dT (p := (t0.Kind = (3 : Int)) ∨ (t0.Kind = (5 : Int))) (Or.inr h23)
   exact rn Y qq30 Y (u_fa Y Y U86 Y in_9 nz Y Y (nl (GToken.len t0))) (rn Y qq30 Y (u_ld Y Y U9 Y Y (GToken.sub1 t0)) (rn Y qq30 Y (p_sne Y Y Y) (rn Y qq28 Y (p_pkt Y Y qq30 (tb ((and_l (p := (t0.Kind = (3 : Int)) ∨ (t0.Kind = (5 : Int))) (q := t0.Text ≠ []) (Or.inr h23))))) (rp Y (p_pkf Y Y qq28 (tb ((or_l (p := ((t0.Kind ≠ (3 : Int)) ∧ (t0.Int_ ≠ (0 : Int))) ∨ ((t0.Kind ≠ (5 : Int)) ∧ (t0.Bits ≠ (0 : UInt64)))) (q := ((t0.Kind = (3 : Int)) ∨ (t0.Kind = (5 : Int))) ∧ (t0.Text ≠ [])) (not_or.2 ⟨(fun h => h10 h.1), (fun h => h18 h.1)⟩))))) (rend Y Y)))))
  have qq31 := dF (p := (t0.Kind = (3 : Int)) ∨ (t0.Kind = (5 : Int))) (not_or.2 ⟨h22, h23⟩)
  iterate 3 (refine rO Y qq31 Y ?_)
  exact rn Y qq28 Y (p_pkf Y Y qq31 (tb (dF (p := ((t0.Kind = (3 : Int)) ∨ (t0.Kind = (5 : Int))) ∧ (t0.Text ≠ [])) (fun x => (not_or.2 ⟨h22, h23⟩) x.1)).symm)) (rp Y (p_pkf Y Y qq28 (tb ((or_l (p := ((t0.Kind ≠ (3 : Int)) ∧ (t0.Int_ ≠ (0 : Int))) ∨ ((t0.Kind ≠ (5 : Int)) ∧ (t0.Bits ≠ (0 : UInt64)))) (q := ((t0.Kind = (3 : Int)) ∨ (t0.Kind = (5 : Int))) ∧ (t0.Text ≠ [])) (not_or.2 ⟨(fun h => h10 h.1), (fun h => h18 h.1)⟩))))) (rend Y Y))
 refine gen1 (fun t69'2 => (⟨[(1, .q 1 (0)), (69, .b t69'2)], [(1, .pure (GToken.cs t0))], 112⟩ : TS)) H ?_
 intro t69'2 H
 refine AW2_cond Y (fun h24 => ?_) (fun h24 => ?_)
 ·replace H := ite_then h24 H
  refine sg [0] Y (ra Y (rz [(2, .i (3 : Int))] [] Y (AW2_ret ?_)))
  obtain rfl := se H
  exact ⟨⟨rt, trivial⟩, trivial⟩
 replace H := ite_else (ne_true h24) H
 refine as2 [(1, .q 1 (0))] [(1, .pure (GToken.cs t0))] Y (AW2_skip (sg [0] Y (ra Y (rz [(1, _), (3, .b true)] [(1, _)] Y (AW2_seq (bindK H fun j'3 h25 H => ?_))))))
 refine AW2_mid (⟨[(3, .b j'3)], [], 112⟩ : TS) ?_ ?_
 ·clear H
  have H := h25
  clear h25
  refine sg [0,1] Y (rf Y U86 Y in_3 Y Y (GToken.len t0) (rp Y (u_ld Y Y U3 Y Y (GToken.sub0 t0)) (rz [(1, .q 1 (0)), (3, .b true), (71, .i t0.Kind)] [(1, .pure (GToken.cs t0))] Y (AW2_block (sg [0,1] Y (rp Y (p_ieq Y Y Y) ?_))))))
  refine ra Y (rz [(1, _), (3, _), (71, _), (72, .b (decide (t0.Kind = (1 : Int))))] [(1, _)] Y (if2 H Y (fun h26 H => ?_) (fun h26 H => ?_)))
  ·refine bindK H fun g'7 h33 H => AW2_mid (⟨[(3, .b g'7)], [], 112⟩ : TS) ?_ ?_
   ·clear H
    have H := h33
    clear h33
    refine AW2_reg [0,1,2,3,4,5,6,7,8,9] Y (rf Y U86 Y in_9 Y Y (GToken.len t0) (rp Y (u_ld Y Y U9 Y Y (GToken.sub1 t0)) (bindK H fun r'5 h29 H => rp Y (p_calll Y Y Y Tryd.func71 Y Y (g_lex_all_i0_ac h29) Y ⟨lend_p Y, lend_clo Y Y trivial, trivial⟩) (rm Y (em2 H (fun h30 H => ?_) (fun h30 H => ?_))))))
    ·refine rn Y h30 Y (u_fa Y Y U86 Y in_9 nz Y Y (nl (GToken.len t0))) (rn Y h30 Y (u_ld Y Y U9 Y Y (GToken.sub1 t0)) (chkK H fun h31 H => rn Y h30 Y (p_ixt Y U9 Y Y Y (lrd_get h31)) (bindK H fun r'6 h32 H => rn Y h30 Y (p_callp Y Y Y Tryd.func73 Y Y (g_lex_small_ac h32) ⟨Y, trivial⟩) (rp Y (p_pkt Y Y h30 (.same _)) ?_))))
     refine ra Y (rs [(3, .b r'6)] [] Y ?_)
     obtain rfl := se H
     exact RunW_nil rfl
    iterate 4 (refine rO Y (bfalse h30) Y ?_)
    refine rp Y (p_pkf Y Y (bfalse h30) (.same _)) (ra Y (rs [(3, .b false)] [] Y ?_))
    obtain rfl := se H
    exact RunW_nil rfl
   obtain rfl := se H
   exact rfl
  refine sg [0,1] Y (rp Y (p_ieq Y Y Y) (ra Y (rz [(1, _), (3, _), (71, _), (83, .b (decide (t0.Kind = (2 : Int))))] [(1, _)] Y (if2 H Y (fun h35 H => ?_) (fun h35 H => ?_)))))
  ·refine AW2_reg [0,1,2,3] Y (rf Y U86 Y in_9 Y Y (GToken.len t0) (rp Y (u_ld Y Y U9 Y Y (GToken.sub1 t0)) (bindK H fun r'8 h36 H => rp Y (p_calll Y Y Y Tryd.func71 Y Y (g_lex_all_i1_ac h36) Y ⟨lend_p Y, lend_clo Y Y trivial, trivial⟩) (ra Y (rz [(3, .b r'8)] [] Y ?_)))))
   obtain rfl := se H
   exact rfl
  refine sg [0,1] Y (rp Y (p_ieq Y Y Y) (ra Y (rz [(1, _), (3, _), (71, _), (88, .b (decide (t0.Kind = (3 : Int))))] [(1, _)] Y (if2 H Y (fun h37 H => ?_) (fun h37 H => ?_)))))
  ·refine AW2_reg [0,1,2,3] Y (rf Y U86 Y in_3 Y Y (GToken.len t0) (rp Y (u_ld Y Y U3 Y Y (GToken.sub2 t0)) (rp Y (p_bin Y Y Y Y) (ra Y (rz [(3, .b (decide (t0.Int_ ≥ (0 : Int))))] [] Y ?_)))))
   obtain rfl := se H
   exact rfl
  refine sg [0,1] Y (rp Y (p_ieq Y Y Y) (ra Y (rz [(1, _), (3, _), (71, _), (93, .b (decide (t0.Kind = (4 : Int))))] [(1, _)] Y (if2 H Y (fun h38 H => ?_) (fun h38 H => ?_)))))
  ·refine AW2_reg [0,1,2,3] Y (rf Y U86 Y in_9 Y Y (GToken.len t0) (rp Y (u_ld Y Y U9 Y Y (GToken.sub1 t0)) (bindK H fun r'9 h39 H => rp Y (p_callp Y Y Y Tryd.func43 Y Y (g_utf8_ValidString_ac h39) ⟨Y, trivial⟩) (ra Y (rz [(3, .b r'9)] [] Y ?_)))))
   obtain rfl := se H
   exact rfl
  refine sg [0,1] Y (rp Y (p_ieq Y Y Y) (ra Y (rz [(1, _), (3, _), (71, _), (98, .b (decide (t0.Kind = (5 : Int))))] [(1, _)] Y (if2 H Y (fun h40 H => ?_) (fun h40 H => ?_)))))
  ·refine AW2_reg [0,1,2,3,4,5] Y (rf Y U86 Y in_22 Y Y (GToken.len t0) (rp Y (u_ld Y Y U22 Y Y (GToken.sub3 t0)) (rp Y (u_bld Y in_24 one_24 zc_24 pl_24 Y (af_cons Y Y (GValue.upd0 GValue.zero (3 : Int)) (af_cons Y Y (GValue.upd2 ((GValue.w0 GValue.zero (3 : Int))) t0.Bits) Y))) (bindK H fun r'10 h41 H => rp Y (p_callp Y Y Y Tryd.func40 Y Y (g_value_Check_ac h41) ⟨Y, trivial⟩) (rp Y (p_ieq Y Y Y) ?_)))))
   refine ra Y (rz [(3, .b (decide (r'10 = (0 : Int))))] [] Y ?_)
   obtain rfl := se H
   exact rfl
  refine sg [0,1] Y (rp Y (p_ieq Y Y Y) (ra Y (rz [(1, _), (3, _), (105, .b (decide (t0.Kind = (6 : Int))))] [(1, _)] Y (if2 H Y (fun h42 H => ?_) (fun h42 H => ?_)))))
  ·refine AW2_reg [0,1,2,3] Y (rf Y U86 Y in_9 Y Y (GToken.len t0) (rp Y (u_ld Y Y U9 Y Y (GToken.sub1 t0)) (bindK H fun r'11 h43 H => rp Y (p_callp Y Y Y Tryd.func75 Y Y (g_lex_sign_ac h43) ⟨Y, trivial⟩) (ra Y (rz [(3, .b r'11)] [] Y ?_)))))
   obtain rfl := se H
   exact rfl
  refine as2 [(3, _)] [] Y (AW2_skip ?_)
  obtain rfl := se H
  exact rfl
 refine AW2_seq (sg [0,1] Y (rm Y (rp Y (p_not Y Y) (rz [(111, .b (!j'3))] [] Y (AW2_cond Y (fun h44 => ?_) (fun h44 => ?_))))))
 ·replace H := ite_then h44 H
  refine sg [0] Y (ra Y (rz [(2, .i (3 : Int))] [] Y (AW2_ret ?_)))
  obtain rfl := se H
  exact ⟨⟨rt, trivial⟩, trivial⟩
 replace H := ite_else (ne_true h44) H
 refine as2 [] [] Y (AW2_skip (sg [0] Y (ra Y (rz [(2, .i (0 : Int))] [] Y (AW2_ret ?_)))))
 obtain rfl := se H
 exact ⟨⟨rt, trivial⟩, trivial⟩
def g_expr_node_r3 : List (List (Nat × Option Nat)) := [[(1, none)], [(11, some 0)], [(12, some 1)], [(1, none)], [(14, some 3)], [(15, some 4)]]
def g_expr_node_r3c : List (List Nat) := [[], [0], [0, 1], [], [3], [3, 4], [0, 1, 2, 3, 4, 5]]
noncomputable def g_expr_node (e0 : GExpr) : Option (Int) :=
  (if (e0.Op < (1 : Int)) ∨ (e0.Op > (20 : Int)) then some (2 : Int) else (g_expr_wants e0.Op).bind fun r'1 => (if (e0.Args.length : Int) ≠ r'1 then some (3 : Int) else (if ((decide (e0.Op = (2 : Int))) ≠ (decide (e0.Name ≠ []))) ∨ ((e0.Op ≠ (1 : Int)) ∧ (e0.Value ≠ GValue.zero)) then some (3 : Int) else ((if e0.Op = (2 : Int) then (g_lex_Check ({ { GToken.zero with Kind := (1 : Int) } with Text := e0.Name })).bind fun r'3 => some (decide (r'3 ≠ (0 : Int))) else some false)).bind fun g'4 => (if g'4 = true then some (3 : Int) else ((if e0.Op = (1 : Int) then (g_value_Check e0.Value).bind fun r'6 => (if r'6 ≠ (0 : Int) then some true else some (decide (e0.Value.Int_ < (0 : Int)))) else some false)).bind fun g'7 => (if g'7 = true then some (3 : Int) else some (0 : Int))))))
set_option maxHeartbeats 4000000 in
set_option maxRecDepth 100000 in
theorem g_expr_node_ac {e0 : GExpr} {r : Int} (H : g_expr_node e0 = some r) : ACp Tryd.prog 39 [(.agg (GExpr.cs e0))] (AV.int r) := by
 refine ACp_of (AC2_of_body (vs := [.i r]) Tryd.func39 Y Y (lb Y) Y ?_) (fun _ => .same _)
 unfold g_expr_node at H
 refine as2 [(0, .g (GExpr.cs e0))] [] Y (sg [0,1] Y (rq Y (MakeD.opD (n_box 1 Y Y) Y Y Y Y) (ra Y (rz [(1, .q 1 (0))] [(1, .pure (GExpr.cs e0))] Y (AW2_seq (AW2_seq ?_))))))
 refine AW2_mid (⟨[(1, .q 1 (0)), (10, .b (decide ((e0.Op < (1 : Int)) ∨ (e0.Op > (20 : Int)))))], [(1, .pure (GExpr.cs e0))], 61⟩ : TS) ?_ ?_
 ·refine AW2_reg [0,1,2,3,4,5,6,7] Y (rf Y U27 Y in_3 Y Y (GExpr.len e0) (rp Y (u_ld Y Y U3 Y Y (GExpr.sub0 e0)) (rp Y (p_bin Y Y Y Y) (rm Y ?_))))
  refine (Classical.em (e0.Op < (1 : Int))).elim (fun h1 => ?_) (fun h1 => ?_)
  ·exact rO Y (dT h1) Y (rO Y (dT h1) Y (rO Y (dT h1) Y (rp Y (p_pkt Y Y (dT h1) (tb (dT (p := (e0.Op < (1 : Int)) ∨ (e0.Op > (20 : Int))) (Or.inl h1)).symm)) (rend Y Y))))
  exact rn Y (dF h1) Y (u_fa Y Y U27 Y in_3 nz Y Y (nl (GExpr.len e0))) (rn Y (dF h1) Y (u_ld Y Y U3 Y Y (GExpr.sub0 e0)) (rn Y (dF h1) Y (p_bin Y Y Y Y) (rp Y (p_pkf Y Y (dF h1) (tb ((or_l (p := e0.Op < (1 : Int)) (q := e0.Op > (20 : Int)) h1)))) (rend Y Y))))
 refine if2 H Y (fun h2 H => ?_) (fun h2 H => ?_)
 ·refine sg [0] Y (ra Y (rz [(2, .i (2 : Int))] [] Y (AW2_ret ?_)))
  obtain rfl := se H
  exact ⟨⟨rt, trivial⟩, trivial⟩
 refine as2 [(1, _)] [(1, _)] Y (AW2_skip (AW2_seq (AW2_seq (bindK H fun r'1 h3 H => AW2_ghoQ (AW2_draw 6 [6] (fun k => ([.q 1 (0 + 6), .p (GExpr.ls e0.Args), .i (e0.Args.length : Int), .q 1 (0 + 0), .i e0.Op, .i r'1] : List TV).getD k TV.any) (fun k => g_expr_node_r3.getD k []) [(1, none), (13, some 2), (16, some 5)] [] (fun k => g_expr_node_r3c.getD k []) mixed (by kernel_rfl) Y Y (a_op (g_x Y (x_p Y (u_fa Y Y U27 Y in_25 nz Y Y (nl (GExpr.len e0))) Y)) (a_op (g_x Y (x_p Y (u_ld Y Y U25 Y Y (GExpr.sub3 e0)) Y)) (a_op (g_x Y (x_p Y (p_lenl Y U25 Y Y) Y)) (a_op (g_x Y (x_p Y (u_fa Y Y U27 Y in_3 nz Y Y (nl (GExpr.len e0))) Y)) (a_op (g_x Y (x_p Y (u_ld Y Y U3 Y Y (GExpr.sub0 e0)) Y)) (a_op (g_x Y (x_p Y (p_callp Y Y Y Tryd.func55 Y Y (g_expr_wants_ac h3) ⟨Y, trivial⟩) Y)) (a_nil))))))) ?_)))))
 refine t_op Y Y (PureD.opD (p_ine Y Y Y)) (t_gho (Gho_st (L := [(1, .q 1 (0)), (17, .b (decide ((e0.Args.length : Int) ≠ r'1)))]) (H := [(1, .pure (GExpr.cs e0))]) (N := 61) Y ⟨TLes.same _, TLes.same _, trivial⟩ ⟨Y, trivial⟩) (if2 H Y (fun h4 H => ?_) (fun h4 H => ?_)))
 ·refine sg [0] Y (ra Y (rz [(2, .i (3 : Int))] [] Y (AW2_ret ?_)))
  obtain rfl := se H
  exact ⟨⟨rt, trivial⟩, trivial⟩
 refine as2 [(1, .q 1 (0))] [(1, .pure (GExpr.cs e0))] Y (AW2_skip (AW2_seq (AW2_seq (AW2_mid (⟨[(1, .q 1 (0)), (35, .b (decide (((decide (e0.Op = (2 : Int))) ≠ (decide (e0.Name ≠ []))) ∨ ((e0.Op ≠ (1 : Int)) ∧ (e0.Value ≠ GValue.zero)))))], [(1, .pure (GExpr.cs e0))], 61⟩ : TS) ?_ ?_))))
 ·refine AW2_reg [0,1,2,3,4,5,6,7,8,9,10,11,12,13,14,15,16,17] Y (rf Y U27 Y in_3 Y Y (GExpr.len e0) (rp Y (u_ld Y Y U3 Y Y (GExpr.sub0 e0)) (rp Y (p_ieq Y Y Y) (rf Y U27 Y in_9 Y Y (GExpr.len e0) (rp Y (u_ld Y Y U9 Y Y (GExpr.sub2 e0)) (rp Y (p_sne Y Y Y) ?_))))))
  refine rp Y (p_bnep Y U4 Y Y) (rm Y ?_)
  refine (Classical.em ((decide (e0.Op = (2 : Int))) ≠ (decide (e0.Name ≠ [])))).elim (fun h5 => ?_) (fun h5 => ?_)
  ·refine rO Y (dT h5) Y (rO Y (dT h5) Y (rO Y (dT h5) Y (rO Y (dT h5) Y (r_off2 Y Y Y Y Y Y (r_off2 Y Y Y Y Y Y (r_off2 Y Y Y Y Y Y ?_))))))
   exact r_off2 Y Y Y Y Y Y (rO Y (dT h5) Y (rp Y (p_pkt Y Y (dT h5) (tb (dT (p := ((decide (e0.Op = (2 : Int))) ≠ (decide (e0.Name ≠ []))) ∨ ((e0.Op ≠ (1 : Int)) ∧ (e0.Value ≠ GValue.zero))) (Or.inl h5)).symm)) (rend Y Y)))
  refine rn Y (dF h5) Y (u_fa Y Y U27 Y in_3 nz Y Y (nl (GExpr.len e0))) (rn Y (dF h5) Y (u_ld Y Y U3 Y Y (GExpr.sub0 e0)) (rn Y (dF h5) Y (p_ine Y Y Y) (rn Y (dF h5) Y (p_move Y Y) ?_)))
  refine (Classical.em (e0.Op ≠ (1 : Int))).elim (fun h6 => ?_) (fun h6 => ?_)
  ·exact rn Y (dT h6) Y (u_fa Y Y U27 Y in_24 nz Y Y (nl (GExpr.len e0))) (rn Y (dT h6) Y (u_lda Y Y U24 Y in_24 Y np (GExpr.sub1 e0) (GValue.len e0.Value)) (rn Y (dT h6) Y (u_bld Y in_24 one_24 zc_24 pl_24 Y Y) (rn Y (dT h6) Y (p_nea (a := e0.Value) (b := GValue.zero) Y eq_24 Y (by kernel_rfl) Y Y) (rn Y (dF h5) Y (p_pkt Y Y (dT h6) (tb ((and_l (p := e0.Op ≠ (1 : Int)) (q := e0.Value ≠ GValue.zero) h6)))) (rp Y (p_pkf Y Y (dF h5) (tb ((or_l (p := (decide (e0.Op = (2 : Int))) ≠ (decide (e0.Name ≠ []))) (q := (e0.Op ≠ (1 : Int)) ∧ (e0.Value ≠ GValue.zero)) h5)))) (rend Y Y))))))
  exact rO Y (dF h6) Y (rO Y (dF h6) Y (rO Y (dF h6) Y (rO Y (dF h6) Y (rn Y (dF h5) Y (p_pkf Y Y (dF h6) (tb (dF (p := (e0.Op ≠ (1 : Int)) ∧ (e0.Value ≠ GValue.zero)) (fun x => h6 x.1)).symm)) (rp Y (p_pkf Y Y (dF h5) (tb ((or_l (p := (decide (e0.Op = (2 : Int))) ≠ (decide (e0.Name ≠ []))) (q := (e0.Op ≠ (1 : Int)) ∧ (e0.Value ≠ GValue.zero)) h5)))) (rend Y Y))))))
 refine if2 H Y (fun h7 H => ?_) (fun h7 H => ?_)
 ·refine sg [0] Y (ra Y (rz [(2, .i (3 : Int))] [] Y (AW2_ret ?_)))
  obtain rfl := se H
  exact ⟨⟨rt, trivial⟩, trivial⟩
 refine as2 [(1, _)] [(1, _)] Y (AW2_skip (AW2_seq (AW2_seq (bindK H fun g'4 h11 H => AW2_mid (⟨[(1, .q 1 (0)), (45, .b g'4)], [(1, .pure (GExpr.cs e0))], 61⟩ : TS) ?_ ?_))))
 ·clear H
  have H := h11
  clear h11
  refine AW2_reg [0,1,2,3,4,5,6,7,8,9] Y (rf Y U27 Y in_3 Y Y (GExpr.len e0) (rp Y (u_ld Y Y U3 Y Y (GExpr.sub0 e0)) (rp Y (p_ieq Y Y Y) (rm Y (em2 H (fun h9 H => ?_) (fun h9 H => ?_))))))
  ·refine rn Y (dT h9) Y (u_fa Y Y U27 Y in_9 nz Y Y (nl (GExpr.len e0))) (rn Y (dT h9) Y (u_ld Y Y U9 Y Y (GExpr.sub2 e0)) (rn Y (dT h9) Y (u_bld Y in_86 one_86 zc_86 pl_86 Y (af_cons Y Y (GToken.upd0 GToken.zero (1 : Int)) (af_cons Y Y (GToken.upd1 ((GToken.w0 GToken.zero (1 : Int))) e0.Name) Y))) (bindK H fun r'3 h10 H => rn Y (dT h9) Y (p_callp Y Y Y Tryd.func52 Y Y (g_lex_Check_ac h10) ⟨Y, trivial⟩) (rn Y (dT h9) Y (p_ine Y Y Y) (rp Y (p_pkt Y Y (dT h9) (.same _)) ?_)))))
   refine rs [(1, .q 1 (0)), (45, .b (decide (r'3 ≠ (0 : Int))))] [(1, .pure (GExpr.cs e0))] Y ?_
   obtain rfl := se H
   exact RunW_nil rfl
  refine rO Y (dF h9) Y (rO Y (dF h9) Y (rO Y (dF h9) Y (rO Y (dF h9) Y (rO Y (dF h9) Y (rp Y (p_pkf Y Y (dF h9) (.same _)) (rs [(1, .q 1 (0)), (45, .b false)] [(1, .pure (GExpr.cs e0))] Y ?_))))))
  obtain rfl := se H
  exact RunW_nil rfl
 refine AW2_cond Y (fun h12 => ?_) (fun h12 => ?_)
 ·replace H := ite_then h12 H
  refine sg [0] Y (ra Y (rz [(2, .i (3 : Int))] [] Y (AW2_ret ?_)))
  obtain rfl := se H
  exact ⟨⟨rt, trivial⟩, trivial⟩
 replace H := ite_else (ne_true h12) H
 refine as2 [(1, .q 1 (0))] [(1, .pure (GExpr.cs e0))] Y (AW2_skip (AW2_seq (AW2_seq (bindK H fun g'7 h17 H => AW2_mid (⟨[(60, .b g'7)], [], 61⟩ : TS) ?_ ?_))))
 ·clear H
  have H := h17
  clear h17
  refine AW2_reg [0,1,2,3,4,5,6,7,8,9,10,11,12,13,14] Y (rf Y U27 Y in_3 Y Y (GExpr.len e0) (rp Y (u_ld Y Y U3 Y Y (GExpr.sub0 e0)) (rp Y (p_ieq Y Y Y) (rm Y (em2 H (fun h14 H => ?_) (fun h14 H => ?_))))))
  ·refine rn Y (dT h14) Y (u_fa Y Y U27 Y in_24 nz Y Y (nl (GExpr.len e0))) (rn Y (dT h14) Y (u_lda Y Y U24 Y in_24 Y np (GExpr.sub1 e0) (GValue.len e0.Value)) (bindK H fun r'6 h15 H => rn Y (dT h14) Y (p_callp Y Y Y Tryd.func40 Y Y (g_value_Check_ac h15) ⟨Y, trivial⟩) (rn Y (dT h14) Y (p_ine Y Y Y) (rn Y (dT h14) Y (p_move Y Y) (em2 H (fun h16 H => ?_) (fun h16 H => ?_))))))
   ·refine rO Y (dT h16) Y (rO Y (dT h16) Y (rO Y (dT h16) Y (rO Y (dT h16) Y (rn Y (dT h14) Y (p_pkt Y Y (dT h16) (.same _)) (rp Y (p_pkt Y Y (dT h14) (.same _)) (rs [(60, .b true)] [] Y ?_))))))
    obtain rfl := se H
    exact RunW_nil rfl
   refine rn Y (dF h16) Y (u_fa Y Y U27 Y in_24 nz Y Y (nl (GExpr.len e0))) (rn Y (dF h16) Y (u_fa Y Y U24 Y in_3 nz Y Y (nl (GExpr.len e0))) (rn Y (dF h16) Y (u_ld Y Y U3 Y Y ((GExpr.sub1 e0).trans (GValue.sub1 e0.Value))) (rn Y (dF h16) Y (p_bin Y Y Y Y) (rn Y (dT h14) Y (p_pkf Y Y (dF h16) (.same _)) (rp Y (p_pkt Y Y (dT h14) (.same _)) (rs [(60, .b (decide (e0.Value.Int_ < (0 : Int))))] [] Y ?_))))))
   obtain rfl := se H
   exact RunW_nil rfl
  refine rO Y (dF h14) Y (rO Y (dF h14) Y (rO Y (dF h14) Y (rO Y (dF h14) Y (rO Y (dF h14) Y (r_off2 Y Y Y Y Y Y (r_off2 Y Y Y Y Y Y ?_))))))
  refine r_off2 Y Y Y Y Y Y (r_off2 Y Y Y Y Y Y (rO Y (dF h14) Y (rp Y (p_pkf Y Y (dF h14) (.same _)) (rs [(60, .b false)] [] Y ?_))))
  obtain rfl := se H
  exact RunW_nil rfl
 refine AW2_cond Y (fun h18 => ?_) (fun h18 => ?_)
 ·replace H := ite_then h18 H
  refine sg [0] Y (ra Y (rz [(2, .i (3 : Int))] [] Y (AW2_ret ?_)))
  obtain rfl := se H
  exact ⟨⟨rt, trivial⟩, trivial⟩
 replace H := ite_else (ne_true h18) H
 refine as2 [] [] Y (AW2_skip (sg [0] Y (ra Y (rz [(2, .i (0 : Int))] [] Y (AW2_ret ?_)))))
 obtain rfl := se H
 exact ⟨⟨rt, trivial⟩, trivial⟩
noncomputable def g_expr_nodes_l0 (e0 : GExpr) (R' : GExpr → Option Int) : Int → Option (Int ⊕ (Int ⊕ Unit))
  | t15_0 => (if t15_0 < (e0.Args.length : Int) then if 0 ≤ t15_0 ∧ t15_0 < (e0.Args.length : Int) then (R' (lrd e0.Args t15_0.toNat)).bind fun r'2 => (if r'2 ≠ (0 : Int) then some (.inr (.inl r'2)) else some (.inl (w64 (t15_0 + (1 : Int))))) else none else some (.inr (.inr ())))
noncomputable def g_expr_nodes_b (R' : GExpr → Option Int) (e0 : GExpr) : Option (Int) :=
  (g_expr_node e0).bind fun r'1 => (if r'1 ≠ (0 : Int) then some r'1 else (loopO (g_expr_nodes_l0 e0 R') (0 : Int)).bind fun o'6 => match o'6 with | .inl y'7 => some y'7 | .inr (y'8) => some (0 : Int))
noncomputable def g_expr_nodes : Nat → GExpr → Option Int
  | 0, _ => none
  | fu + 1, e0 => g_expr_nodes_b (g_expr_nodes fu) e0
set_option maxHeartbeats 4000000 in
set_option maxRecDepth 100000 in
theorem g_expr_nodes_ac0 {R' : GExpr → Option Int} (hR : ∀ {e0 : GExpr} {r : Int}, R' e0 = some r → ACp Tryd.prog 27 [(.agg (GExpr.cs e0))] (AV.int r)) {e0 : GExpr} {r : Int} (H : g_expr_nodes_b R' e0 = some r) : ACp Tryd.prog 27 [(.agg (GExpr.cs e0))] (AV.int r) := by
 refine ACp_of (AC2_of_body (vs := [.i r]) Tryd.func27 Y Y (lb Y) Y ?_) (fun _ => .same _)
 unfold g_expr_nodes_b at H
 refine as2 [(0, .g (GExpr.cs e0))] [] Y (sg [0,1] Y (rq Y (MakeD.opD (n_box 1 Y Y) Y Y Y Y) (ra Y (rz [(1, .q 1 (0))] [(1, .pure (GExpr.cs e0))] Y (AW2_seq (sg [0,1,2] Y ?_))))))
 refine rp Y (u_lda Y Y U27 Y in_27 Y np (Sub.refl _) (GExpr.len e0)) (bindK H fun r'1 h1 H => rp Y (p_callp Y Y Y Tryd.func39 Y Y (g_expr_node_ac h1) ⟨Y, trivial⟩) (ra Y (rz [(1, _), (3, .i r'1)] [(1, _)] Y (sg [0,1] Y (rm Y ?_)))))
 refine rp Y (p_ine Y Y Y) (rz [(1, _), (3, _), (10, .b (decide (r'1 ≠ (0 : Int))))] [(1, _)] Y (if2 H Y (fun h2 H => ?_) (fun h2 H => ?_)))
 ·refine sg [0,1] Y (rm Y (ra Y (rz [(2, .i r'1)] [] Y (AW2_ret ?_))))
  obtain rfl := se H
  exact ⟨⟨rt, trivial⟩, trivial⟩
 refine as2 [(1, _)] [(1, _)] Y (AW2_skip (AW2_seq (sg [0,1,2,3] Y (rf Y U27 Y in_25 Y Y (GExpr.len e0) (rp Y (u_ld Y Y U25 Y Y (GExpr.sub3 e0)) (rp Y (p_lenl Y U25 Y Y) ?_))))))
 refine rm Y (rz [(13, .p (GExpr.ls e0.Args)), (14, .i (e0.Args.length : Int)), (15, .i (0 : Int))] [] Y (AW2_block (as2 [(13, _), (14, _), (15, _)] [] Y (bindK H fun o'6 h7 H => AW2_loopO (fun a'3 : Int => (⟨[(13, .p (GExpr.ls e0.Args)), (14, .i (e0.Args.length : Int)), (15, .i a'3)], [], 25⟩ : TS)) (fun (o : Int ⊕ Unit) e s' => match o with | .inl y'4 => e = Go.Exit.ret ∧ ResAll Tryd.prog s' [ResultVar.tmp 2] [.i y'4] ∧ HFits s' [] | .inr (y'5) => e = Go.Exit.exit 0 ∧ s' = (⟨[], [], 25⟩ : TS)) h7 Y (fun t15_0 x hx => ?_) (fun e s' hs => ?_)))))
 ·clear H
  have H := hx
  clear hx
  unfold g_expr_nodes_l0 at H
  refine sg [0] Y (rp Y (p_bin Y Y Y Y) (rz [(13, .p (GExpr.ls e0.Args)), (14, .i (e0.Args.length : Int)), (15, .i t15_0), (16, .b (decide (t15_0 < (e0.Args.length : Int))))] [] Y (AW2_seq (if2 H Y (fun h3 H => ?_) (fun h3 H => ?_)))))
  ·refine as2 [(13, _), (14, _), (15, _)] [] Y (AW2_skip (AW2_seq (AW2_block (sg [0,1,2,3] Y (chkK H fun h4 H => rp Y (u_ixl Y Y U25 in_27 Y Y (ixe h4) (ixn h4) (fne (fun x => (GExpr.len x)) (by decide) (ixn h4))) ?_)))))
   refine rp Y (u_lda Y Y U27 Y in_27 Y np (Sub.fm default (fun x => (GExpr.len x)) (ixn h4)) (GExpr.len (lrd e0.Args t15_0.toNat))) (rq Y (MakeD.opD (u_alloc 5 Y in_27 one_27 zc_27) Y Y Y Y) (rq Y (u_sw Y Y Y Y Y in_27 (GExpr.len (lrd e0.Args t15_0.toNat)) (GExpr.len GExpr.zero) Y) (rz [(5, .q 5 (0)), (13, _), (14, _), (15, _)] [(5, .pure (GExpr.cs (lrd e0.Args t15_0.toNat)))] Y (sg [0,1,2] Y (rp Y (u_lda Y Y U27 Y in_27 Y np (Sub.refl _) (GExpr.len (lrd e0.Args t15_0.toNat))) (bindK H fun r'2 h5 H => ?_))))))
   refine rp Y (p_callp Y Y Y Tryd.func27 Y Y (hR h5) ⟨Y, trivial⟩) (ra Y (rz [(6, .i r'2), (13, _), (14, _), (15, _)] [] Y (sg [0,1] Y (rm Y (rp Y (p_ine Y Y Y) (rz [(6, _), (13, _), (14, _), (15, _), (22, .b (decide (r'2 ≠ (0 : Int))))] [] Y ?_))))))
   refine if2 H Y (fun h6 H => ?_) (fun h6 H => ?_)
   ·refine sg [0,1] Y (rm Y (ra Y (rz [(2, .i r'2)] [] Y (AW2_ret ?_))))
    obtain rfl := se H
    exact ⟨Y, ⟨rt, trivial⟩, trivial⟩
   refine as2 [(13, _), (14, _), (15, _)] [] Y (AW2_skip (AW2_reg [0,1] Y (rp Y (p_bin Y Y Y Y) (rm Y (rz [(13, _), (14, _), (15, .i (w64 (t15_0 + (1 : Int))))] [] Y ?_)))))
   obtain rfl := se H
   exact ⟨Y, Y⟩
  refine as2 [] [] Y (AW2_exit (thenQ2_exit ?_))
  obtain rfl := se H
  exact ⟨Y, Y⟩
 rcases o'6 with y'7 | y'8
 ·obtain ⟨rfl, hs⟩ := hs
  refine ⟨by simp, ?_⟩
  obtain rfl := se H
  exact ⟨hs.1, hs.2⟩
 obtain ⟨rfl, rfl⟩ := hs
 refine ⟨by simp, ?_⟩
 refine blockQ2_exit (sg [0] Y (ra Y (rz [(2, .i (0 : Int))] [] Y (AW2_ret ?_))))
 obtain rfl := se H
 exact ⟨⟨rt, trivial⟩, trivial⟩
theorem g_expr_nodes_acN : ∀ (fu : Nat) {e0 : GExpr} {r : Int}, g_expr_nodes fu e0 = some r → ACp Tryd.prog 27 [(.agg (GExpr.cs e0))] (AV.int r)
 | 0, _, _, H => (by cases H)
 | fu + 1, _, _, H => g_expr_nodes_ac0 (g_expr_nodes_acN fu) H
theorem g_expr_nodes_ac {e0 : GExpr} {r : Int} (H : g_expr_nodes 100000 e0 = some r) : ACp Tryd.prog 27 [(.agg (GExpr.cs e0))] (AV.int r) := g_expr_nodes_acN 100000 H
noncomputable def g_expr_Check (e0 : GExpr) : Option (Int) :=
  (g_expr_size 100000 e0 (1 : Int)).bind fun r'1 => (if (!r'1.2) = true then some (1 : Int) else (g_expr_nodes 100000 e0).bind fun r'2 => some r'2)
set_option maxHeartbeats 4000000 in
set_option maxRecDepth 100000 in
theorem g_expr_Check_ac {e0 : GExpr} {r : Int} (H : g_expr_Check e0 = some r) : ACp Tryd.prog 13 [(.agg (GExpr.cs e0))] (AV.int r) := by
 refine ACp_of (AC2_of_body (vs := [.i r]) Tryd.func13 Y Y (lb Y) Y ?_) (fun _ => .same _)
 unfold g_expr_Check at H
 refine as2 [(0, .g (GExpr.cs e0))] [] Y (sg [0,1] Y (rq Y (MakeD.opD (n_box 1 Y Y) Y Y Y Y) (ra Y (rz [(1, .q 1 (0))] [(1, .pure (GExpr.cs e0))] Y (AW2_seq (sg [0,1,2,3,4,5,6] Y ?_))))))
 refine rp Y (u_lda Y Y U27 Y in_27 Y np (Sub.refl _) (GExpr.len e0)) (bindK H fun r'1 h1 H => rp Y (p_callp Y Y Y Tryd.func26 Y Y (g_expr_size_ac h1) ⟨Y, Y, trivial⟩) (rm Y (rp Y (p_ext Y Y Y Y) (rp Y (p_ext Y Y Y Y) (ra Y ?_)))))
 refine ra Y (rz [(1, _), (4, .b r'1.2)] [(1, _)] Y (sg [0,1] Y (rm Y (rp Y (p_not Y Y) (rz [(1, _), (11, .b (!r'1.2))] [(1, _)] Y (AW2_cond Y (fun h2 => ?_) (fun h2 => ?_)))))))
 ·replace H := ite_then h2 H
  refine sg [0] Y (ra Y (rz [(2, .i (1 : Int))] [] Y (AW2_ret ?_)))
  obtain rfl := se H
  exact ⟨⟨rt, trivial⟩, trivial⟩
 replace H := ite_else (ne_true h2) H
 refine as2 [(1, .q 1 (0))] [(1, .pure (GExpr.cs e0))] Y (AW2_skip (sg [0,1,2] Y (rp Y (u_lda Y Y U27 Y in_27 Y np (Sub.refl _) (GExpr.len e0)) (bindK H fun r'2 h3 H => rp Y (p_callp Y Y Y Tryd.func27 Y Y (g_expr_nodes_ac h3) ⟨Y, trivial⟩) (ra Y ?_)))))
 refine rz [(2, .i r'2)] [] Y (AW2_ret ?_)
 obtain rfl := se H
 exact ⟨⟨rt, trivial⟩, trivial⟩
noncomputable def g_kinds_Columns_l1 (cols0 : List GColumn) (t12_0 : Int) : Int → Option (Int ⊕ (Int ⊕ Unit))
  | t34_1 => (if t34_1 < ((cut cols0 (0 : Int) t12_0).length : Int) then if 0 ≤ t34_1 ∧ t34_1 < ((cut cols0 (0 : Int) t12_0).length : Int) then (if (lrd (cut cols0 (0 : Int) t12_0) t34_1.toNat).Name = (lrd cols0 t12_0.toNat).Name then some (.inr (.inl (8 : Int))) else some (.inl (w64 (t34_1 + (1 : Int))))) else none else some (.inr (.inr ())))
noncomputable def g_kinds_Columns_l0 (cols0 : List GColumn) : Int → Option (Int ⊕ (Int ⊕ Unit))
  | t12_0 => (if t12_0 < (cols0.length : Int) then if 0 ≤ t12_0 ∧ t12_0 < (cols0.length : Int) then (g_lex_Check ({ { GToken.zero with Kind := (1 : Int) } with Text := (lrd cols0 t12_0.toNat).Name })).bind fun r'1 => (if r'1 ≠ (0 : Int) then some (.inr (.inl (3 : Int))) else (if ((lrd cols0 t12_0.toNat).Kind < (1 : Int)) ∨ ((lrd cols0 t12_0.toNat).Kind > (4 : Int)) then some (.inr (.inl (2 : Int))) else if 0 ≤ t12_0 ∧ t12_0 ≤ (cols0.length : Int) then (loopO (g_kinds_Columns_l1 cols0 t12_0) (0 : Int)).bind fun o'5 => match o'5 with | .inl y'6 => some (.inr (.inl y'6)) | .inr (y'7) => some (.inl (w64 (t12_0 + (1 : Int)))) else none)) else none else some (.inr (.inr ())))
noncomputable def g_kinds_Columns (cols0 : List GColumn) : Option (Int) :=
  (if (cols0.length : Int) > (5 : Int) then some (1 : Int) else (loopO (g_kinds_Columns_l0 cols0) (0 : Int)).bind fun o'11 => match o'11 with | .inl y'12 => some y'12 | .inr (y'13) => some (0 : Int))
set_option maxHeartbeats 4000000 in
set_option maxRecDepth 100000 in
theorem g_kinds_Columns_ac {cols0 : List GColumn} {r : Int} (H : g_kinds_Columns cols0 = some r) : ACp Tryd.prog 36 [(GColumn.ls cols0)] (AV.int r) := by
 refine ACp_of (AC2_of_body (vs := [.i r]) Tryd.func36 Y Y (lb Y) Y ?_) (fun _ => .same _)
 unfold g_kinds_Columns at H
 refine as2 [(0, .p (GColumn.ls cols0))] [] Y (sg [0] Y (ra Y (rz [(0, _)] [] Y (AW2_seq (sg [0,1,2] Y (rm Y ?_))))))
 refine rp Y (p_lenl Y U28 Y Y) (rp Y (p_bin Y Y Y Y) (rz [(0, _), (9, .b (decide ((cols0.length : Int) > (5 : Int))))] [] Y (if2 H Y (fun h1 H => ?_) (fun h1 H => ?_))))
 ·refine sg [0] Y (ra Y (rz [(2, .i (1 : Int))] [] Y (AW2_ret ?_)))
  obtain rfl := se H
  exact ⟨⟨rt, trivial⟩, trivial⟩
 refine as2 [(0, _)] [] Y (AW2_skip (AW2_seq (sg [0,1,2] Y (rm Y (rp Y (p_lenl Y U28 Y Y) (rm Y ?_))))))
 refine rz [(0, _), (10, .p (GColumn.ls cols0)), (11, .i (cols0.length : Int)), (12, .i (0 : Int))] [] Y (AW2_block (as2 [(0, _), (10, _), (11, _), (12, _)] [] Y (bindK H fun o'11 h13 H => AW2_loopO (fun a'8 : Int => (⟨[(0, .p (GColumn.ls cols0)), (10, .p (GColumn.ls cols0)), (11, .i (cols0.length : Int)), (12, .i a'8)], [], 45⟩ : TS)) (fun (o : Int ⊕ Unit) e s' => match o with | .inl y'9 => e = Go.Exit.ret ∧ ResAll Tryd.prog s' [ResultVar.tmp 2] [.i y'9] ∧ HFits s' [] | .inr (y'10) => e = Go.Exit.exit 0 ∧ s' = (⟨[], [], 45⟩ : TS)) h13 Y (fun t12_0 x hx => ?_) (fun e s' hs => ?_))))
 ·clear H
  have H := hx
  clear hx
  unfold g_kinds_Columns_l0 at H
  refine sg [0] Y (rp Y (p_bin Y Y Y Y) (rz [(0, .p (GColumn.ls cols0)), (10, .p (GColumn.ls cols0)), (11, .i (cols0.length : Int)), (12, .i t12_0), (13, .b (decide (t12_0 < (cols0.length : Int))))] [] Y (AW2_seq (if2 H Y (fun h2 H => ?_) (fun h2 H => ?_)))))
  ·refine as2 [(0, _), (10, _), (11, _), (12, _)] [] Y (AW2_skip (AW2_seq (AW2_block (sg [0,1,2,3,4,5] Y (rm Y (chkK H fun h3 H => ?_))))))
   refine rp Y (u_ixl Y Y U28 in_59 Y Y (ixe h3) (ixn h3) (fne (fun x => (GColumn.len x)) (by decide) (ixn h3))) (rp Y (u_lda Y Y U59 Y in_59 Y np (Sub.fm default (fun x => (GColumn.len x)) (ixn h3)) (GColumn.len (lrd cols0 t12_0.toNat))) (rq Y (MakeD.opD (u_alloc 4 Y in_59 one_59 zc_59) Y Y Y Y) (ra Y (rq Y (u_sw Y Y Y Y Y in_59 (GColumn.len (lrd cols0 t12_0.toNat)) (GColumn.len GColumn.zero) Y) (rz [(0, _), (3, .i t12_0), (4, .q 4 (0)), (10, _), (11, _), (12, _)] [(4, .pure (GColumn.cs (lrd cols0 t12_0.toNat)))] Y (AW2_seq ?_))))))
   refine sg [0,1,2,3,4] Y (rf Y U59 Y in_9 Y Y (GColumn.len (lrd cols0 t12_0.toNat)) (rp Y (u_ld Y Y U9 Y Y (GColumn.sub0 (lrd cols0 t12_0.toNat))) (rp Y (u_bld Y in_86 one_86 zc_86 pl_86 Y (af_cons Y Y (GToken.upd0 GToken.zero (1 : Int)) (af_cons Y Y (GToken.upd1 ((GToken.w0 GToken.zero (1 : Int))) ((lrd cols0 t12_0.toNat).Name)) Y))) (bindK H fun r'1 h4 H => rp Y (p_callp Y Y Y Tryd.func52 Y Y (g_lex_Check_ac h4) ⟨Y, trivial⟩) (rp Y (p_ine Y Y Y) ?_)))))
   refine rz [(0, _), (3, _), (4, _), (10, _), (11, _), (12, _), (21, .b (decide (r'1 ≠ (0 : Int))))] [(4, _)] Y (if2 H Y (fun h5 H => ?_) (fun h5 H => ?_))
   ·refine sg [0] Y (ra Y (rz [(2, .i (3 : Int))] [] Y (AW2_ret ?_)))
    obtain rfl := se H
    exact ⟨Y, ⟨rt, trivial⟩, trivial⟩
   refine as2 [(0, _), (3, _), (4, _), (10, _), (11, _), (12, _)] [(4, _)] Y (AW2_skip (AW2_seq (AW2_seq (AW2_mid (⟨[(0, .p (GColumn.ls cols0)), (3, .i t12_0), (4, .q 4 (0)), (10, .p (GColumn.ls cols0)), (11, .i (cols0.length : Int)), (12, .i t12_0), (29, .b (decide (((lrd cols0 t12_0.toNat).Kind < (1 : Int)) ∨ ((lrd cols0 t12_0.toNat).Kind > (4 : Int)))))], [(4, .pure (GColumn.cs (lrd cols0 t12_0.toNat)))], 45⟩ : TS) ?_ ?_))))
   ·refine AW2_reg [0,1,2,3,4,5,6,7] Y (rf Y U59 Y in_3 Y Y (GColumn.len (lrd cols0 t12_0.toNat)) (rp Y (u_ld Y Y U3 Y Y (GColumn.sub1 (lrd cols0 t12_0.toNat))) (rp Y (p_bin Y Y Y Y) (rm Y ?_))))
    refine (Classical.em ((lrd cols0 t12_0.toNat).Kind < (1 : Int))).elim (fun h6 => ?_) (fun h6 => ?_)
    ·exact rO Y (dT h6) Y (rO Y (dT h6) Y (rO Y (dT h6) Y (rp Y (p_pkt Y Y (dT h6) (tb (dT (p := ((lrd cols0 t12_0.toNat).Kind < (1 : Int)) ∨ ((lrd cols0 t12_0.toNat).Kind > (4 : Int))) (Or.inl h6)).symm)) (rend Y Y))))
    exact rn Y (dF h6) Y (u_fa Y Y U59 Y in_3 nz Y Y (nl (GColumn.len (lrd cols0 t12_0.toNat)))) (rn Y (dF h6) Y (u_ld Y Y U3 Y Y (GColumn.sub1 (lrd cols0 t12_0.toNat))) (rn Y (dF h6) Y (p_bin Y Y Y Y) (rp Y (p_pkf Y Y (dF h6) (tb ((or_l (p := (lrd cols0 t12_0.toNat).Kind < (1 : Int)) (q := (lrd cols0 t12_0.toNat).Kind > (4 : Int)) h6)))) (rend Y Y))))
   refine if2 H Y (fun h7 H => ?_) (fun h7 H => ?_)
   ·refine sg [0] Y (ra Y (rz [(2, .i (2 : Int))] [] Y (AW2_ret ?_)))
    obtain rfl := se H
    exact ⟨Y, ⟨rt, trivial⟩, trivial⟩
   refine as2 [(0, _), (3, _), (4, _), (10, _), (11, _), (12, _)] [(4, _)] Y (AW2_skip (sg [0,1,2,3,4] Y (rm Y (rm Y (chkK H fun h8 H => rp Y (u_cutl (g := (fun l => l.flatMap GColumn.cs)) (a := (0 : Int)) (b := t12_0) Y Y U28 in_59 Y bT_zero (bT_i (Int.le_trans (show 0 ≤ (0 : Int) ∧ (0 : Int) ≤ t12_0 ∧ t12_0 ≤ (cols0.length : Int) from ⟨Int.le_refl _, h8.1, h8.2⟩).1 (show 0 ≤ (0 : Int) ∧ (0 : Int) ≤ t12_0 ∧ t12_0 ≤ (cols0.length : Int) from ⟨Int.le_refl _, h8.1, h8.2⟩).2.1) Y) (.inl Y) (show 0 ≤ (0 : Int) ∧ (0 : Int) ≤ t12_0 ∧ t12_0 ≤ (cols0.length : Int) from ⟨Int.le_refl _, h8.1, h8.2⟩) (g_fm (fun x => (GColumn.len x)))) ?_)))))
   refine rp Y (p_lenl Y U28 Y Y) (rm Y (rz [(0, _), (4, _), (10, _), (11, _), (12, _), (32, .p (GColumn.ls (cut cols0 (0 : Int) t12_0))), (33, .i ((cut cols0 (0 : Int) t12_0).length : Int)), (34, .i (0 : Int))] [(4, _)] Y (AW2_block (as2 [(0, _), (4, _), (10, _), (11, _), (12, _), (32, _), (33, _), (34, _)] [(4, _)] Y (bindK H fun o'5 h12 H => AW2_loopO (fun a'2 : Int => (⟨[(0, .p (GColumn.ls cols0)), (4, .q 4 (0)), (10, .p (GColumn.ls cols0)), (11, .i (cols0.length : Int)), (12, .i t12_0), (32, .p (GColumn.ls (cut cols0 (0 : Int) t12_0))), (33, .i ((cut cols0 (0 : Int) t12_0).length : Int)), (34, .i a'2)], [(4, .pure (GColumn.cs (lrd cols0 t12_0.toNat)))], 45⟩ : TS)) (fun (o : Int ⊕ Unit) e s' => match o with | .inl y'3 => e = Go.Exit.ret ∧ ResAll Tryd.prog s' [ResultVar.tmp 2] [.i y'3] ∧ HFits s' [] | .inr (y'4) => e = Go.Exit.exit 2 ∧ s' = (⟨[(0, .p (GColumn.ls cols0)), (10, .p (GColumn.ls cols0)), (11, .i (cols0.length : Int)), (12, .i t12_0)], [], 45⟩ : TS)) h12 Y (fun t34_1 x hx => ?_) (fun e s' hs => ?_))))))
   ·clear H
    have H := hx
    clear hx
    unfold g_kinds_Columns_l1 at H
    refine sg [0] Y (rp Y (p_bin Y Y Y Y) (rz [(0, .p (GColumn.ls cols0)), (4, .q 4 (0)), (10, .p (GColumn.ls cols0)), (11, .i (cols0.length : Int)), (12, .i t12_0), (32, .p (GColumn.ls (cut cols0 (0 : Int) t12_0))), (33, .i ((cut cols0 (0 : Int) t12_0).length : Int)), (34, .i t34_1), (35, .b (decide (t34_1 < ((cut cols0 (0 : Int) t12_0).length : Int))))] [(4, .pure (GColumn.cs (lrd cols0 t12_0.toNat)))] Y (AW2_seq (if2 H Y (fun h9 H => ?_) (fun h9 H => ?_)))))
    ·refine as2 [(0, _), (4, _), (10, _), (11, _), (12, _), (32, _), (33, _), (34, _)] [(4, _)] Y (AW2_skip (AW2_seq (AW2_block (sg [0,1,2,3] Y (chkK H fun h10 H => rp Y (u_ixl Y Y U28 in_59 Y Y (ixe h10) (ixn h10) (fne (fun x => (GColumn.len x)) (by decide) (ixn h10))) ?_)))))
     refine rp Y (u_lda Y Y U59 Y in_59 Y np (Sub.fm default (fun x => (GColumn.len x)) (ixn h10)) (GColumn.len (lrd (cut cols0 (0 : Int) t12_0) t34_1.toNat))) (rq Y (MakeD.opD (u_alloc 6 Y in_59 one_59 zc_59) Y Y Y Y) (rq Y (u_sw Y Y Y Y Y in_59 (GColumn.len (lrd (cut cols0 (0 : Int) t12_0) t34_1.toNat)) (GColumn.len GColumn.zero) Y) (rz [(0, _), (4, _), (6, .q 6 (0)), (10, _), (11, _), (12, _), (32, _), (33, _), (34, _)] [(4, .pure (GColumn.cs (lrd cols0 t12_0.toNat))), (6, .pure (GColumn.cs (lrd (cut cols0 (0 : Int) t12_0) t34_1.toNat)))] Y (sg [0,1,2,3,4] Y (rf Y U59 Y in_9 Y Y (GColumn.len (lrd (cut cols0 (0 : Int) t12_0) t34_1.toNat)) (rp Y (u_ld Y Y U9 Y Y (GColumn.sub0 (lrd (cut cols0 (0 : Int) t12_0) t34_1.toNat))) ?_))))))
     refine rf Y U59 Y in_9 Y Y (GColumn.len (lrd cols0 t12_0.toNat)) (rp Y (u_ld Y Y U9 Y Y (GColumn.sub0 (lrd cols0 t12_0.toNat))) (rp Y (p_seq Y Y Y) (rz [(0, _), (4, _), (10, _), (11, _), (12, _), (32, _), (33, _), (34, _), (42, .b (decide ((lrd (cut cols0 (0 : Int) t12_0) t34_1.toNat).Name = (lrd cols0 t12_0.toNat).Name)))] [(4, _)] Y (if2 H Y (fun h11 H => ?_) (fun h11 H => ?_)))))
     ·refine sg [0] Y (ra Y (rz [(2, .i (8 : Int))] [] Y (AW2_ret ?_)))
      obtain rfl := se H
      exact ⟨Y, ⟨rt, trivial⟩, trivial⟩
     refine as2 [(0, _), (4, _), (10, _), (11, _), (12, _), (32, _), (33, _), (34, _)] [(4, _)] Y (AW2_skip (AW2_reg [0,1] Y (rp Y (p_bin Y Y Y Y) (rm Y (rz [(0, _), (4, _), (10, _), (11, _), (12, _), (32, _), (33, _), (34, .i (w64 (t34_1 + (1 : Int))))] [(4, _)] Y ?_)))))
     obtain rfl := se H
     exact ⟨Y, Y⟩
    refine as2 [(0, _), (10, _), (11, _), (12, _)] [] Y (AW2_exit (thenQ2_exit ?_))
    obtain rfl := se H
    exact ⟨Y, Y⟩
   rcases o'5 with y'6 | y'7
   ·obtain ⟨rfl, hs⟩ := hs
    refine ⟨by simp, ?_⟩
    obtain rfl := se H
    exact ⟨Y, hs.1, hs.2⟩
   obtain ⟨rfl, rfl⟩ := hs
   refine ⟨by simp, ?_⟩
   refine blockQ2_exit (AW2_reg [0,1] Y (rp Y (p_bin Y Y Y Y) (rm Y (rz [(0, .p (GColumn.ls cols0)), (10, .p (GColumn.ls cols0)), (11, .i (cols0.length : Int)), (12, .i (w64 (t12_0 + (1 : Int))))] [] Y ?_))))
   obtain rfl := se H
   exact ⟨Y, Y⟩
  refine as2 [] [] Y (AW2_exit (thenQ2_exit ?_))
  obtain rfl := se H
  exact ⟨Y, Y⟩
 rcases o'11 with y'12 | y'13
 ·obtain ⟨rfl, hs⟩ := hs
  refine ⟨by simp, ?_⟩
  obtain rfl := se H
  exact ⟨hs.1, hs.2⟩
 obtain ⟨rfl, rfl⟩ := hs
 refine ⟨by simp, ?_⟩
 refine blockQ2_exit (sg [0] Y (ra Y (rz [(2, .i (0 : Int))] [] Y (AW2_ret ?_))))
 obtain rfl := se H
 exact ⟨⟨rt, trivial⟩, trivial⟩
def g_kinds_fits_r14 : List (List (Nat × Option Nat)) := [[(7, none)], [(44, some 0)], [(45, some 1)], [(46, some 2)], [(7, none), (47, some 3)], [(47, some 3), (48, some 4)], [(1, none), (47, some 3)], [(6, none), (47, some 3)], [(47, some 3), (50, some 6), (51, some 7)], [(47, some 3), (52, some 8)], [(47, some 3), (53, some 9)]]
def g_kinds_fits_r14c : List (List Nat) := [[], [0], [0, 1], [0, 1, 2], [0, 1, 2, 3], [0, 1, 2, 3, 4], [0, 1, 2, 3], [0, 1, 2, 3], [0, 1, 2, 3, 6, 7], [0, 1, 2, 3, 6, 7, 8], [0, 1, 2, 3, 6, 7, 8, 9], [0, 1, 2, 3, 4, 5, 6, 7, 8, 9, 10], [0, 1, 2, 3, 4, 5, 6, 7, 8, 9, 10, 11], [0, 1, 2, 3, 4, 5, 6, 7, 8, 9, 10, 11, 12]]
noncomputable def g_kinds_fits_l0 (row0 : List GValue) (cols1 : List GColumn) : Int → Option (Int ⊕ (Int ⊕ Unit))
  | t21_0 => (if t21_0 < (row0.length : Int) then if 0 ≤ t21_0 ∧ t21_0 < (row0.length : Int) then (g_value_Check (lrd row0 t21_0.toNat)).bind fun r'2 => (if r'2 ≠ (0 : Int) then some (.inr (.inl r'2)) else ((if (lrd row0 t21_0.toNat).Kind = (0 : Int) then if 0 ≤ t21_0 ∧ t21_0 < (cols1.length : Int) then some (!((lrd cols1 t21_0.toNat).Null)) else none else some false)).bind fun g'3 => (if g'3 = true then some (.inr (.inl (12 : Int))) else ((if (lrd row0 t21_0.toNat).Kind ≠ (0 : Int) then if 0 ≤ t21_0 ∧ t21_0 < (cols1.length : Int) then some (decide ((lrd row0 t21_0.toNat).Kind ≠ (lrd cols1 t21_0.toNat).Kind)) else none else some false)).bind fun g'4 => (if g'4 = true then some (.inr (.inl (2 : Int))) else some (.inl (w64 (t21_0 + (1 : Int))))))) else none else some (.inr (.inr ())))
noncomputable def g_kinds_fits (row0 : List GValue) (cols1 : List GColumn) : Option (Int) :=
  (g_kinds_Columns cols1).bind fun r'1 => (if r'1 ≠ (0 : Int) then some r'1 else (if (row0.length : Int) ≠ (cols1.length : Int) then some (1 : Int) else (loopO (g_kinds_fits_l0 row0 cols1) (0 : Int)).bind fun o'8 => match o'8 with | .inl y'9 => some y'9 | .inr (y'10) => some (0 : Int)))
set_option maxHeartbeats 4000000 in
set_option maxRecDepth 100000 in
theorem g_kinds_fits_ac {row0 : List GValue} {cols1 : List GColumn} {r : Int} (H : g_kinds_fits row0 cols1 = some r) : ACp Tryd.prog 28 [(GValue.ls row0), (GColumn.ls cols1)] (AV.int r) := by
 refine ACp_of (AC2_of_body (vs := [.i r]) Tryd.func28 Y Y (lb Y) Y ?_) (fun _ => .same _)
 unfold g_kinds_fits at H
 refine as2 [(0, .p (GValue.ls row0)), (1, .p (GColumn.ls cols1))] [] Y (sg [0] Y (ra Y (rz [(0, _), (1, _)] [] Y (AW2_seq (sg [0,1,2] Y (rm Y ?_))))))
 refine bindK H fun r'1 h1 H => rp Y (p_callp Y Y Y Tryd.func36 Y Y (g_kinds_Columns_ac h1) ⟨Y, trivial⟩) (ra Y (rz [(0, _), (1, _), (5, .i r'1)] [] Y (sg [0,1] Y (rm Y (rp Y (p_ine Y Y Y) ?_)))))
 refine rz [(0, _), (1, _), (5, _), (12, .b (decide (r'1 ≠ (0 : Int))))] [] Y (if2 H Y (fun h2 H => ?_) (fun h2 H => ?_))
 ·refine sg [0,1] Y (rm Y (ra Y (rz [(4, .i r'1)] [] Y (AW2_ret ?_))))
  obtain rfl := se H
  exact ⟨⟨rt, trivial⟩, trivial⟩
 refine as2 [(0, _), (1, _)] [] Y (AW2_skip (AW2_seq (sg [0,1,2,3,4] Y (rm Y (rp Y (p_lenl Y U29 Y Y) (rm Y ?_))))))
 refine rp Y (p_lenl Y U28 Y Y) (rp Y (p_ine Y Y Y) (rz [(0, _), (1, _), (18, .b (decide ((row0.length : Int) ≠ (cols1.length : Int))))] [] Y (if2 H Y (fun h3 H => ?_) (fun h3 H => ?_))))
 ·refine sg [0] Y (ra Y (rz [(4, .i (1 : Int))] [] Y (AW2_ret ?_)))
  obtain rfl := se H
  exact ⟨⟨rt, trivial⟩, trivial⟩
 refine as2 [(0, _), (1, _)] [] Y (AW2_skip (AW2_seq (sg [0,1,2] Y (rm Y (rp Y (p_lenl Y U29 Y Y) (rm Y ?_))))))
 refine rz [(1, _), (19, .p (GValue.ls row0)), (20, .i (row0.length : Int)), (21, .i (0 : Int))] [] Y (AW2_block (as2 [(1, _), (19, _), (20, _), (21, _)] [] Y (bindK H fun o'8 h18 H => AW2_loopO (fun a'5 : Int => (⟨[(1, .p (GColumn.ls cols1)), (19, .p (GValue.ls row0)), (20, .i (row0.length : Int)), (21, .i a'5)], [], 58⟩ : TS)) (fun (o : Int ⊕ Unit) e s' => match o with | .inl y'6 => e = Go.Exit.ret ∧ ResAll Tryd.prog s' [ResultVar.tmp 4] [.i y'6] ∧ HFits s' [] | .inr (y'7) => e = Go.Exit.exit 0 ∧ s' = (⟨[], [], 58⟩ : TS)) h18 Y (fun t21_0 x hx => ?_) (fun e s' hs => ?_))))
 ·clear H
  have H := hx
  clear hx
  unfold g_kinds_fits_l0 at H
  refine sg [0] Y (rp Y (p_bin Y Y Y Y) (rz [(1, .p (GColumn.ls cols1)), (19, .p (GValue.ls row0)), (20, .i (row0.length : Int)), (21, .i t21_0), (22, .b (decide (t21_0 < (row0.length : Int))))] [] Y (AW2_seq (if2 H Y (fun h4 H => ?_) (fun h4 H => ?_)))))
  ·refine as2 [(1, _), (19, _), (20, _), (21, _)] [] Y (AW2_skip (AW2_seq (AW2_block (sg [0,1,2,3,4,5] Y (rm Y (chkK H fun h5 H => ?_))))))
   refine rp Y (u_ixl Y Y U29 in_24 Y Y (ixe h5) (ixn h5) (fne (fun x => (GValue.len x)) (by decide) (ixn h5))) (rp Y (u_lda Y Y U24 Y in_24 Y np (Sub.fm default (fun x => (GValue.len x)) (ixn h5)) (GValue.len (lrd row0 t21_0.toNat))) (rq Y (MakeD.opD (u_alloc 7 Y in_24 one_24 zc_24) Y Y Y Y) (ra Y (rq Y (u_sw Y Y Y Y Y in_24 (GValue.len (lrd row0 t21_0.toNat)) (GValue.len GValue.zero) Y) (rz [(1, _), (6, .i t21_0), (7, .q 7 (0)), (19, _), (20, _), (21, _)] [(7, .pure (GValue.cs (lrd row0 t21_0.toNat)))] Y (AW2_seq ?_))))))
   refine sg [0,1,2] Y (rp Y (u_lda Y Y U24 Y in_24 Y np (Sub.refl _) (GValue.len (lrd row0 t21_0.toNat))) (bindK H fun r'2 h6 H => rp Y (p_callp Y Y Y Tryd.func40 Y Y (g_value_Check_ac h6) ⟨Y, trivial⟩) (ra Y (rz [(1, _), (6, _), (7, _), (8, .i r'2), (19, _), (20, _), (21, _)] [(7, _)] Y (sg [0,1] Y ?_)))))
   refine rm Y (rp Y (p_ine Y Y Y) (rz [(1, _), (6, _), (7, _), (8, _), (19, _), (20, _), (21, _), (29, .b (decide (r'2 ≠ (0 : Int))))] [(7, _)] Y (if2 H Y (fun h7 H => ?_) (fun h7 H => ?_))))
   ·refine sg [0,1] Y (rm Y (ra Y (rz [(4, .i r'2)] [] Y (AW2_ret ?_))))
    obtain rfl := se H
    exact ⟨Y, ⟨rt, trivial⟩, trivial⟩
   refine as2 [(1, _), (6, _), (7, _), (19, _), (20, _), (21, _)] [(7, _)] Y (AW2_skip (AW2_block (AW2_seq (bindK H fun g'3 h11 H => AW2_mid (⟨[(1, .p (GColumn.ls cols1)), (6, .i t21_0), (7, .q 7 (0)), (19, .p (GValue.ls row0)), (20, .i (row0.length : Int)), (21, .i t21_0), (31, .b g'3)], [(7, .pure (GValue.cs (lrd row0 t21_0.toNat)))], 58⟩ : TS) ?_ ?_))))
   ·clear H
    have H := h11
    clear h11
    refine AW2_reg [0,1,2,3,4,5,6,7,8,9,10,11] Y (rf Y U24 Y in_3 Y Y (GValue.len (lrd row0 t21_0.toNat)) (rp Y (u_ld Y Y U3 Y Y (GValue.sub0 (lrd row0 t21_0.toNat))) (rp Y (p_ieq Y Y Y) (rm Y (em2 H (fun h9 H => ?_) (fun h9 H => ?_))))))
    ·refine rn Y (dT h9) Y (p_move Y Y) (rn Y (dT h9) Y (p_move Y Y) (chkK H fun h10 H => rn Y (dT h9) Y (u_ixl Y Y U28 in_59 Y Y (ixe h10) (ixn h10) (fne (fun x => (GColumn.len x)) (by decide) (ixn h10))) (rn Y (dT h9) Y (u_far Y Y U59 Y in_4 nz Y) (rn Y (dT h9) Y (u_ld Y Y U4 Y Y ((Sub.fm default (fun x => (GColumn.len x)) (ixn h10)).trans (GColumn.sub2 (lrd cols1 t21_0.toNat)))) (rn Y (dT h9) Y (p_not Y Y) ?_)))))
     refine rp Y (p_pkt Y Y (dT h9) (.same _)) (ra Y (rs [(1, .p (GColumn.ls cols1)), (6, .i t21_0), (7, .q 7 (0)), (19, .p (GValue.ls row0)), (20, .i (row0.length : Int)), (21, .i t21_0), (31, .b (!((lrd cols1 t21_0.toNat).Null)))] [(7, .pure (GValue.cs (lrd row0 t21_0.toNat)))] Y ?_))
     obtain rfl := se H
     exact RunW_nil rfl
    refine rO Y (dF h9) Y (rO Y (dF h9) Y (rO Y (dF h9) Y (rO Y (dF h9) Y (rO Y (dF h9) Y (rO Y (dF h9) Y (rp Y (p_pkf Y Y (dF h9) (.same _)) ?_))))))
    refine ra Y (rs [(1, .p (GColumn.ls cols1)), (6, .i t21_0), (7, .q 7 (0)), (19, .p (GValue.ls row0)), (20, .i (row0.length : Int)), (21, .i t21_0), (31, .b false)] [(7, .pure (GValue.cs (lrd row0 t21_0.toNat)))] Y ?_)
    obtain rfl := se H
    exact RunW_nil rfl
   refine AW2_cond Y (fun h12 => ?_) (fun h12 => ?_)
   ·replace H := ite_then h12 H
    refine sg [0] Y (ra Y (rz [(4, .i (12 : Int))] [] Y (AW2_ret ?_)))
    obtain rfl := se H
    exact ⟨Y, ⟨rt, trivial⟩, trivial⟩
   replace H := ite_else (ne_true h12) H
   refine AW2_seq (bindK H fun g'4 h15 H => AW2_mid (⟨[(1, .p (GColumn.ls cols1)), (19, .p (GValue.ls row0)), (20, .i (row0.length : Int)), (21, .i t21_0), (43, .b g'4)], [], 58⟩ : TS) ?_ ?_)
   ·clear H
    have H := h15
    clear h15
    refine em2 H (fun h13 H => ?_) (fun h13 H => ?_)
    ·refine chkK H fun h14 H => ?_
     obtain rfl := se H
     refine AW2_ghoQ (AW2_draw 11 [11,12,13] (fun k => ([.q 7 (0 + 0), .i ((lrd row0 t21_0.toNat).Kind), .b (decide ((lrd row0 t21_0.toNat).Kind ≠ (0 : Int))), .b (decide ((lrd row0 t21_0.toNat).Kind ≠ (0 : Int))), .q 7 (0 + 0), .i ((lrd row0 t21_0.toNat).Kind), .p (GColumn.ls cols1), .i t21_0, .p (.rptr (cols1.flatMap GColumn.cs) (t21_0.toNat * 3)), .p (.rptr (cols1.flatMap GColumn.cs) (t21_0.toNat * 3 + 1)), .i ((lrd cols1 t21_0.toNat).Kind)] : List TV).getD k TV.any) (fun k => g_kinds_fits_r14.getD k []) [(1, none), (19, none), (20, none), (21, none), (47, some 3), (49, some 5), (54, some 10)] [] (fun k => g_kinds_fits_r14c.getD k []) mixed (by kernel_rfl) Y Y (a_op (g_x Y (x_p Y (u_fa Y Y U24 Y in_3 nz Y Y (nl (GValue.len (lrd row0 t21_0.toNat)))) Y)) (a_op (g_x Y (x_p Y (u_ld Y Y U3 Y Y (GValue.sub0 (lrd row0 t21_0.toNat))) Y)) (a_op (g_x Y (x_p Y (p_ine Y Y Y) Y)) (a_op (g_x Y (x_p Y (p_move Y Y) Y)) (a_op (g_on Y Y Y (dT h13) Y (x_p Y (u_fa Y Y U24 Y in_3 nz Y Y (nl (GValue.len (lrd row0 t21_0.toNat)))) Y)) (a_op (g_on Y Y Y (dT h13) Y (x_p Y (u_ld Y Y U3 Y Y (GValue.sub0 (lrd row0 t21_0.toNat))) Y)) (a_op (g_on Y Y Y (dT h13) Y (x_p Y (p_move Y Y) Y)) (a_op (g_on Y Y Y (dT h13) Y (x_p Y (p_move Y Y) Y)) (a_op (g_on Y Y Y (dT h13) Y (x_p Y (u_ixl Y Y U28 in_59 Y Y (ixe h14) (ixn h14) (fne (fun x => (GColumn.len x)) (by decide) (ixn h14))) Y)) (a_op (g_on Y Y Y (dT h13) Y (x_p Y (u_far Y Y U59 Y in_3 nz Y) Y)) (a_op (g_on Y Y Y (dT h13) Y (x_p Y (u_ld Y Y U3 Y Y ((Sub.fm default (fun x => (GColumn.len x)) (ixn h14)).trans (GColumn.sub1 (lrd cols1 t21_0.toNat)))) Y)) (a_nil)))))))))))) (t_on Y Y Y Y (dT h13) Y (PureD.opD (p_ine Y Y Y)) (t_op Y Y (PureD.opD (p_pkt Y Y (dT h13) (.same _))) (t_op Y Y (PureD.opD (p_asg Y Y)) (t_gho (Gho_st (L := [(1, .p (GColumn.ls cols1)), (19, .p (GValue.ls row0)), (20, .i (row0.length : Int)), (21, .i t21_0), (43, .b (decide ((lrd row0 t21_0.toNat).Kind ≠ (lrd cols1 t21_0.toNat).Kind)))]) (H := []) (N := 58) Y ⟨TLes.same _, TLes.same _, TLes.same _, TLes.same _, TLes.same _, trivial⟩ trivial) ?_)))))
     exact rfl
    obtain rfl := se H
    refine AW2_ghoQ (AW2_draw 11 [11,12,13] (fun k => ([.q 7 (0 + 0), .i ((lrd row0 t21_0.toNat).Kind), .b (decide ((lrd row0 t21_0.toNat).Kind ≠ (0 : Int))), .b (decide ((lrd row0 t21_0.toNat).Kind ≠ (0 : Int))), .p (.tup []), .p (.tup []), .p (.tup []), .p (.tup []), .p (.tup []), .p (.tup []), .p (.tup [])] : List TV).getD k TV.any) (fun k => g_kinds_fits_r14.getD k []) [(1, none), (19, none), (20, none), (21, none), (47, some 3), (49, some 5), (54, some 10)] [] (fun k => g_kinds_fits_r14c.getD k []) mixed (by kernel_rfl) Y Y (a_op (g_x Y (x_p Y (u_fa Y Y U24 Y in_3 nz Y Y (nl (GValue.len (lrd row0 t21_0.toNat)))) Y)) (a_op (g_x Y (x_p Y (u_ld Y Y U3 Y Y (GValue.sub0 (lrd row0 t21_0.toNat))) Y)) (a_op (g_x Y (x_p Y (p_ine Y Y Y) Y)) (a_op (g_x Y (x_p Y (p_move Y Y) Y)) (a_op (g_off Y Y Y Y Y (dF h13) Y Y) (a_op (g_off Y Y Y Y Y (dF h13) Y Y) (a_op (g_off Y Y Y Y Y (dF h13) Y Y) (a_op (g_off Y Y Y Y Y (dF h13) Y Y) (a_op (g_off Y Y Y Y Y (dF h13) Y Y) (a_op (g_off Y Y Y Y Y (dF h13) Y Y) (a_op (g_off Y Y Y Y Y (dF h13) Y Y) (a_nil)))))))))))) (t_off Y Y Y Y (dF h13) Y Y (t_op Y Y (PureD.opD (p_pkf Y Y (dF h13) (.same _))) (t_op Y Y (PureD.opD (p_asg Y Y)) (t_gho (Gho_st (L := [(1, .p (GColumn.ls cols1)), (19, .p (GValue.ls row0)), (20, .i (row0.length : Int)), (21, .i t21_0), (43, .b false)]) (H := []) (N := 58) Y ⟨TLes.same _, TLes.same _, TLes.same _, TLes.same _, TLes.same _, trivial⟩ trivial) ?_)))))
    exact rfl
   refine AW2_cond Y (fun h16 => ?_) (fun h16 => ?_)
   ·replace H := ite_then h16 H
    refine sg [0] Y (ra Y (rz [(4, .i (2 : Int))] [] Y (AW2_ret ?_)))
    obtain rfl := se H
    exact ⟨Y, ⟨rt, trivial⟩, trivial⟩
   replace H := ite_else (ne_true h16) H
   refine as2 [(1, .p (GColumn.ls cols1)), (19, .p (GValue.ls row0)), (20, .i (row0.length : Int)), (21, .i t21_0)] [] Y (AW2_skip (AW2_reg [0,1] Y (rp Y (p_bin Y Y Y Y) (rm Y (rz [(1, _), (19, _), (20, _), (21, .i (w64 (t21_0 + (1 : Int))))] [] Y ?_)))))
   obtain rfl := se H
   exact ⟨Y, Y⟩
  refine as2 [] [] Y (AW2_exit (thenQ2_exit ?_))
  obtain rfl := se H
  exact ⟨Y, Y⟩
 rcases o'8 with y'9 | y'10
 ·obtain ⟨rfl, hs⟩ := hs
  refine ⟨by simp, ?_⟩
  obtain rfl := se H
  exact ⟨hs.1, hs.2⟩
 obtain ⟨rfl, rfl⟩ := hs
 refine ⟨by simp, ?_⟩
 refine blockQ2_exit (sg [0] Y (ra Y (rz [(4, .i (0 : Int))] [] Y (AW2_ret ?_))))
 obtain rfl := se H
 exact ⟨⟨rt, trivial⟩, trivial⟩
noncomputable def g_kinds_Row (row0 : List GValue) (cols1 : List GColumn) : Option (Int) :=
  (g_kinds_fits row0 cols1).bind fun r'1 => some r'1
set_option maxHeartbeats 4000000 in
set_option maxRecDepth 100000 in
theorem g_kinds_Row_ac {row0 : List GValue} {cols1 : List GColumn} {r : Int} (H : g_kinds_Row row0 cols1 = some r) : ACp Tryd.prog 14 [(GValue.ls row0), (GColumn.ls cols1)] (AV.int r) := by
 refine ACp_of (AC2_of_body (vs := [.i r]) Tryd.func14 Y Y (lb Y) Y ?_) (fun _ => .same _)
 unfold g_kinds_Row at H
 refine as2 [(0, .p (GValue.ls row0)), (1, .p (GColumn.ls cols1))] [] Y (sg [0] Y (ra Y (rz [(0, _), (1, _)] [] Y (sg [0,1,2,3] Y (rm Y (rm Y ?_))))))
 refine bindK H fun r'1 h1 H => rp Y (p_callp Y Y Y Tryd.func28 Y Y (g_kinds_fits_ac h1) ⟨Y, Y, trivial⟩) (ra Y (rz [(4, .i r'1)] [] Y (AW2_ret ?_)))
 obtain rfl := se H
 exact ⟨⟨rt, trivial⟩, trivial⟩
def g_eval_thingOf_r3 : List (List (Nat × Option Nat)) := [[(2, none)], [(12, some 0)], [(2, none)], [(14, some 2)], [(15, some 3)], [(16, some 4)], [(1, none)], [(17, some 5), (18, some 6)]]
def g_eval_thingOf_r3c : List (List Nat) := [[], [0], [], [2], [2, 3], [2, 3, 4], [], [2, 3, 4, 5, 6], [0, 1, 2, 3, 4, 5, 6, 7], [0, 1, 2, 3, 4, 5, 6, 7, 8], [0, 1, 2, 3, 4, 5, 6, 7, 8, 9]]
def g_eval_thingOf_r5 : List (List (Nat × Option Nat)) := [[(2, none)], [(24, some 0)], [(2, none)], [(26, some 2)], [(27, some 3)], [(28, some 4)], [(1, none)], [(29, some 5), (30, some 6)], [(2, none)], [(32, some 8)], [(33, some 9)], [(34, some 10)], [(1, none)], [(35, some 11), (36, some 12)]]
def g_eval_thingOf_r5c : List (List Nat) := [[], [0], [], [2], [2, 3], [2, 3, 4], [], [2, 3, 4, 5, 6], [], [8], [8, 9], [8, 9, 10], [], [2, 3, 4, 5, 6, 7, 8, 9, 10, 11, 12], [0, 1, 2, 3, 4, 5, 6, 7, 8, 9, 10, 11, 12, 13], [0, 1, 2, 3, 4, 5, 6, 7, 8, 9, 10, 11, 12, 13, 14], [0, 1, 2, 3, 4, 5, 6, 7, 8, 9, 10, 11, 12, 13, 14, 15]]
noncomputable def g_eval_thingOf_l0 (e0 : GExpr) (cols1 : List GColumn) : Int → Option (Int ⊕ (Geval_thing ⊕ Unit))
  | t49_0 => (if t49_0 < (cols1.length : Int) then if 0 ≤ t49_0 ∧ t49_0 < (cols1.length : Int) then (if (lrd cols1 t49_0.toNat).Name = e0.Name then some (.inr (.inl (Geval_thing.place ({ Geval_place.zero with i_ := t49_0 }).i_))) else some (.inl (w64 (t49_0 + (1 : Int))))) else none else some (.inr (.inr ())))
noncomputable def g_eval_thingOf_b (R' : GExpr → (List GColumn) → Option Geval_thing) (e0 : GExpr) (cols1 : List GColumn) : Option (Geval_thing) :=
  (if (e0.Args.length : Int) = (1 : Int) then if 0 < e0.Args.length then (R' (lrd e0.Args 0) cols1).bind fun r'1 => letO ((Geval_thing.sole ({ { Geval_sole.zero with op_ := e0.Op } with a_ := r'1 }).op_ ({ { Geval_sole.zero with op_ := e0.Op } with a_ := r'1 }).a_)) fun t4'2 => some t4'2 else none else (if (e0.Args.length : Int) = (2 : Int) then if 0 < e0.Args.length then (R' (lrd e0.Args 0) cols1).bind fun r'3 => if 1 < e0.Args.length then (R' (lrd e0.Args 1) cols1).bind fun r'4 => letO ((Geval_thing.twin ({ { { Geval_twin.zero with op_ := e0.Op } with a_ := r'3 } with b_ := r'4 }).op_ ({ { { Geval_twin.zero with op_ := e0.Op } with a_ := r'3 } with b_ := r'4 }).a_ ({ { { Geval_twin.zero with op_ := e0.Op } with a_ := r'3 } with b_ := r'4 }).b_)) fun t4'5 => some t4'5 else none else none else (if e0.Op = (1 : Int) then some (Geval_thing.fixed ({ Geval_fixed.zero with v_ := e0.Value }).v_) else (loopO (g_eval_thingOf_l0 e0 cols1) (0 : Int)).bind fun o'9 => match o'9 with | .inl y'10 => some y'10 | .inr (y'11) => some (Geval_thing.missing))))
noncomputable def g_eval_thingOf : Nat → GExpr → (List GColumn) → Option Geval_thing
  | 0, _, _ => none
  | fu + 1, e0, cols1 => g_eval_thingOf_b (g_eval_thingOf fu) e0 cols1
set_option maxHeartbeats 4000000 in
set_option maxRecDepth 100000 in
theorem g_eval_thingOf_ac0 {R' : GExpr → (List GColumn) → Option Geval_thing} (hR : ∀ {e0 : GExpr} {cols1 : List GColumn} {r : Geval_thing}, R' e0 cols1 = some r → ACp Tryd.prog 15 [(.agg (GExpr.cs e0)), (GColumn.ls cols1)] (Geval_thing.av r)) {e0 : GExpr} {cols1 : List GColumn} {r : Geval_thing} (H : g_eval_thingOf_b R' e0 cols1 = some r) : ACp Tryd.prog 15 [(.agg (GExpr.cs e0)), (GColumn.ls cols1)] (Geval_thing.av r) := by
 refine ACp_of (AC2_of_body (vs := [.p (Geval_thing.av r)]) Tryd.func15 Y Y (lb Y) Y ?_) (fun _ => .same _)
 unfold g_eval_thingOf_b at H
 refine as2 [(0, .g (GExpr.cs e0)), (1, .p (GColumn.ls cols1))] [] Y (sg [0,1] Y (rq Y (MakeD.opD (n_box 2 Y Y) Y Y Y Y) (ra Y (rz [(1, _), (2, .q 2 (0))] [(2, .pure (GExpr.cs e0))] Y (AW2_seq (sg [0,1,2] Y ?_))))))
 refine rf Y U27 Y in_25 Y Y (GExpr.len e0) (rp Y (u_ld Y Y U25 Y Y (GExpr.sub3 e0)) (rp Y (p_lenl Y U25 Y Y) (rz [(1, _), (2, _), (9, .i (e0.Args.length : Int))] [(2, _)] Y (AW2_block (sg [0,1] Y (rp Y (p_ieq Y Y Y) ?_))))))
 refine ra Y (rz [(1, _), (2, _), (9, _), (10, .b (decide ((e0.Args.length : Int) = (1 : Int))))] [(2, _)] Y (if2 H Y (fun h1 H => ?_) (fun h1 H => ?_)))
 ·refine AW2_seq (chkK H fun h2 H => bindK H fun r'1 h3 H => AW2_ghoQ (AW2_draw 8 [8,9,10] (fun k => ([.q 2 (0 + 0), .i e0.Op, .q 2 (0 + 6), .p (GExpr.ls e0.Args), .p (.rptr (e0.Args.flatMap GExpr.cs) (0 * 7)), .g (GExpr.cs (lrd e0.Args 0)), .p (GColumn.ls cols1), .p (Geval_thing.av r'1)] : List TV).getD k TV.any) (fun k => g_eval_thingOf_r3.getD k []) [(13, some 1), (19, some 7)] [] (fun k => g_eval_thingOf_r3c.getD k []) mixed (by kernel_rfl) Y Y (a_op (g_x Y (x_p Y (u_fa Y Y U27 Y in_3 nz Y Y (nl (GExpr.len e0))) Y)) (a_op (g_x Y (x_p Y (u_ld Y Y U3 Y Y (GExpr.sub0 e0)) Y)) (a_op (g_x Y (x_p Y (u_fa Y Y U27 Y in_25 nz Y Y (nl (GExpr.len e0))) Y)) (a_op (g_x Y (x_p Y (u_ld Y Y U25 Y Y (GExpr.sub3 e0)) Y)) (a_op (g_x Y (x_p Y (u_ixl Y Y U25 in_27 Y Y Y h2 (fne (fun x => (GExpr.len x)) (by decide) h2)) Y)) (a_op (g_x Y (x_p Y (u_lda Y Y U27 Y in_27 Y np (Sub.fm default (fun x => (GExpr.len x)) h2) (GExpr.len (lrd e0.Args 0))) Y)) (a_op (g_x Y (x_p Y (p_move Y Y) Y)) (a_op (g_x Y (x_p Y (p_callp Y Y Y Tryd.func15 Y Y (hR h3) ⟨Y, Y, trivial⟩) Y)) (a_nil))))))))) (t_op Y Y (PureD.opD (u_bld Y in_53 one_53 zc_53 pl_53 Y (af_cons Y Y (Geval_sole.upd0 Geval_sole.zero e0.Op) (af_cons Y Y (Geval_sole.upd1 ((Geval_sole.w0 Geval_sole.zero e0.Op)) r'1) Y)))) (t_op Y Y (PureD.opD (p_mki Y Y U53 Y (Geval_sole.scl _) Y)) ?_))))
  refine t_op Y Y (PureD.opD (p_asg Y Y)) (t_gho (Gho_st (L := [(4, .p (Geval_thing.av (Geval_thing.sole ((Geval_sole.w1 (Geval_sole.w0 Geval_sole.zero e0.Op) r'1)).op_ ((Geval_sole.w1 (Geval_sole.w0 Geval_sole.zero e0.Op) r'1)).a_)))]) (H := []) (N := 65) Y ⟨TLes.same _, trivial⟩ trivial) (gen1 (fun t4'2 => (⟨[(4, .p (Geval_thing.av t4'2))], [], 65⟩ : TS)) H ?_))
  intro t4'2 H
  refine AW2_ret ?_
  obtain rfl := se H
  exact ⟨⟨rt, trivial⟩, trivial⟩
 refine sg [0,1] Y (rp Y (p_ieq Y Y Y) (ra Y (rz [(1, _), (2, _), (22, .b (decide ((e0.Args.length : Int) = (2 : Int))))] [(2, _)] Y (if2 H Y (fun h4 H => ?_) (fun h4 H => ?_)))))
 ·refine AW2_seq (chkK H fun h5 H => bindK H fun r'3 h6 H => chkK H fun h7 H => bindK H fun r'4 h8 H => AW2_ghoQ (AW2_draw 14 [14,15,16] (fun k => ([.q 2 (0 + 0), .i e0.Op, .q 2 (0 + 6), .p (GExpr.ls e0.Args), .p (.rptr (e0.Args.flatMap GExpr.cs) (0 * 7)), .g (GExpr.cs (lrd e0.Args 0)), .p (GColumn.ls cols1), .p (Geval_thing.av r'3), .q 2 (0 + 6), .p (GExpr.ls e0.Args), .p (.rptr (e0.Args.flatMap GExpr.cs) (1 * 7)), .g (GExpr.cs (lrd e0.Args 1)), .p (GColumn.ls cols1), .p (Geval_thing.av r'4)] : List TV).getD k TV.any) (fun k => g_eval_thingOf_r5.getD k []) [(25, some 1), (31, some 7), (37, some 13)] [] (fun k => g_eval_thingOf_r5c.getD k []) mixed (by kernel_rfl) Y Y (a_op (g_x Y (x_p Y (u_fa Y Y U27 Y in_3 nz Y Y (nl (GExpr.len e0))) Y)) (a_op (g_x Y (x_p Y (u_ld Y Y U3 Y Y (GExpr.sub0 e0)) Y)) (a_op (g_x Y (x_p Y (u_fa Y Y U27 Y in_25 nz Y Y (nl (GExpr.len e0))) Y)) (a_op (g_x Y (x_p Y (u_ld Y Y U25 Y Y (GExpr.sub3 e0)) Y)) (a_op (g_x Y (x_p Y (u_ixl Y Y U25 in_27 Y Y Y h5 (fne (fun x => (GExpr.len x)) (by decide) h5)) Y)) (a_op (g_x Y (x_p Y (u_lda Y Y U27 Y in_27 Y np (Sub.fm default (fun x => (GExpr.len x)) h5) (GExpr.len (lrd e0.Args 0))) Y)) (a_op (g_x Y (x_p Y (p_move Y Y) Y)) (a_op (g_x Y (x_p Y (p_callp Y Y Y Tryd.func15 Y Y (hR h6) ⟨Y, Y, trivial⟩) Y)) (a_op (g_x Y (x_p Y (u_fa Y Y U27 Y in_25 nz Y Y (nl (GExpr.len e0))) Y)) (a_op (g_x Y (x_p Y (u_ld Y Y U25 Y Y (GExpr.sub3 e0)) Y)) (a_op (g_x Y (x_p Y (u_ixl Y Y U25 in_27 Y Y Y h7 (fne (fun x => (GExpr.len x)) (by decide) h7)) Y)) (a_op (g_x Y (x_p Y (u_lda Y Y U27 Y in_27 Y np (Sub.fm default (fun x => (GExpr.len x)) h7) (GExpr.len (lrd e0.Args 1))) Y)) (a_op (g_x Y (x_p Y (p_move Y Y) Y)) (a_op (g_x Y (x_p Y (p_callp Y Y Y Tryd.func15 Y Y (hR h8) ⟨Y, Y, trivial⟩) Y)) (a_nil))))))))))))))) ?_))
  refine t_op Y Y (PureD.opD (u_bld Y in_55 one_55 zc_55 pl_55 Y (af_cons Y Y (Geval_twin.upd0 Geval_twin.zero e0.Op) (af_cons Y Y (Geval_twin.upd1 ((Geval_twin.w0 Geval_twin.zero e0.Op)) r'3) (af_cons Y Y (Geval_twin.upd2 ((Geval_twin.w1 (Geval_twin.w0 Geval_twin.zero e0.Op) r'3)) r'4) Y))))) (t_op Y Y (PureD.opD (p_mki Y Y U55 Y (Geval_twin.scl _) Y)) (t_op Y Y (PureD.opD (p_asg Y Y)) (t_gho (Gho_st (L := [(4, .p (Geval_thing.av (Geval_thing.twin ((Geval_twin.w2 (Geval_twin.w1 (Geval_twin.w0 Geval_twin.zero e0.Op) r'3) r'4)).op_ ((Geval_twin.w2 (Geval_twin.w1 (Geval_twin.w0 Geval_twin.zero e0.Op) r'3) r'4)).a_ ((Geval_twin.w2 (Geval_twin.w1 (Geval_twin.w0 Geval_twin.zero e0.Op) r'3) r'4)).b_)))]) (H := []) (N := 65) Y ⟨TLes.same _, trivial⟩ trivial) (gen1 (fun t4'5 => (⟨[(4, .p (Geval_thing.av t4'5))], [], 65⟩ : TS)) H ?_))))
  intro t4'5 H
  refine AW2_ret ?_
  obtain rfl := se H
  exact ⟨⟨rt, trivial⟩, trivial⟩
 refine as2 [(1, _), (2, _)] [(2, _)] Y (AW2_skip (AW2_seq (sg [0,1,2] Y (rf Y U27 Y in_3 Y Y (GExpr.len e0) (rp Y (u_ld Y Y U3 Y Y (GExpr.sub0 e0)) (rp Y (p_ieq Y Y Y) ?_))))))
 refine rz [(1, _), (2, _), (42, .b (decide (e0.Op = (1 : Int))))] [(2, _)] Y (if2 H Y (fun h9 H => ?_) (fun h9 H => ?_))
 ·refine sg [0,1,2,3,4] Y (rf Y U27 Y in_24 Y Y (GExpr.len e0) (rp Y (u_lda Y Y U24 Y in_24 Y np (GExpr.sub1 e0) (GValue.len e0.Value)) (rp Y (u_bld Y in_57 one_57 zc_57 pl_57 Y (af_cons Y (GValue.len e0.Value) (Geval_fixed.upd0 Geval_fixed.zero e0.Value) Y)) (rp Y (p_mki Y Y U57 Y (Geval_fixed.scl _) Y) (ra Y (rz [(4, .p (Geval_thing.av (Geval_thing.fixed ((Geval_fixed.w0 Geval_fixed.zero e0.Value)).v_)))] [] Y ?_))))))
  refine AW2_ret ?_
  obtain rfl := se H
  exact ⟨⟨rt, trivial⟩, trivial⟩
 refine as2 [(1, _), (2, _)] [(2, _)] Y (AW2_skip (AW2_seq (sg [0,1,2] Y (rm Y (rp Y (p_lenl Y U28 Y Y) (rm Y ?_))))))
 refine rz [(2, _), (47, .p (GColumn.ls cols1)), (48, .i (cols1.length : Int)), (49, .i (0 : Int))] [(2, _)] Y (AW2_block (as2 [(2, _), (47, _), (48, _), (49, _)] [(2, _)] Y (bindK H fun o'9 h13 H => AW2_loopO (fun a'6 : Int => (⟨[(2, .q 2 (0)), (47, .p (GColumn.ls cols1)), (48, .i (cols1.length : Int)), (49, .i a'6)], [(2, .pure (GExpr.cs e0))], 65⟩ : TS)) (fun (o : Geval_thing ⊕ Unit) e s' => match o with | .inl y'7 => e = Go.Exit.ret ∧ ResAll Tryd.prog s' [ResultVar.tmp 4] [.p (Geval_thing.av y'7)] ∧ HFits s' [] | .inr (y'8) => e = Go.Exit.exit 1 ∧ s' = (⟨[], [], 65⟩ : TS)) h13 Y (fun t49_0 x hx => ?_) (fun e s' hs => ?_))))
 ·clear H
  have H := hx
  clear hx
  unfold g_eval_thingOf_l0 at H
  refine sg [0] Y (rp Y (p_bin Y Y Y Y) (rz [(2, .q 2 (0)), (47, .p (GColumn.ls cols1)), (48, .i (cols1.length : Int)), (49, .i t49_0), (50, .b (decide (t49_0 < (cols1.length : Int))))] [(2, .pure (GExpr.cs e0))] Y (AW2_seq (if2 H Y (fun h10 H => ?_) (fun h10 H => ?_)))))
  ·refine as2 [(2, _), (47, _), (48, _), (49, _)] [(2, _)] Y (AW2_skip (AW2_seq (AW2_block (sg [0,1,2,3,4,5] Y (rm Y (chkK H fun h11 H => ?_))))))
   refine rp Y (u_ixl Y Y U28 in_59 Y Y (ixe h11) (ixn h11) (fne (fun x => (GColumn.len x)) (by decide) (ixn h11))) (rp Y (u_lda Y Y U59 Y in_59 Y np (Sub.fm default (fun x => (GColumn.len x)) (ixn h11)) (GColumn.len (lrd cols1 t49_0.toNat))) (rq Y (MakeD.opD (u_alloc 6 Y in_59 one_59 zc_59) Y Y Y Y) (ra Y (rq Y (u_sw Y Y Y Y Y in_59 (GColumn.len (lrd cols1 t49_0.toNat)) (GColumn.len GColumn.zero) Y) (rz [(2, _), (5, .i t49_0), (6, .q 6 (0)), (47, _), (48, _), (49, _)] [(2, .pure (GExpr.cs e0)), (6, .pure (GColumn.cs (lrd cols1 t49_0.toNat)))] Y (sg [0,1,2,3,4] Y ?_))))))
   refine rf Y U59 Y in_9 Y Y (GColumn.len (lrd cols1 t49_0.toNat)) (rp Y (u_ld Y Y U9 Y Y (GColumn.sub0 (lrd cols1 t49_0.toNat))) (rf Y U27 Y in_9 Y Y (GExpr.len e0) (rp Y (u_ld Y Y U9 Y Y (GExpr.sub2 e0)) (rp Y (p_seq Y Y Y) (rz [(2, _), (5, _), (47, _), (48, _), (49, _), (58, .b (decide ((lrd cols1 t49_0.toNat).Name = e0.Name)))] [(2, _)] Y (if2 H Y (fun h12 H => ?_) (fun h12 H => ?_)))))))
   ·refine sg [0,1,2,3] Y (rm Y (rp Y (u_bld Y in_61 one_61 zc_61 pl_61 Y (af_cons Y Y (Geval_place.upd0 Geval_place.zero t49_0) Y)) (rp Y (p_mki Y Y U61 Y (Geval_place.scl _) Y) (ra Y (rz [(4, .p (Geval_thing.av (Geval_thing.place ((Geval_place.w0 Geval_place.zero t49_0)).i_)))] [] Y (AW2_ret ?_))))))
    obtain rfl := se H
    exact ⟨Y, ⟨rt, trivial⟩, trivial⟩
   refine as2 [(2, _), (47, _), (48, _), (49, _)] [(2, _)] Y (AW2_skip (AW2_reg [0,1] Y (rp Y (p_bin Y Y Y Y) (rm Y (rz [(2, _), (47, _), (48, _), (49, .i (w64 (t49_0 + (1 : Int))))] [(2, _)] Y ?_)))))
   obtain rfl := se H
   exact ⟨Y, Y⟩
  refine as2 [] [] Y (AW2_exit (thenQ2_exit ?_))
  obtain rfl := se H
  exact ⟨Y, Y⟩
 rcases o'9 with y'10 | y'11
 ·obtain ⟨rfl, hs⟩ := hs
  refine ⟨by simp, ?_⟩
  obtain rfl := se H
  exact ⟨hs.1, hs.2⟩
 obtain ⟨rfl, rfl⟩ := hs
 refine ⟨by simp, ?_⟩
 refine blockQ2_exit (sg [0,1,2] Y (rp Y (u_bld Y in_63 one_63 zc_63 pl_63 Y Y) (rp Y (p_mki Y Y U63 Y (Geval_missing.scl _) Y) (ra Y (rz [(4, .p (Geval_thing.av (Geval_thing.missing)))] [] Y (AW2_ret ?_))))))
 obtain rfl := se H
 exact ⟨⟨rt, trivial⟩, trivial⟩
theorem g_eval_thingOf_acN : ∀ (fu : Nat) {e0 : GExpr} {cols1 : List GColumn} {r : Geval_thing}, g_eval_thingOf fu e0 cols1 = some r → ACp Tryd.prog 15 [(.agg (GExpr.cs e0)), (GColumn.ls cols1)] (Geval_thing.av r)
 | 0, _, _, _, H => (by cases H)
 | fu + 1, _, _, _, H => g_eval_thingOf_ac0 (g_eval_thingOf_acN fu) H
theorem g_eval_thingOf_ac {e0 : GExpr} {cols1 : List GColumn} {r : Geval_thing} (H : g_eval_thingOf 100000 e0 cols1 = some r) : ACp Tryd.prog 15 [(.agg (GExpr.cs e0)), (GColumn.ls cols1)] (Geval_thing.av r) := g_eval_thingOf_acN 100000 H
noncomputable def g_eval_truth (t0 : Int) : Option (GValue) :=
  (if t0 = (1 : Int) then some GValue.zero else letO ({ { GValue.zero with Kind := (1 : Int) } with Int_ := w64 (t0.tdiv (2 : Int)) }) fun t2'1 => some t2'1)
set_option maxHeartbeats 4000000 in
set_option maxRecDepth 100000 in
theorem g_eval_truth_ac {t0 : Int} {r : GValue} (H : g_eval_truth t0 = some r) : ACp Tryd.prog 100 [(AV.int t0)] (.agg (GValue.cs r)) := by
 refine ACp_of (AC2_of_body (vs := [.g (GValue.cs r)]) Tryd.func100 Y Y (lb Y) Y ?_) (fun _ => .same _)
 unfold g_eval_truth at H
 refine as2 [(0, .i t0)] [] Y (sg [0] Y (rq Y (MakeD.opD (u_alloc 2 Y in_24 one_24 zc_24) Y Y Y Y) (rz [(0, _), (2, .q 2 (0))] [(2, .pure (GValue.cs GValue.zero))] Y (AW2_seq (sg [0,1] Y (rm Y ?_))))))
 refine rp Y (p_ieq Y Y Y) (rz [(0, _), (2, _), (4, .b (decide (t0 = (1 : Int))))] [(2, _)] Y (if2 H Y (fun h1 H => ?_) (fun h1 H => ?_)))
 ·refine sg [0,1] Y (rp Y (u_bld Y in_24 one_24 zc_24 pl_24 Y Y) (rq Y (u_sw Y Y Y Y Y in_24 (GValue.len GValue.zero) (GValue.len GValue.zero) Y) (rz [(2, _)] [(2, .pure (GValue.cs GValue.zero))] Y (AW2_ret ?_))))
  obtain rfl := se H
  exact ⟨⟨rcw U24 Y in_24 Y (GValue.len GValue.zero), trivial⟩, trivial⟩
 refine as2 [(0, _), (2, _)] [(2, _)] Y (AW2_skip (sg [0,1,2,3] Y (rm Y (rp Y (p_iquo Y Y Y (by decide)) (rp Y (u_bld Y in_24 one_24 zc_24 pl_24 Y (af_cons Y Y (GValue.upd0 GValue.zero (1 : Int)) (af_cons Y Y (GValue.upd1 ((GValue.w0 GValue.zero (1 : Int))) (w64 (t0.tdiv (2 : Int)))) Y))) (rq Y (u_sw Y Y Y Y Y in_24 (GValue.len ((GValue.w1 (GValue.w0 GValue.zero (1 : Int)) (w64 (t0.tdiv (2 : Int)))))) (GValue.len GValue.zero) Y) ?_))))))
 refine rz [(2, _)] [(2, .pure (GValue.cs ((GValue.w1 (GValue.w0 GValue.zero (1 : Int)) (w64 (t0.tdiv (2 : Int)))))))] Y (gen1 (fun t2'1 => (⟨[(2, .q 2 (0))], [(2, .pure (GValue.cs t2'1))], 9⟩ : TS)) H ?_)
 intro t2'1 H
 refine AW2_ret ?_
 obtain rfl := se H
 exact ⟨⟨rcw U24 Y in_24 Y (GValue.len t2'1), trivial⟩, trivial⟩
noncomputable def g_eval_number (n0 : Int) : Option (GValue) :=
  some ({ { GValue.zero with Kind := (2 : Int) } with Int_ := n0 })
set_option maxHeartbeats 4000000 in
set_option maxRecDepth 100000 in
theorem g_eval_number_ac {n0 : Int} {r : GValue} (H : g_eval_number n0 = some r) : ACp Tryd.prog 101 [(AV.int n0)] (.agg (GValue.cs r)) := by
 refine ACp_of (AC2_of_body (vs := [.g (GValue.cs r)]) Tryd.func101 Y Y (lb Y) Y ?_) (fun _ => .same _)
 unfold g_eval_number at H
 refine as2 [(0, .i n0)] [] Y (sg [0] Y (rq Y (MakeD.opD (u_alloc 2 Y in_24 one_24 zc_24) Y Y Y Y) (rz [(0, _), (2, .q 2 (0))] [(2, .pure (GValue.cs GValue.zero))] Y (sg [0,1,2] Y (rm Y (rp Y (u_bld Y in_24 one_24 zc_24 pl_24 Y (af_cons Y Y (GValue.upd0 GValue.zero (2 : Int)) (af_cons Y Y (GValue.upd1 ((GValue.w0 GValue.zero (2 : Int))) n0) Y))) ?_))))))
 refine rq Y (u_sw Y Y Y Y Y in_24 (GValue.len ((GValue.w1 (GValue.w0 GValue.zero (2 : Int)) n0))) (GValue.len GValue.zero) Y) (rz [(2, _)] [(2, .pure (GValue.cs ((GValue.w1 (GValue.w0 GValue.zero (2 : Int)) n0))))] Y (AW2_ret ?_))
 obtain rfl := se H
 exact ⟨⟨rcw U24 Y in_24 Y (GValue.len ((GValue.w1 (GValue.w0 GValue.zero (2 : Int)) n0))), trivial⟩, trivial⟩
end Go.Proofs.YthnkbagmaljjjaaDoor.VM
