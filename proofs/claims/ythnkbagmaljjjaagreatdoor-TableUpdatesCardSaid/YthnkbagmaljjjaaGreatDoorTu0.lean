/- Words and rules that the proof uses. -/
import Derived.Test.YthnkbagmaljjjaaGreatDoorVtTabs
import Derived.Test.YthnkbagmaljjjaaGreatDoorVtFloat
import Derived.Test.YthnkbagmaljjjaaGreatDoorVtIface
import Derived.Test.YthnkbagmaljjjaaGreatDoorVtExt
import Derived.Test.YthnkbagmaljjjaaGreatDoorVtShelf
namespace Go.Proofs.YthnkbagmaljjjaaGreatDoor.VM
open Go Go.RowKit
set_option maxHeartbeats 4000000
set_option maxRecDepth 100000
abbrev U2:=@Tryz.underlying2
abbrev U3:=@Tryz.underlying3
abbrev U4:=@Tryz.underlying4
abbrev U9:=@Tryz.underlying9
abbrev U22:=@Tryz.underlying22
abbrev U23:=@Tryz.underlying23
abbrev U25:=@Tryz.underlying25
abbrev U26:=@Tryz.underlying26
abbrev U27:=@Tryz.underlying27
abbrev U29:=@Tryz.underlying29
abbrev U30:=@Tryz.underlying30
abbrev U32:=@Tryz.underlying32
abbrev U33:=@Tryz.underlying33
abbrev U35:=@Tryz.underlying35
abbrev U63:=@Tryz.underlying63
abbrev U73:=@Tryz.underlying73
abbrev U79:=@Tryz.underlying79
structure GValue where
  Kind:Int
  Int_:Int
  Bits:UInt64
  Text:List UInt8
deriving DecidableEq,Inhabited
def GValue.zero:GValue:=⟨(0:Int),(0:Int),(0:UInt64),[]⟩
def GValue.cs (x:GValue):List AV:=([(AV.int x.Kind)])++(([(AV.int x.Int_)])++(([(AV.u64 x.Bits)])++([(AV.txt x.Text)])))
abbrev GValue.ls (q:List GValue):AV:=AV.lst (q.flatMap GValue.cs) q.length
theorem GValue.len (x:GValue):(GValue.cs x).length=4:=rfl
theorem GValue.sub0 (x:GValue):Sub (GValue.cs x) 0 ([(AV.int x.Kind)]):=⟨lb rfl,rfl⟩
abbrev GValue.w0 (x:GValue) (y:Int):GValue:={ x with Kind:=y }
theorem GValue.upd0 (x:GValue) (y:Int):Upd (GValue.cs x) 0 ([(AV.int y)]) (GValue.cs { x with Kind:=y }):=⟨lb rfl,rfl⟩
theorem GValue.sub1 (x:GValue):Sub (GValue.cs x) 1 ([(AV.int x.Int_)]):=⟨lb rfl,rfl⟩
abbrev GValue.w1 (x:GValue) (y:Int):GValue:={ x with Int_:=y }
theorem GValue.upd1 (x:GValue) (y:Int):Upd (GValue.cs x) 1 ([(AV.int y)]) (GValue.cs { x with Int_:=y }):=⟨lb rfl,rfl⟩
theorem GValue.sub2 (x:GValue):Sub (GValue.cs x) 2 ([(AV.u64 x.Bits)]):=⟨lb rfl,rfl⟩
abbrev GValue.w2 (x:GValue) (y:UInt64):GValue:={ x with Bits:=y }
theorem GValue.upd2 (x:GValue) (y:UInt64):Upd (GValue.cs x) 2 ([(AV.u64 y)]) (GValue.cs { x with Bits:=y }):=⟨lb rfl,rfl⟩
theorem GValue.sub3 (x:GValue):Sub (GValue.cs x) 3 ([(AV.txt x.Text)]):=⟨lb rfl,rfl⟩
abbrev GValue.w3 (x:GValue) (y:List UInt8):GValue:={ x with Text:=y }
theorem GValue.upd3 (x:GValue) (y:List UInt8):Upd (GValue.cs x) 3 ([(AV.txt y)]) (GValue.cs { x with Text:=y }):=⟨lb rfl,rfl⟩
structure GToken where
  Kind:Int
  Text:List UInt8
  Int_:Int
  Bits:UInt64
deriving DecidableEq,Inhabited
def GToken.zero:GToken:=⟨(0:Int),[],(0:Int),(0:UInt64)⟩
def GToken.cs (x:GToken):List AV:=([(AV.int x.Kind)])++(([(AV.txt x.Text)])++(([(AV.int x.Int_)])++([(AV.u64 x.Bits)])))
theorem GToken.len (x:GToken):(GToken.cs x).length=4:=rfl
theorem GToken.sub0 (x:GToken):Sub (GToken.cs x) 0 ([(AV.int x.Kind)]):=⟨lb rfl,rfl⟩
abbrev GToken.w0 (x:GToken) (y:Int):GToken:={ x with Kind:=y }
theorem GToken.upd0 (x:GToken) (y:Int):Upd (GToken.cs x) 0 ([(AV.int y)]) (GToken.cs { x with Kind:=y }):=⟨lb rfl,rfl⟩
theorem GToken.sub1 (x:GToken):Sub (GToken.cs x) 1 ([(AV.txt x.Text)]):=⟨lb rfl,rfl⟩
theorem GToken.upd1 (x:GToken) (y:List UInt8):Upd (GToken.cs x) 1 ([(AV.txt y)]) (GToken.cs { x with Text:=y }):=⟨lb rfl,rfl⟩
theorem GToken.sub2 (x:GToken):Sub (GToken.cs x) 2 ([(AV.int x.Int_)]):=⟨lb rfl,rfl⟩
theorem GToken.sub3 (x:GToken):Sub (GToken.cs x) 3 ([(AV.u64 x.Bits)]):=⟨lb rfl,rfl⟩
structure GColumn where
  Name:List UInt8
  Kind:Int
  Null:Bool
deriving DecidableEq,Inhabited
def GColumn.zero:GColumn:=⟨[],(0:Int),false⟩
def GColumn.cs (x:GColumn):List AV:=([(AV.txt x.Name)])++(([(AV.int x.Kind)])++([(AV.bool x.Null)]))
abbrev GColumn.ls (q:List GColumn):AV:=AV.lst (q.flatMap GColumn.cs) q.length
theorem GColumn.len (x:GColumn):(GColumn.cs x).length=3:=rfl
theorem GColumn.sub0 (x:GColumn):Sub (GColumn.cs x) 0 ([(AV.txt x.Name)]):=⟨lb rfl,rfl⟩
theorem GColumn.sub1 (x:GColumn):Sub (GColumn.cs x) 1 ([(AV.int x.Kind)]):=⟨lb rfl,rfl⟩
theorem GColumn.sub2 (x:GColumn):Sub (GColumn.cs x) 2 ([(AV.bool x.Null)]):=⟨lb rfl,rfl⟩
structure GCell where
  Full:Bool
  Row:List GValue
deriving DecidableEq,Inhabited
def GCell.zero:GCell:=⟨false,[]⟩
def GCell.cs (x:GCell):List AV:=([(AV.bool x.Full)])++([((fun q:List GValue=>AV.lst (q.flatMap GValue.cs) q.length) x.Row)])
theorem GCell.len (x:GCell):(GCell.cs x).length=2:=rfl
theorem GCell.sub0 (x:GCell):Sub (GCell.cs x) 0 ([(AV.bool x.Full)]):=⟨lb rfl,rfl⟩
theorem GCell.sub1 (x:GCell):Sub (GCell.cs x) 1 ([((fun q:List GValue=>AV.lst (q.flatMap GValue.cs) q.length) x.Row)]):=⟨lb rfl,rfl⟩
abbrev GCell.w1 (x:GCell) (y:List GValue):GCell:={ x with Row:=y }
theorem GCell.upd1 (x:GCell) (y:List GValue):Upd (GCell.cs x) 1 ([((fun q:List GValue=>AV.lst (q.flatMap GValue.cs) q.length) y)]) (GCell.cs { x with Row:=y }):=⟨lb rfl,rfl⟩
structure GTable where
  There:Bool
  Name:List UInt8
  Cols:List GColumn
  Drawers:Vector (Vector GCell 4) 2
deriving DecidableEq,Inhabited
def GTable.zero:GTable:=⟨false,[],[],(Vector.replicate 2 (Vector.replicate 4 GCell.zero))⟩
def GTable.cs (x:GTable):List AV:=([(AV.bool x.There)])++(([(AV.txt x.Name)])++(([((fun q:List GColumn=>AV.lst (q.flatMap GColumn.cs) q.length) x.Cols)])++(x.Drawers.toList.flatMap (fun v:Vector GCell 4=>v.toList.flatMap GCell.cs))))
theorem GTable.len (x:GTable):(GTable.cs x).length=19:=by
  simp only [GTable.cs,List.length_append]
  rw [show ([(AV.bool x.There)]).length=1 from (show ([(AV.bool x.There)]).length=1 from rfl),show ([(AV.txt x.Name)]).length=1 from (show ([(AV.txt x.Name)]).length=1 from rfl),show ([((fun q:List GColumn=>AV.lst (q.flatMap GColumn.cs) q.length) x.Cols)]).length=1 from (show ([((fun q:List GColumn=>AV.lst (q.flatMap GColumn.cs) q.length) x.Cols)]).length=1 from rfl),show (x.Drawers.toList.flatMap (fun v:Vector GCell 4=>v.toList.flatMap GCell.cs)).length=16 from (vfm_len (fun x=>(vfm_len (fun x=>(GCell.len x)) x)) x.Drawers)]
theorem GTable.sub0 (x:GTable):Sub (GTable.cs x) 0 ([(AV.bool x.There)]):=Sub.head _ _
theorem GTable.sub1 (x:GTable):Sub (GTable.cs x) 1 ([(AV.txt x.Name)]):=Sub.skip (k:=1) (show ([(AV.bool x.There)]).length=1 from rfl) (Sub.head _ _)
theorem GTable.sub2 (x:GTable):Sub (GTable.cs x) 2 ([((fun q:List GColumn=>AV.lst (q.flatMap GColumn.cs) q.length) x.Cols)]):=Sub.skip (k:=1) (show ([(AV.bool x.There)]).length=1 from rfl) (Sub.skip (k:=1) (show ([(AV.txt x.Name)]).length=1 from rfl) (Sub.head _ _))
abbrev GTable.w2 (x:GTable) (y:List GColumn):GTable:={ x with Cols:=y }
theorem GTable.upd2 (x:GTable) (y:List GColumn):Upd (GTable.cs x) 2 ([((fun q:List GColumn=>AV.lst (q.flatMap GColumn.cs) q.length) y)]) (GTable.cs { x with Cols:=y }):=Upd.skip (k:=1) (show ([(AV.bool x.There)]).length=1 from rfl) (Upd.skip (k:=1) (show ([(AV.txt x.Name)]).length=1 from rfl) (Upd.head (show ([((fun q:List GColumn=>AV.lst (q.flatMap GColumn.cs) q.length) y)]).length=([((fun q:List GColumn=>AV.lst (q.flatMap GColumn.cs) q.length) x.Cols)]).length from rfl)))
theorem GTable.sub3 (x:GTable):Sub (GTable.cs x) 3 (x.Drawers.toList.flatMap (fun v:Vector GCell 4=>v.toList.flatMap GCell.cs)):=Sub.skip (k:=1) (show ([(AV.bool x.There)]).length=1 from rfl) (Sub.skip (k:=1) (show ([(AV.txt x.Name)]).length=1 from rfl) (Sub.skip (k:=1) (show ([((fun q:List GColumn=>AV.lst (q.flatMap GColumn.cs) q.length) x.Cols)]).length=1 from rfl) (Sub.refl _)))
abbrev GTable.w3 (x:GTable) (y:Vector (Vector GCell 4) 2):GTable:={ x with Drawers:=y }
theorem GTable.upd3 (x:GTable) (y:Vector (Vector GCell 4) 2):Upd (GTable.cs x) 3 (y.toList.flatMap (fun v:Vector GCell 4=>v.toList.flatMap GCell.cs)) (GTable.cs { x with Drawers:=y }):=Upd.skip (k:=1) (show ([(AV.bool x.There)]).length=1 from rfl) (Upd.skip (k:=1) (show ([(AV.txt x.Name)]).length=1 from rfl) (Upd.skip (k:=1) (show ([((fun q:List GColumn=>AV.lst (q.flatMap GColumn.cs) q.length) x.Cols)]).length=1 from rfl) (Upd.refl ((vfm_len (fun x=>(vfm_len (fun x=>(GCell.len x)) x)) y).trans (vfm_len (fun x=>(vfm_len (fun x=>(GCell.len x)) x)) x.Drawers).symm))))
structure GExpr where
  Op:Int
  Value:GValue
  Name:List UInt8
  Args:List GExpr
def GExpr.zero:GExpr:=⟨(0:Int),GValue.zero,[],[]⟩
instance : Inhabited GExpr := ⟨GExpr.zero⟩
mutual
def GExpr.cs:GExpr→List AV
  | ⟨x0,x1,x2,x3⟩=>([(AV.int x0)])++((GValue.cs x1)++(([(AV.txt x2)])++([AV.lst (GExpr.csL x3) x3.length])))
def GExpr.csL:List GExpr→List AV
  | []=>[]
  | x::l=>GExpr.cs x++GExpr.csL l
end
theorem GExpr.csL_eq:∀ l:List GExpr,GExpr.csL l=l.flatMap GExpr.cs
  | []=>by rw [GExpr.csL,List.flatMap_nil]
  | x::l=>by rw [GExpr.csL,GExpr.csL_eq l,List.flatMap_cons]
theorem GExpr.cs_eq (x:GExpr):GExpr.cs x=([(AV.int x.Op)])++((GValue.cs x.Value)++(([(AV.txt x.Name)])++([((fun q:List GExpr=>AV.lst (q.flatMap GExpr.cs) q.length) x.Args)]))):=by
  cases x
  rw [GExpr.cs,GExpr.csL_eq]
abbrev GExpr.ls (q:List GExpr):AV:=AV.lst (q.flatMap GExpr.cs) q.length
theorem GExpr.len (x:GExpr):(GExpr.cs x).length=7:=by
  simp only [GExpr.cs_eq,List.length_append]
  rw [show ([(AV.int x.Op)]).length=1 from (show ([(AV.int x.Op)]).length=1 from rfl),show (GValue.cs x.Value).length=4 from (GValue.len x.Value),show ([(AV.txt x.Name)]).length=1 from (show ([(AV.txt x.Name)]).length=1 from rfl),show ([((fun q:List GExpr=>AV.lst (q.flatMap GExpr.cs) q.length) x.Args)]).length=1 from (show ([((fun q:List GExpr=>AV.lst (q.flatMap GExpr.cs) q.length) x.Args)]).length=1 from rfl)]
theorem GExpr.sub0 (x:GExpr):Sub (GExpr.cs x) 0 ([(AV.int x.Op)]):=by
  rw [GExpr.cs_eq]
  exact (Sub.head _ _)
theorem GExpr.sub1 (x:GExpr):Sub (GExpr.cs x) 1 (GValue.cs x.Value):=by
  rw [GExpr.cs_eq]
  exact (Sub.skip (k:=1) (show ([(AV.int x.Op)]).length=1 from rfl) (Sub.head _ _))
theorem GExpr.sub2 (x:GExpr):Sub (GExpr.cs x) 5 ([(AV.txt x.Name)]):=by
  rw [GExpr.cs_eq]
  exact (Sub.skip (k:=1) (show ([(AV.int x.Op)]).length=1 from rfl) (Sub.skip (k:=4) (GValue.len x.Value) (Sub.head _ _)))
theorem GExpr.sub3 (x:GExpr):Sub (GExpr.cs x) 6 ([((fun q:List GExpr=>AV.lst (q.flatMap GExpr.cs) q.length) x.Args)]):=by
  rw [GExpr.cs_eq]
  exact (Sub.skip (k:=1) (show ([(AV.int x.Op)]).length=1 from rfl) (Sub.skip (k:=4) (GValue.len x.Value) (Sub.skip (k:=1) (show ([(AV.txt x.Name)]).length=1 from rfl) (Sub.refl _))))
theorem in_3:Info Tryz.prog 3 1 8 (.int .i64 0):=by unfold Info; kernel_rfl
theorem one_3:(.int .i64 0:Value).cells.all (·.oneCell')=true:=by kernel_rfl
theorem in_9:Info Tryz.prog 9 1 16 (.string ⟨#[]⟩):=by unfold Info; kernel_rfl
theorem one_9:(.string ⟨#[]⟩:Value).cells.all (·.oneCell')=true:=by kernel_rfl
theorem in_30:Info Tryz.prog 30 1 8 (.int .u64 0):=by unfold Info; kernel_rfl
theorem in_32:Info Tryz.prog 32 4 40 (.agg #[.int .i64 0,.int .i64 0,.int .u64 0,.string ⟨#[]⟩]):=by unfold Info; kernel_rfl
theorem one_32:(.agg #[.int .i64 0,.int .i64 0,.int .u64 0,.string ⟨#[]⟩]:Value).cells.all (·.oneCell')=true:=by kernel_rfl
theorem zc_32:((.agg #[.int .i64 0,.int .i64 0,.int .u64 0,.string ⟨#[]⟩]:Value).cells.toList.map zcell)=GValue.cs GValue.zero:=by rfl
theorem pl_32:placesOf Tryz.prog 32=some [(0,1),(1,1),(2,1),(3,1)]:=by kernel_rfl
theorem in_63:Info Tryz.prog 63 3 32 (.agg #[.string ⟨#[]⟩,.int .i64 0,.bool false]):=by unfold Info; kernel_rfl
theorem one_63:(.agg #[.string ⟨#[]⟩,.int .i64 0,.bool false]:Value).cells.all (·.oneCell')=true:=by kernel_rfl
theorem zc_63:((.agg #[.string ⟨#[]⟩,.int .i64 0,.bool false]:Value).cells.toList.map zcell)=GColumn.cs GColumn.zero:=by rfl
theorem in_79:Info Tryz.prog 79 4 40 (.agg #[.int .i64 0,.string ⟨#[]⟩,.int .i64 0,.int .u64 0]):=by unfold Info; kernel_rfl
theorem one_79:(.agg #[.int .i64 0,.string ⟨#[]⟩,.int .i64 0,.int .u64 0]:Value).cells.all (·.oneCell')=true:=by kernel_rfl
theorem zc_79:((.agg #[.int .i64 0,.string ⟨#[]⟩,.int .i64 0,.int .u64 0]:Value).cells.toList.map zcell)=GToken.cs GToken.zero:=by rfl
theorem pl_79:placesOf Tryz.prog 79=some [(0,1),(1,1),(2,1),(3,1)]:=by kernel_rfl
theorem in_4:Info Tryz.prog 4 1 1 (.bool false):=by unfold Info; kernel_rfl
theorem in_26:Info Tryz.prog 26 8 128 (.agg #[.bool false,.slice none 0 0,.bool false,.slice none 0 0,.bool false,.slice none 0 0,.bool false,.slice none 0 0]):=by unfold Info; kernel_rfl
theorem one_26:(.agg #[.bool false,.slice none 0 0,.bool false,.slice none 0 0,.bool false,.slice none 0 0,.bool false,.slice none 0 0]:Value).cells.all (·.oneCell')=true:=by kernel_rfl
theorem zc_26:((.agg #[.bool false,.slice none 0 0,.bool false,.slice none 0 0,.bool false,.slice none 0 0,.bool false,.slice none 0 0]:Value).cells.toList.map zcell)=((Vector.replicate 4 GCell.zero).toList).flatMap GCell.cs:=by rfl
theorem in_25:Info Tryz.prog 25 2 32 (.agg #[.bool false,.slice none 0 0]):=by unfold Info; kernel_rfl
theorem one_25:(.agg #[.bool false,.slice none 0 0]:Value).cells.all (·.oneCell')=true:=by kernel_rfl
theorem zc_25:((.agg #[.bool false,.slice none 0 0]:Value).cells.toList.map zcell)=GCell.cs GCell.zero:=by rfl
theorem in_23:Info Tryz.prog 23 1 24 (.slice none 0 0):=by unfold Info; kernel_rfl
theorem in_22:Info Tryz.prog 22 1 24 (.slice none 0 0):=by unfold Info; kernel_rfl
theorem in_27:Info Tryz.prog 27 16 256 (.agg #[.bool false,.slice none 0 0,.bool false,.slice none 0 0,.bool false,.slice none 0 0,.bool false,.slice none 0 0,.bool false,.slice none 0 0,.bool false,.slice none 0 0,.bool false,.slice none 0 0,.bool false,.slice none 0 0]):=by unfold Info; kernel_rfl
theorem in_29:Info Tryz.prog 29 19 304 (.agg #[.bool false,.string ⟨#[]⟩,.slice none 0 0,.bool false,.slice none 0 0,.bool false,.slice none 0 0,.bool false,.slice none 0 0,.bool false,.slice none 0 0,.bool false,.slice none 0 0,.bool false,.slice none 0 0,.bool false,.slice none 0 0,.bool false,.slice none 0 0]):=by unfold Info; kernel_rfl
theorem one_29:(.agg #[.bool false,.string ⟨#[]⟩,.slice none 0 0,.bool false,.slice none 0 0,.bool false,.slice none 0 0,.bool false,.slice none 0 0,.bool false,.slice none 0 0,.bool false,.slice none 0 0,.bool false,.slice none 0 0,.bool false,.slice none 0 0,.bool false,.slice none 0 0]:Value).cells.all (·.oneCell')=true:=by kernel_rfl
theorem zc_29:((.agg #[.bool false,.string ⟨#[]⟩,.slice none 0 0,.bool false,.slice none 0 0,.bool false,.slice none 0 0,.bool false,.slice none 0 0,.bool false,.slice none 0 0,.bool false,.slice none 0 0,.bool false,.slice none 0 0,.bool false,.slice none 0 0,.bool false,.slice none 0 0]:Value).cells.toList.map zcell)=GTable.cs GTable.zero:=by rfl
theorem pl_29:placesOf Tryz.prog 29=some [(0,1),(1,1),(2,1),(3,16)]:=by kernel_rfl
theorem in_33:Info Tryz.prog 33 1 24 (.slice none 0 0):=by unfold Info; kernel_rfl
theorem in_35:Info Tryz.prog 35 7 88 (.agg #[.int .i64 0,.int .i64 0,.int .i64 0,.int .u64 0,.string ⟨#[]⟩,.string ⟨#[]⟩,.slice none 0 0]):=by unfold Info; kernel_rfl
theorem one_35:(.agg #[.int .i64 0,.int .i64 0,.int .i64 0,.int .u64 0,.string ⟨#[]⟩,.string ⟨#[]⟩,.slice none 0 0]:Value).cells.all (·.oneCell')=true:=by kernel_rfl
theorem zc_35:((.agg #[.int .i64 0,.int .i64 0,.int .i64 0,.int .u64 0,.string ⟨#[]⟩,.string ⟨#[]⟩,.slice none 0 0]:Value).cells.toList.map zcell)=GExpr.cs GExpr.zero:=by rfl
theorem eq_32:EqT Tryz.prog 32 2 (fun x:GValue=>.agg (GValue.cs x)) :=
  eqt_struct [fun a b=>a.Kind=b.Kind,fun a b=>a.Int_=b.Int_,fun a b=>a.Bits=b.Bits,fun a b=>a.Text=b.Text] U32 (by kernel_rfl) ⟨(FieldEq.more (fe_one (by decide) U3 rfl (eqt_int U3) (fun a=>GValue.sub0 a)) (by decide:1≤1)),(FieldEq.more (fe_one (by decide) U3 rfl (eqt_int U3) (fun a=>GValue.sub1 a)) (by decide:1≤1)),(FieldEq.more (fe_one (by decide) U30 rfl (eqt_u64 U30) (fun a=>GValue.sub2 a)) (by decide:1≤1)),(FieldEq.more (fe_one (by decide) U9 rfl (eqt_txt U9) (fun a=>GValue.sub3 a)) (by decide:1≤1)),trivial⟩ (fun a b=>by
    cases a; cases b
    simp)
noncomputable def g_lex_small (c0:UInt8):Option (Bool) :=
  some (decide (((97:UInt8)≤c0)∧(c0≤(122:UInt8))))
theorem g_lex_small_ac {c0:UInt8} {r:Bool} (H:g_lex_small c0=some r):ACp Tryz.prog 60 [(AV.b8 c0)] (AV.bool r):=by
 refine ACp_of (AC2_of_body (vs:=[.b r]) Tryz.func60 Y Y (lb Y) Y ?_) (fun _=>.same _)
 unfold g_lex_small at H
 refine as2 [0] [.p (AV.b8 c0)] [] [] Y (sg 1 Y (ra Y (rz [0] [_] [] [] Y (QS (AW2_mid (⟨[(2,.b (decide (((97:UInt8)≤c0)∧(c0≤(122:UInt8)))))],[],9⟩:TS) ?_ ?_)))))
 ·refine ar 7 Y (rm Y (rp Y (p_u8ge (a:=c0) (b:=(97:UInt8)) Y Y Y) (rm Y ?_)))
  refine (Classical.em ((97:UInt8)≤c0)).elim (fun h1=>?_) (fun h1=>?_)
  ·exact rn Y (dT h1) Y (p_move Y Y) (rn Y (dT h1) Y (p_u8le (a:=c0) (b:=(122:UInt8)) Y Y Y) (rp Y (p_pkt Y Y (dT h1) (tb ((and_l (q:=c0≤(122:UInt8)) h1)))) (ra Y (rend Y Y))))
  exact rO Y (dF h1) Y (rO Y (dF h1) Y (rp Y (p_pkf Y Y (dF h1) (tb (dF (p:=((97:UInt8)≤c0)∧(c0≤(122:UInt8))) (fun x=>h1 x.1)).symm)) (ra Y (rend Y Y))))
 refine QR ?_
 have z:=se H;subst z
 exact ⟨⟨rt,trivial⟩,trivial⟩
noncomputable def g_lex_digit (c0:UInt8):Option (Bool) :=
  some (decide (((48:UInt8)≤c0)∧(c0≤(57:UInt8))))
theorem g_lex_digit_ac {c0:UInt8} {r:Bool} (H:g_lex_digit c0=some r):ACp Tryz.prog 83 [(AV.b8 c0)] (AV.bool r):=by
 refine ACp_of (AC2_of_body (vs:=[.b r]) Tryz.func83 Y Y (lb Y) Y ?_) (fun _=>.same _)
 unfold g_lex_digit at H
 refine as2 [0] [.p (AV.b8 c0)] [] [] Y (sg 1 Y (ra Y (rz [0] [_] [] [] Y (QS (AW2_mid (⟨[(2,.b (decide (((48:UInt8)≤c0)∧(c0≤(57:UInt8)))))],[],9⟩:TS) ?_ ?_)))))
 ·refine ar 7 Y (rm Y (rp Y (p_u8ge (a:=c0) (b:=(48:UInt8)) Y Y Y) (rm Y ?_)))
  refine (Classical.em ((48:UInt8)≤c0)).elim (fun h1=>?_) (fun h1=>?_)
  ·exact rn Y (dT h1) Y (p_move Y Y) (rn Y (dT h1) Y (p_u8le (a:=c0) (b:=(57:UInt8)) Y Y Y) (rp Y (p_pkt Y Y (dT h1) (tb ((and_l (q:=c0≤(57:UInt8)) h1)))) (ra Y (rend Y Y))))
  exact rO Y (dF h1) Y (rO Y (dF h1) Y (rp Y (p_pkf Y Y (dF h1) (tb (dF (p:=((48:UInt8)≤c0)∧(c0≤(57:UInt8))) (fun x=>h1 x.1)).symm)) (ra Y (rend Y Y))))
 refine QR ?_
 have z:=se H;subst z
 exact ⟨⟨rt,trivial⟩,trivial⟩
noncomputable def g_lex_inName (c0:UInt8):Option (Bool) :=
  ((g_lex_small c0).bind fun r'3=>(if r'3=true then some true else (g_lex_digit c0).bind fun r'4=>(if r'4=true then some true else some (decide (c0=(95:UInt8)))))).bind fun g'5=>some g'5
theorem g_lex_inName_ac {c0:UInt8} {r:Bool} (H:g_lex_inName c0=some r):ACp Tryz.prog 59 [(AV.b8 c0)] (AV.bool r):=by
 refine ACp_of (AC2_of_body (vs:=[.b r]) Tryz.func59 Y Y (lb Y) Y ?_) (fun _=>.same _)
 unfold g_lex_inName at H
 refine as2 [0] [.p (AV.b8 c0)] [] [] Y (sg 1 Y (ra Y (rz [0] [_] [] [] Y (QS (bindK H fun g'5 h7 H=>AW2_mid (⟨[(2,.b g'5)],[],13⟩:TS) ?_ ?_)))))
 ·clear H
  have H:=h7
  clear h7
  refine ar 11 Y (rm Y (bindK H fun r'3 h3 H=>rp Y (pc Y Tryz.func60 Y (g_lex_small_ac h3) Y) (rm Y (em2 H (fun h4 H=>?_) (fun h4 H=>?_)))))
  ·refine rO Y h4 Y (rO Y h4 Y (rp Y (p_pkt Y Y h4 (.same _)) (rm Y (rO Y Y Y (rO Y Y Y (rp Y (p_pkt Y Y Y (.same _)) (ra Y (rs [2] [.b true] [] [] Y ?_))))))))
   have z:=se H;subst z
   exact RunW_nil rfl
  refine rn Y (bfalse h4) Y (p_move Y Y) (bindK H fun r'4 h5 H=>rn Y (bfalse h4) Y (pc Y Tryz.func83 Y (g_lex_digit_ac h5) Y) (rp Y (p_pkf Y Y (bfalse h4) (.same _)) (rm Y (em2 H (fun h6 H=>?_) (fun h6 H=>?_)))))
  ·refine rO Y h6 Y (rO Y h6 Y (rp Y (p_pkt Y Y h6 (.same _)) (ra Y (rs [2] [.b true] [] [] Y ?_))))
   have z:=se H;subst z
   exact RunW_nil rfl
  refine rn Y (bfalse h6) Y (p_move Y Y) (rn Y (bfalse h6) Y (p_u8eq (a:=c0) (b:=(95:UInt8)) Y Y Y) (rp Y (p_pkf Y Y (bfalse h6) (.same _)) (ra Y (rs [2] [.b (decide (c0=(95:UInt8)))] [] [] Y ?_))))
  have z:=se H;subst z
  exact RunW_nil rfl
 refine QR ?_
 have z:=se H;subst z
 exact ⟨⟨rt,trivial⟩,trivial⟩
noncomputable def g_lex_great (c0:UInt8):Option (Bool) :=
  some (decide (((65:UInt8)≤c0)∧(c0≤(90:UInt8))))
theorem g_lex_great_ac {c0:UInt8} {r:Bool} (H:g_lex_great c0=some r):ACp Tryz.prog 61 [(AV.b8 c0)] (AV.bool r):=by
 refine ACp_of (AC2_of_body (vs:=[.b r]) Tryz.func61 Y Y (lb Y) Y ?_) (fun _=>.same _)
 unfold g_lex_great at H
 refine as2 [0] [.p (AV.b8 c0)] [] [] Y (sg 1 Y (ra Y (rz [0] [_] [] [] Y (QS (AW2_mid (⟨[(2,.b (decide (((65:UInt8)≤c0)∧(c0≤(90:UInt8)))))],[],9⟩:TS) ?_ ?_)))))
 ·refine ar 7 Y (rm Y (rp Y (p_u8ge (a:=c0) (b:=(65:UInt8)) Y Y Y) (rm Y ?_)))
  refine (Classical.em ((65:UInt8)≤c0)).elim (fun h1=>?_) (fun h1=>?_)
  ·exact rn Y (dT h1) Y (p_move Y Y) (rn Y (dT h1) Y (p_u8le (a:=c0) (b:=(90:UInt8)) Y Y Y) (rp Y (p_pkt Y Y (dT h1) (tb ((and_l (q:=c0≤(90:UInt8)) h1)))) (ra Y (rend Y Y))))
  exact rO Y (dF h1) Y (rO Y (dF h1) Y (rp Y (p_pkf Y Y (dF h1) (tb (dF (p:=((65:UInt8)≤c0)∧(c0≤(90:UInt8))) (fun x=>h1 x.1)).symm)) (ra Y (rend Y Y))))
 refine QR ?_
 have z:=se H;subst z
 exact ⟨⟨rt,trivial⟩,trivial⟩
noncomputable def g_math_Signbit (x0:F64):Option (Bool) :=
  some (decide (w64 (x0.toNat:Int) < (0:Int)))
theorem g_math_Signbit_ac {x0:F64} {r:Bool} (H:g_math_Signbit x0=some r):ACp Tryz.prog 86 [(AV.f64 x0)] (AV.bool r):=by
 refine ACp_of (AC2_of_body (vs:=[.b r]) Tryz.func86 Y Y (lb Y) Y ?_) (fun _=>.same _)
 unfold g_math_Signbit at H
 refine as2 [0] [.p (AV.f64 x0)] [] [] Y (sg 1 Y (ra Y (rz [0] [_] [] [] Y (sg 5 Y (rm Y (rp Y (p_tobits (a:=x0) Y Y Y Tryz.func91 Y Y (by kernel_rfl) (by kernel_rfl) Y) (rp Y (p_u64_i (a:=x0) Y U30 U2 Y) (rp Y (pb Y Y) (ra Y (rz [2] [.b (decide (w64 (x0.toNat:Int) < 0))] [] [] Y (QR ?_)))))))))))
 have z:=se H;subst z
 exact ⟨⟨rt,trivial⟩,trivial⟩
noncomputable def g_value_Check (v0:GValue):Option (Int) :=
  (if (v0.Kind < (0:Int))∨(v0.Kind > (4:Int)) then some (2:Int) else (if (v0.Text.length:Int) > (40:Int) then some (1:Int) else letO (decide ((((v0.Kind≠(4:Int))∧(v0.Text≠[]))∨((v0.Kind≠(3:Int))∧(v0.Bits≠(0:UInt64))))∨(((v0.Kind≠(2:Int))∧(v0.Kind≠(1:Int)))∧(v0.Int_≠(0:Int))))) fun t48'1=>(if t48'1=true then some (3:Int) else (show Option (Int⊕Unit) from (if v0.Kind=(1:Int) then (if (v0.Int_≠(0:Int))∧(v0.Int_≠(1:Int)) then some (.inl (3:Int)) else some (.inr ())) else (if v0.Kind=(3:Int) then ((if (fneq v0.Bits v0.Bits)=true then some true else (if (feq v0.Bits (0:F64))=true then (g_math_Signbit v0.Bits).bind fun r'4=>some r'4 else some false))).bind fun g'5=>(if g'5=true then some (.inl (3:Int)) else some (.inr ())) else (if v0.Kind=(4:Int) then (g_utf8_ValidString v0.Text).bind fun r'6=>(if (!r'6)=true then some (.inl (3:Int)) else some (.inr ())) else some (.inr ()))))).bind fun o'8=>match o'8 with | .inl y'7=>some y'7 | .inr j'2=>some (0:Int))))
theorem g_value_Check_ac {v0:GValue} {r:Int} (H:g_value_Check v0=some r):ACp Tryz.prog 63 [(.agg (GValue.cs v0))] (AV.int r):=by
 refine ACp_of (AC2_of_body (vs:=[.i r]) Tryz.func63 Y Y (lb Y) Y ?_) (fun _=>.same _)
 unfold g_value_Check at H
 refine as2 [0] [.g (GValue.cs v0)] [] [] Y (sg 2 Y (rq Y (bx 1 Y) (ra Y (rz [1] [.q 1 (0)] [1] [.pure (GValue.cs v0)] Y (QS (QS (AW2_mid (⟨[(1,.q 1 (0)),(11,.b (decide ((v0.Kind < 0)∨(v0.Kind > 4))))],[(1,.pure (GValue.cs v0))],83⟩:TS) ?_ ?_)))))))
 ·refine ar 8 Y (rf Y U32 Y in_3 Y Y (GValue.len v0) (rp Y (pl U3 Y (GValue.sub0 v0)) (rp Y (pb Y Y) (rm Y ?_))))
  refine (Classical.em (v0.Kind < 0)).elim (fun h1=>?_) (fun h1=>?_)
  ·iterate 3 (refine rO Y (dT h1) Y ?_)
   exact rp Y (p_pkt Y Y (dT h1) (tb (dT (p:=(v0.Kind < 0)∨(v0.Kind > 4)) (Or.inl h1)).symm)) (rend Y Y)
  exact rn Y (dF h1) Y (uf U32 Y in_3 Y (GValue.len v0)) (rn Y (dF h1) Y (pl U3 Y (GValue.sub0 v0)) (rn Y (dF h1) Y (pb Y Y) (rp Y (p_pkf Y Y (dF h1) (tb ((or_l (q:=v0.Kind > 4) h1)))) (rend Y Y))))
 refine if2 H Y (fun h2 H=>?_) (fun h2 H=>?_)
 ·refine sg 1 Y (ra Y (rz [2] [.i 2] [] [] Y (QR ?_)))
  have z:=se H;subst z
  exact ⟨⟨rt,trivial⟩,trivial⟩
 refine as2 [1] [_] [1] [_] Y (QK (QS (sg 4 Y (rf Y U32 Y in_9 Y Y (GValue.len v0) (rp Y (pl U9 Y (GValue.sub3 v0)) (rp Y (p_lent Y U9 Y) (rp Y (pb Y Y) (rz [1,15] [_,.b (decide ((v0.Text.length:Int) > 40))] [1] [_] Y (if2 H Y (fun h3 H=>?_) (fun h3 H=>?_))))))))))
 ·refine sg 1 Y (ra Y (rz [2] [.i 1] [] [] Y (QR ?_)))
  have z:=se H;subst z
  exact ⟨⟨rt,trivial⟩,trivial⟩
 refine as2 [1] [_] [1] [_] Y (QK (QS (QS (AW2_mid (⟨[(1,.q 1 (0)),(48,.b (decide ((((v0.Kind≠4)∧(v0.Text≠[]))∨((v0.Kind≠3)∧(v0.Bits≠(0:UInt64))))∨(((v0.Kind≠2)∧(v0.Kind≠1))∧(v0.Int_≠0)))))],[(1,.pure (GValue.cs v0))],83⟩:TS) ?_ ?_))))
 ·refine ar 33 Y (rf Y U32 Y in_3 Y Y (GValue.len v0) (rp Y (pl U3 Y (GValue.sub0 v0)) (rp Y (pn Y) (rm Y ?_))))
  refine (Classical.em (v0.Kind≠4)).elim (fun h4=>?_) (fun h4=>?_)
  ·refine rn Y (dT h4) Y (uf U32 Y in_9 Y (GValue.len v0)) (rn Y (dT h4) Y (pl U9 Y (GValue.sub3 v0)) (rn Y (dT h4) Y (p_sne Y Y Y) (rp Y (p_pkt Y Y (dT h4) (tb ((and_l (q:=v0.Text≠[]) h4)))) (rm Y ?_))))
   refine (Classical.em (v0.Text≠[])).elim (fun h5=>?_) (fun h5=>?_)
   ·have qq1:=dT (p:=(v0.Kind≠4)∧(v0.Text≠[])) ⟨h4,h5⟩
    iterate 4 (refine rO Y qq1 Y ?_)
    iterate 3 (refine r_off2 rfl rfl rfl rfl rfl rfl ?_)
    refine rO Y qq1 Y ?_
    have qq2:=dT (p:=((v0.Kind≠4)∧(v0.Text≠[]))∨((v0.Kind≠3)∧(v0.Bits≠(0:UInt64)))) (Or.inl ⟨h4,h5⟩)
    refine rp Y (p_pkt Y Y qq1 (tb qq2.symm)) (rm Y ?_)
    iterate 4 (refine rO Y qq2 Y ?_)
    iterate 3 (refine r_off2 rfl rfl rfl rfl rfl rfl ?_)
    iterate 2 (refine rO Y qq2 Y ?_)
    iterate 3 (refine r_off2 rfl rfl rfl rfl rfl rfl ?_)
    exact rO Y qq2 Y (rp Y (p_pkt Y Y qq2 (tb (dT (p:=(((v0.Kind≠4)∧(v0.Text≠[]))∨((v0.Kind≠3)∧(v0.Bits≠(0:UInt64))))∨(((v0.Kind≠2)∧(v0.Kind≠1))∧(v0.Int_≠0))) (Or.inl (Or.inl ⟨h4,h5⟩))).symm)) (rend Y Y))
   have qq3:=dF (p:=(v0.Kind≠4)∧(v0.Text≠[])) (fun h=>h5 h.2)
   refine rn Y qq3 Y (uf U32 Y in_3 Y (GValue.len v0)) (rn Y qq3 Y (pl U3 Y (GValue.sub0 v0)) (rn Y qq3 Y (pn Y) (rn Y qq3 Y (p_move Y Y) ?_)))
   refine (Classical.em (v0.Kind≠3)).elim (fun h6=>?_) (fun h6=>?_)
   ·refine rn Y (dT h6) Y (uf U32 Y in_30 Y (GValue.len v0)) (rn Y (dT h6) Y (pl U30 Y (GValue.sub2 v0)) (rn Y (dT h6) Y (p_u64ne (a:=v0.Bits) (b:=(0:UInt64)) Y Y Y) (rn Y qq3 Y (p_pkt Y Y (dT h6) (tb ((and_l (q:=v0.Bits≠(0:UInt64)) h6)))) (rp Y (p_pkf Y Y qq3 (tb ((or_l (p:=(v0.Kind≠4)∧(v0.Text≠[])) (q:=(v0.Kind≠3)∧(v0.Bits≠(0:UInt64))) (fun h=>h5 h.2))))) (rm Y ?_)))))
    refine (Classical.em (v0.Bits≠(0:UInt64))).elim (fun h7=>?_) (fun h7=>?_)
    ·have qq4:=dT (p:=((v0.Kind≠4)∧(v0.Text≠[]))∨((v0.Kind≠3)∧(v0.Bits≠(0:UInt64)))) (Or.inr ⟨h6,h7⟩)
     iterate 4 (refine rO Y qq4 Y ?_)
     iterate 3 (refine r_off2 rfl rfl rfl rfl rfl rfl ?_)
     iterate 2 (refine rO Y qq4 Y ?_)
     iterate 3 (refine r_off2 rfl rfl rfl rfl rfl rfl ?_)
     exact rO Y qq4 Y (rp Y (p_pkt Y Y qq4 (tb (dT (p:=(((v0.Kind≠4)∧(v0.Text≠[]))∨((v0.Kind≠3)∧(v0.Bits≠(0:UInt64))))∨(((v0.Kind≠2)∧(v0.Kind≠1))∧(v0.Int_≠0))) (Or.inl (Or.inr ⟨h6,h7⟩))).symm)) (rend Y Y))
    have qq5:=dF (p:=((v0.Kind≠4)∧(v0.Text≠[]))∨((v0.Kind≠3)∧(v0.Bits≠(0:UInt64)))) (not_or.2 ⟨(fun h=>h5 h.2),(fun h=>h7 h.2)⟩)
    refine rn Y qq5 Y (uf U32 Y in_3 Y (GValue.len v0)) (rn Y qq5 Y (pl U3 Y (GValue.sub0 v0)) (rn Y qq5 Y (pn Y) (rn Y qq5 Y (p_move Y Y) ?_)))
    refine (Classical.em (v0.Kind≠2)).elim (fun h8=>?_) (fun h8=>?_)
    ·refine rn Y (dT h8) Y (uf U32 Y in_3 Y (GValue.len v0)) (rn Y (dT h8) Y (pl U3 Y (GValue.sub0 v0)) (rn Y (dT h8) Y (pn Y) (rn Y qq5 Y (p_pkt Y Y (dT h8) (tb ((and_l (q:=v0.Kind≠1) h8)))) (rn Y qq5 Y (p_move Y Y) ?_))))
     refine (Classical.em (v0.Kind≠1)).elim (fun h9=>?_) (fun h9=>?_)
     ·have qq6:=dT (p:=(v0.Kind≠2)∧(v0.Kind≠1)) ⟨h8,h9⟩
      exact rn Y qq6 Y (uf U32 Y in_3 Y (GValue.len v0)) (rn Y qq6 Y (pl U3 Y (GValue.sub1 v0)) (rn Y qq6 Y (pn Y) (rn Y qq5 Y (p_pkt Y Y qq6 (tb ((and_l (p:=(v0.Kind≠2)∧(v0.Kind≠1)) (q:=v0.Int_≠0) ⟨h8,h9⟩)))) (rp Y (p_pkf Y Y qq5 (tb ((or_l (p:=((v0.Kind≠4)∧(v0.Text≠[]))∨((v0.Kind≠3)∧(v0.Bits≠(0:UInt64)))) (q:=((v0.Kind≠2)∧(v0.Kind≠1))∧(v0.Int_≠0)) (not_or.2 ⟨(fun h=>h5 h.2),(fun h=>h7 h.2)⟩))))) (rend Y Y)))))
     have qq7:=dF (p:=(v0.Kind≠2)∧(v0.Kind≠1)) (fun h=>h9 h.2)
     iterate 3 (refine rO Y qq7 Y ?_)
     exact rn Y qq5 Y (p_pkf Y Y qq7 (tb (dF (p:=((v0.Kind≠2)∧(v0.Kind≠1))∧(v0.Int_≠0)) (fun x=>(fun h=>h9 h.2) x.1)).symm)) (rp Y (p_pkf Y Y qq5 (tb ((or_l (p:=((v0.Kind≠4)∧(v0.Text≠[]))∨((v0.Kind≠3)∧(v0.Bits≠(0:UInt64)))) (q:=((v0.Kind≠2)∧(v0.Kind≠1))∧(v0.Int_≠0)) (not_or.2 ⟨(fun h=>h5 h.2),(fun h=>h7 h.2)⟩))))) (rend Y Y))
    iterate 3 (refine rO Y (dF h8) Y ?_)
    refine rn Y qq5 Y (p_pkf Y Y (dF h8) (tb (dF (p:=(v0.Kind≠2)∧(v0.Kind≠1)) (fun x=>h8 x.1)).symm)) (rn Y qq5 Y (p_move Y Y) ?_)
    have qq8:=dF (p:=(v0.Kind≠2)∧(v0.Kind≠1)) (fun h=>h8 h.1)
    iterate 3 (refine rO Y qq8 Y ?_)
    exact rn Y qq5 Y (p_pkf Y Y qq8 (tb (dF (p:=((v0.Kind≠2)∧(v0.Kind≠1))∧(v0.Int_≠0)) (fun x=>(fun h=>h8 h.1) x.1)).symm)) (rp Y (p_pkf Y Y qq5 (tb ((or_l (p:=((v0.Kind≠4)∧(v0.Text≠[]))∨((v0.Kind≠3)∧(v0.Bits≠(0:UInt64)))) (q:=((v0.Kind≠2)∧(v0.Kind≠1))∧(v0.Int_≠0)) (not_or.2 ⟨(fun h=>h5 h.2),(fun h=>h7 h.2)⟩))))) (rend Y Y))
   iterate 3 (refine rO Y (dF h6) Y ?_)
   refine rn Y qq3 Y (p_pkf Y Y (dF h6) (tb (dF (p:=(v0.Kind≠3)∧(v0.Bits≠(0:UInt64))) (fun x=>h6 x.1)).symm)) (rp Y (p_pkf Y Y qq3 (tb ((or_l (p:=(v0.Kind≠4)∧(v0.Text≠[])) (q:=(v0.Kind≠3)∧(v0.Bits≠(0:UInt64))) (fun h=>h5 h.2))))) (rm Y ?_))
   have qq9:=dF (p:=((v0.Kind≠4)∧(v0.Text≠[]))∨((v0.Kind≠3)∧(v0.Bits≠(0:UInt64)))) (not_or.2 ⟨(fun h=>h5 h.2),(fun h=>h6 h.1)⟩)
   refine rn Y qq9 Y (uf U32 Y in_3 Y (GValue.len v0)) (rn Y qq9 Y (pl U3 Y (GValue.sub0 v0)) (rn Y qq9 Y (pn Y) (rn Y qq9 Y (p_move Y Y) ?_)))
   refine (Classical.em (v0.Kind≠2)).elim (fun h10=>?_) (fun h10=>?_)
   ·refine rn Y (dT h10) Y (uf U32 Y in_3 Y (GValue.len v0)) (rn Y (dT h10) Y (pl U3 Y (GValue.sub0 v0)) (rn Y (dT h10) Y (pn Y) (rn Y qq9 Y (p_pkt Y Y (dT h10) (tb ((and_l (q:=v0.Kind≠1) h10)))) (rn Y qq9 Y (p_move Y Y) ?_))))
    refine (Classical.em (v0.Kind≠1)).elim (fun h11=>?_) (fun h11=>?_)
    ·have qq10:=dT (p:=(v0.Kind≠2)∧(v0.Kind≠1)) ⟨h10,h11⟩
     exact rn Y qq10 Y (uf U32 Y in_3 Y (GValue.len v0)) (rn Y qq10 Y (pl U3 Y (GValue.sub1 v0)) (rn Y qq10 Y (pn Y) (rn Y qq9 Y (p_pkt Y Y qq10 (tb ((and_l (p:=(v0.Kind≠2)∧(v0.Kind≠1)) (q:=v0.Int_≠0) ⟨h10,h11⟩)))) (rp Y (p_pkf Y Y qq9 (tb ((or_l (p:=((v0.Kind≠4)∧(v0.Text≠[]))∨((v0.Kind≠3)∧(v0.Bits≠(0:UInt64)))) (q:=((v0.Kind≠2)∧(v0.Kind≠1))∧(v0.Int_≠0)) (not_or.2 ⟨(fun h=>h5 h.2),(fun h=>h6 h.1)⟩))))) (rend Y Y)))))
    have qq11:=dF (p:=(v0.Kind≠2)∧(v0.Kind≠1)) (fun h=>h11 h.2)
    iterate 3 (refine rO Y qq11 Y ?_)
    exact rn Y qq9 Y (p_pkf Y Y qq11 (tb (dF (p:=((v0.Kind≠2)∧(v0.Kind≠1))∧(v0.Int_≠0)) (fun x=>(fun h=>h11 h.2) x.1)).symm)) (rp Y (p_pkf Y Y qq9 (tb ((or_l (p:=((v0.Kind≠4)∧(v0.Text≠[]))∨((v0.Kind≠3)∧(v0.Bits≠(0:UInt64)))) (q:=((v0.Kind≠2)∧(v0.Kind≠1))∧(v0.Int_≠0)) (not_or.2 ⟨(fun h=>h5 h.2),(fun h=>h6 h.1)⟩))))) (rend Y Y))
   iterate 3 (refine rO Y (dF h10) Y ?_)
   refine rn Y qq9 Y (p_pkf Y Y (dF h10) (tb (dF (p:=(v0.Kind≠2)∧(v0.Kind≠1)) (fun x=>h10 x.1)).symm)) (rn Y qq9 Y (p_move Y Y) ?_)
   have qq12:=dF (p:=(v0.Kind≠2)∧(v0.Kind≠1)) (fun h=>h10 h.1)
   iterate 3 (refine rO Y qq12 Y ?_)
   exact rn Y qq9 Y (p_pkf Y Y qq12 (tb (dF (p:=((v0.Kind≠2)∧(v0.Kind≠1))∧(v0.Int_≠0)) (fun x=>(fun h=>h10 h.1) x.1)).symm)) (rp Y (p_pkf Y Y qq9 (tb ((or_l (p:=((v0.Kind≠4)∧(v0.Text≠[]))∨((v0.Kind≠3)∧(v0.Bits≠(0:UInt64)))) (q:=((v0.Kind≠2)∧(v0.Kind≠1))∧(v0.Int_≠0)) (not_or.2 ⟨(fun h=>h5 h.2),(fun h=>h6 h.1)⟩))))) (rend Y Y))
  iterate 3 (refine rO Y (dF h4) Y ?_)
  refine rp Y (p_pkf Y Y (dF h4) (tb (dF (p:=(v0.Kind≠4)∧(v0.Text≠[])) (fun x=>h4 x.1)).symm)) (rm Y ?_)
  have qq13:=dF (p:=(v0.Kind≠4)∧(v0.Text≠[])) (fun h=>h4 h.1)
  refine rn Y qq13 Y (uf U32 Y in_3 Y (GValue.len v0)) (rn Y qq13 Y (pl U3 Y (GValue.sub0 v0)) (rn Y qq13 Y (pn Y) (rn Y qq13 Y (p_move Y Y) ?_)))
  refine (Classical.em (v0.Kind≠3)).elim (fun h12=>?_) (fun h12=>?_)
  ·refine rn Y (dT h12) Y (uf U32 Y in_30 Y (GValue.len v0)) (rn Y (dT h12) Y (pl U30 Y (GValue.sub2 v0)) (rn Y (dT h12) Y (p_u64ne (a:=v0.Bits) (b:=(0:UInt64)) Y Y Y) (rn Y qq13 Y (p_pkt Y Y (dT h12) (tb ((and_l (q:=v0.Bits≠(0:UInt64)) h12)))) (rp Y (p_pkf Y Y qq13 (tb ((or_l (p:=(v0.Kind≠4)∧(v0.Text≠[])) (q:=(v0.Kind≠3)∧(v0.Bits≠(0:UInt64))) (fun h=>h4 h.1))))) (rm Y ?_)))))
   refine (Classical.em (v0.Bits≠(0:UInt64))).elim (fun h13=>?_) (fun h13=>?_)
   ·have qq14:=dT (p:=((v0.Kind≠4)∧(v0.Text≠[]))∨((v0.Kind≠3)∧(v0.Bits≠(0:UInt64)))) (Or.inr ⟨h12,h13⟩)
    iterate 4 (refine rO Y qq14 Y ?_)
    iterate 3 (refine r_off2 rfl rfl rfl rfl rfl rfl ?_)
    iterate 2 (refine rO Y qq14 Y ?_)
    iterate 3 (refine r_off2 rfl rfl rfl rfl rfl rfl ?_)
    exact rO Y qq14 Y (rp Y (p_pkt Y Y qq14 (tb (dT (p:=(((v0.Kind≠4)∧(v0.Text≠[]))∨((v0.Kind≠3)∧(v0.Bits≠(0:UInt64))))∨(((v0.Kind≠2)∧(v0.Kind≠1))∧(v0.Int_≠0))) (Or.inl (Or.inr ⟨h12,h13⟩))).symm)) (rend Y Y))
   have qq15:=dF (p:=((v0.Kind≠4)∧(v0.Text≠[]))∨((v0.Kind≠3)∧(v0.Bits≠(0:UInt64)))) (not_or.2 ⟨(fun h=>h4 h.1),(fun h=>h13 h.2)⟩)
   refine rn Y qq15 Y (uf U32 Y in_3 Y (GValue.len v0)) (rn Y qq15 Y (pl U3 Y (GValue.sub0 v0)) (rn Y qq15 Y (pn Y) (rn Y qq15 Y (p_move Y Y) ?_)))
   refine (Classical.em (v0.Kind≠2)).elim (fun h14=>?_) (fun h14=>?_)
   ·refine rn Y (dT h14) Y (uf U32 Y in_3 Y (GValue.len v0)) (rn Y (dT h14) Y (pl U3 Y (GValue.sub0 v0)) (rn Y (dT h14) Y (pn Y) (rn Y qq15 Y (p_pkt Y Y (dT h14) (tb ((and_l (q:=v0.Kind≠1) h14)))) (rn Y qq15 Y (p_move Y Y) ?_))))
    refine (Classical.em (v0.Kind≠1)).elim (fun h15=>?_) (fun h15=>?_)
    ·have qq16:=dT (p:=(v0.Kind≠2)∧(v0.Kind≠1)) ⟨h14,h15⟩
     exact rn Y qq16 Y (uf U32 Y in_3 Y (GValue.len v0)) (rn Y qq16 Y (pl U3 Y (GValue.sub1 v0)) (rn Y qq16 Y (pn Y) (rn Y qq15 Y (p_pkt Y Y qq16 (tb ((and_l (p:=(v0.Kind≠2)∧(v0.Kind≠1)) (q:=v0.Int_≠0) ⟨h14,h15⟩)))) (rp Y (p_pkf Y Y qq15 (tb ((or_l (p:=((v0.Kind≠4)∧(v0.Text≠[]))∨((v0.Kind≠3)∧(v0.Bits≠(0:UInt64)))) (q:=((v0.Kind≠2)∧(v0.Kind≠1))∧(v0.Int_≠0)) (not_or.2 ⟨(fun h=>h4 h.1),(fun h=>h13 h.2)⟩))))) (rend Y Y)))))
    have qq17:=dF (p:=(v0.Kind≠2)∧(v0.Kind≠1)) (fun h=>h15 h.2)
    iterate 3 (refine rO Y qq17 Y ?_)
    exact rn Y qq15 Y (p_pkf Y Y qq17 (tb (dF (p:=((v0.Kind≠2)∧(v0.Kind≠1))∧(v0.Int_≠0)) (fun x=>(fun h=>h15 h.2) x.1)).symm)) (rp Y (p_pkf Y Y qq15 (tb ((or_l (p:=((v0.Kind≠4)∧(v0.Text≠[]))∨((v0.Kind≠3)∧(v0.Bits≠(0:UInt64)))) (q:=((v0.Kind≠2)∧(v0.Kind≠1))∧(v0.Int_≠0)) (not_or.2 ⟨(fun h=>h4 h.1),(fun h=>h13 h.2)⟩))))) (rend Y Y))
   iterate 3 (refine rO Y (dF h14) Y ?_)
   refine rn Y qq15 Y (p_pkf Y Y (dF h14) (tb (dF (p:=(v0.Kind≠2)∧(v0.Kind≠1)) (fun x=>h14 x.1)).symm)) (rn Y qq15 Y (p_move Y Y) ?_)
   have qq18:=dF (p:=(v0.Kind≠2)∧(v0.Kind≠1)) (fun h=>h14 h.1)
   iterate 3 (refine rO Y qq18 Y ?_)
   exact rn Y qq15 Y (p_pkf Y Y qq18 (tb (dF (p:=((v0.Kind≠2)∧(v0.Kind≠1))∧(v0.Int_≠0)) (fun x=>(fun h=>h14 h.1) x.1)).symm)) (rp Y (p_pkf Y Y qq15 (tb ((or_l (p:=((v0.Kind≠4)∧(v0.Text≠[]))∨((v0.Kind≠3)∧(v0.Bits≠(0:UInt64)))) (q:=((v0.Kind≠2)∧(v0.Kind≠1))∧(v0.Int_≠0)) (not_or.2 ⟨(fun h=>h4 h.1),(fun h=>h13 h.2)⟩))))) (rend Y Y))
  iterate 3 (refine rO Y (dF h12) Y ?_)
  refine rn Y qq13 Y (p_pkf Y Y (dF h12) (tb (dF (p:=(v0.Kind≠3)∧(v0.Bits≠(0:UInt64))) (fun x=>h12 x.1)).symm)) (rp Y (p_pkf Y Y qq13 (tb ((or_l (p:=(v0.Kind≠4)∧(v0.Text≠[])) (q:=(v0.Kind≠3)∧(v0.Bits≠(0:UInt64))) (fun h=>h4 h.1))))) (rm Y ?_))
  have qq19:=dF (p:=((v0.Kind≠4)∧(v0.Text≠[]))∨((v0.Kind≠3)∧(v0.Bits≠(0:UInt64)))) (not_or.2 ⟨(fun h=>h4 h.1),(fun h=>h12 h.1)⟩)
  refine rn Y qq19 Y (uf U32 Y in_3 Y (GValue.len v0)) (rn Y qq19 Y (pl U3 Y (GValue.sub0 v0)) (rn Y qq19 Y (pn Y) (rn Y qq19 Y (p_move Y Y) ?_)))
  refine (Classical.em (v0.Kind≠2)).elim (fun h16=>?_) (fun h16=>?_)
  ·refine rn Y (dT h16) Y (uf U32 Y in_3 Y (GValue.len v0)) (rn Y (dT h16) Y (pl U3 Y (GValue.sub0 v0)) (rn Y (dT h16) Y (pn Y) (rn Y qq19 Y (p_pkt Y Y (dT h16) (tb ((and_l (q:=v0.Kind≠1) h16)))) (rn Y qq19 Y (p_move Y Y) ?_))))
   refine (Classical.em (v0.Kind≠1)).elim (fun h17=>?_) (fun h17=>?_)
   ·have qq20:=dT (p:=(v0.Kind≠2)∧(v0.Kind≠1)) ⟨h16,h17⟩
    exact rn Y qq20 Y (uf U32 Y in_3 Y (GValue.len v0)) (rn Y qq20 Y (pl U3 Y (GValue.sub1 v0)) (rn Y qq20 Y (pn Y) (rn Y qq19 Y (p_pkt Y Y qq20 (tb ((and_l (p:=(v0.Kind≠2)∧(v0.Kind≠1)) (q:=v0.Int_≠0) ⟨h16,h17⟩)))) (rp Y (p_pkf Y Y qq19 (tb ((or_l (p:=((v0.Kind≠4)∧(v0.Text≠[]))∨((v0.Kind≠3)∧(v0.Bits≠(0:UInt64)))) (q:=((v0.Kind≠2)∧(v0.Kind≠1))∧(v0.Int_≠0)) (not_or.2 ⟨(fun h=>h4 h.1),(fun h=>h12 h.1)⟩))))) (rend Y Y)))))
   have qq21:=dF (p:=(v0.Kind≠2)∧(v0.Kind≠1)) (fun h=>h17 h.2)
   iterate 3 (refine rO Y qq21 Y ?_)
   exact rn Y qq19 Y (p_pkf Y Y qq21 (tb (dF (p:=((v0.Kind≠2)∧(v0.Kind≠1))∧(v0.Int_≠0)) (fun x=>(fun h=>h17 h.2) x.1)).symm)) (rp Y (p_pkf Y Y qq19 (tb ((or_l (p:=((v0.Kind≠4)∧(v0.Text≠[]))∨((v0.Kind≠3)∧(v0.Bits≠(0:UInt64)))) (q:=((v0.Kind≠2)∧(v0.Kind≠1))∧(v0.Int_≠0)) (not_or.2 ⟨(fun h=>h4 h.1),(fun h=>h12 h.1)⟩))))) (rend Y Y))
  iterate 3 (refine rO Y (dF h16) Y ?_)
  refine rn Y qq19 Y (p_pkf Y Y (dF h16) (tb (dF (p:=(v0.Kind≠2)∧(v0.Kind≠1)) (fun x=>h16 x.1)).symm)) (rn Y qq19 Y (p_move Y Y) ?_)
  have qq22:=dF (p:=(v0.Kind≠2)∧(v0.Kind≠1)) (fun h=>h16 h.1)
  iterate 3 (refine rO Y qq22 Y ?_)
  exact rn Y qq19 Y (p_pkf Y Y qq22 (tb (dF (p:=((v0.Kind≠2)∧(v0.Kind≠1))∧(v0.Int_≠0)) (fun x=>(fun h=>h16 h.1) x.1)).symm)) (rp Y (p_pkf Y Y qq19 (tb ((or_l (p:=((v0.Kind≠4)∧(v0.Text≠[]))∨((v0.Kind≠3)∧(v0.Bits≠(0:UInt64)))) (q:=((v0.Kind≠2)∧(v0.Kind≠1))∧(v0.Int_≠0)) (not_or.2 ⟨(fun h=>h4 h.1),(fun h=>h12 h.1)⟩))))) (rend Y Y))
 refine gen1 (fun t48'1=>(⟨[(1,.q 1 (0)),(48,.b t48'1)],[(1,.pure (GValue.cs v0))],83⟩:TS)) H ?_
 intro t48'1 H
 refine AW2_cond Y (fun h18=>?_) (fun h18=>?_)
 ·replace H:=ite_then h18 H
  refine sg 1 Y (ra Y (rz [2] [.i 3] [] [] Y (QR ?_)))
  have z:=se H;subst z
  exact ⟨⟨rt,trivial⟩,trivial⟩
 replace H:=ite_else (ne_true h18) H
 refine as2 [1] [.q 1 (0)] [1] [.pure (GValue.cs v0)] Y (QK (QS (bindK H fun o'8 h19 H=>AW2_join (fun j'2:Unit=>(⟨[],[],83⟩:TS)) (fun r e s'=>e=Go.Exit.ret∧ResAll Tryz.prog s' [ResultVar.tmp 2] [.i r]∧HFits s' []) (x:=o'8) ?_ (fun j'2 hy=>?_) (fun y'7 e s' hy hs=>?_))))
 ·clear H
  have H:=h19
  clear h19
  refine sg 2 Y (rf Y U32 Y in_3 Y Y (GValue.len v0) (rp Y (pl U3 Y (GValue.sub0 v0)) (rz [1,50] [.q 1 (0),.i v0.Kind] [1] [.pure (GValue.cs v0)] Y (QB (sg 2 Y (rp Y (pi Y) (ra Y (rz [1,50,51] [_,_,.b (decide (v0.Kind=1))] [1] [_] Y (if2 H Y (fun h20 H=>?_) (fun h20 H=>?_))))))))))
  ·refine QS (AW2_mid (⟨[(60,.b (decide ((v0.Int_≠0)∧(v0.Int_≠1))))],[],83⟩:TS) ?_ ?_)
   ·refine ar 8 Y (rf Y U32 Y in_3 Y Y (GValue.len v0) (rp Y (pl U3 Y (GValue.sub1 v0)) (rp Y (pn Y) (rm Y ?_))))
    refine (Classical.em (v0.Int_≠0)).elim (fun h21=>?_) (fun h21=>?_)
    ·exact rn Y (dT h21) Y (uf U32 Y in_3 Y (GValue.len v0)) (rn Y (dT h21) Y (pl U3 Y (GValue.sub1 v0)) (rn Y (dT h21) Y (pn Y) (rp Y (p_pkt Y Y (dT h21) (tb ((and_l (q:=v0.Int_≠1) h21)))) (rend Y Y))))
    iterate 3 (refine rO Y (dF h21) Y ?_)
    exact rp Y (p_pkf Y Y (dF h21) (tb (dF (p:=(v0.Int_≠0)∧(v0.Int_≠1)) (fun x=>h21 x.1)).symm)) (rend Y Y)
   refine if2 H Y (fun h22 H=>?_) (fun h22 H=>?_)
   ·refine sg 1 Y (ra Y (rz [2] [.i 3] [] [] Y (QR ?_)))
    have z:=se H;subst z
    exact ⟨Y,⟨rt,trivial⟩,trivial⟩
   refine as2 [] [] [] [] Y (QK ?_)
   have z:=se H;subst z
   exact ⟨Y,Y⟩
  refine sg 2 Y (rp Y (pi Y) (ra Y (rz [1,50,61] [_,_,.b (decide (v0.Kind=3))] [1] [_] Y (if2 H Y (fun h23 H=>?_) (fun h23 H=>?_)))))
  ·refine sg 4 Y (rf Y U32 Y in_30 Y Y (GValue.len v0) (rp Y (pl U30 Y (GValue.sub2 v0)) (rp Y (p_frombits (a:=v0.Bits) Y Y Y Tryz.func85 Y Y (by kernel_rfl) (by kernel_rfl) Y) (ra Y (rz [3] [.p (AV.f64 v0.Bits)] [] [] Y (QS (bindK H fun g'5 h28 H=>AW2_mid (⟨[(76,.b g'5)],[],83⟩:TS) ?_ ?_)))))))
   ·clear H
    have H:=h28
    clear h28
    refine ar 11 Y (rm Y (rm Y (rp Y (p_fbin (a:=v0.Bits) (b:=v0.Bits) (v:=fneq v0.Bits v0.Bits) Y Y Y Y) (rm Y (em2 H (fun h25 H=>?_) (fun h25 H=>?_))))))
    ·iterate 3 (refine rO Y h25 Y ?_)
     iterate 2 (refine r_off2 rfl rfl rfl rfl rfl rfl ?_)
     refine rO Y h25 Y (rp Y (p_pkt Y Y h25 (.same _)) (rs [76] [.b true] [] [] Y ?_))
     have z:=se H;subst z
     exact RunW_nil rfl
    refine rn Y (bfalse h25) Y (p_move Y Y) (rn Y (bfalse h25) Y (p_fbin (a:=v0.Bits) (b:=(0:F64)) (v:=feq v0.Bits (0:F64)) Y Y Y Y) (rn Y (bfalse h25) Y (p_move Y Y) (em2 H (fun h26 H=>?_) (fun h26 H=>?_))))
    ·refine rn Y h26 Y (p_move Y Y) (bindK H fun r'4 h27 H=>rn Y h26 Y (pc Y Tryz.func86 Y (g_math_Signbit_ac h27) Y) (rn Y (bfalse h25) Y (p_pkt Y Y h26 (.same _)) (rp Y (p_pkf Y Y (bfalse h25) (.same _)) (rs [76] [.b r'4] [] [] Y ?_))))
     have z:=se H;subst z
     exact RunW_nil rfl
    iterate 2 (refine rO Y (bfalse h26) Y ?_)
    refine rn Y (bfalse h25) Y (p_pkf Y Y (bfalse h26) (.same _)) (rp Y (p_pkf Y Y (bfalse h25) (.same _)) (rs [76] [.b false] [] [] Y ?_))
    have z:=se H;subst z
    exact RunW_nil rfl
   refine AW2_cond Y (fun h29=>?_) (fun h29=>?_)
   ·replace H:=ite_then h29 H
    refine sg 1 Y (ra Y (rz [2] [.i 3] [] [] Y (QR ?_)))
    have z:=se H;subst z
    exact ⟨Y,⟨rt,trivial⟩,trivial⟩
   replace H:=ite_else (ne_true h29) H
   refine as2 [] [] [] [] Y (QK ?_)
   have z:=se H;subst z
   exact ⟨Y,Y⟩
  refine sg 2 Y (rp Y (pi Y) (ra Y (rz [1,77] [_,.b (decide (v0.Kind=4))] [1] [_] Y (if2 H Y (fun h31 H=>?_) (fun h31 H=>?_)))))
  ·refine sg 4 Y (rf Y U32 Y in_9 Y Y (GValue.len v0) (rp Y (pl U9 Y (GValue.sub3 v0)) (bindK H fun r'6 h32 H=>rp Y (pc Y Tryz.func62 Y (g_utf8_ValidString_ac h32) Y) (rp Y (p_not Y Y) (rz [82] [.b (!r'6)] [] [] Y (AW2_cond Y (fun h33=>?_) (fun h33=>?_)))))))
   ·replace H:=ite_then h33 H
    refine sg 1 Y (ra Y (rz [2] [.i 3] [] [] Y (QR ?_)))
    have z:=se H;subst z
    exact ⟨Y,⟨rt,trivial⟩,trivial⟩
   replace H:=ite_else (ne_true h33) H
   refine as2 [] [] [] [] Y (QK ?_)
   have z:=se H;subst z
   exact ⟨Y,Y⟩
  refine as2 [] [] [] [] Y (QK ?_)
  have z:=se H;subst z
  exact ⟨Y,Y⟩
 ·subst hy
  refine sg 1 Y (ra Y (rz [2] [.i 0] [] [] Y (QR ?_)))
  have z:=se H;subst z
  exact ⟨⟨rt,trivial⟩,trivial⟩
 subst hy
 obtain ⟨rfl,hs⟩:=hs
 have z:=se H;subst z
 exact ⟨hs.1,hs.2⟩
noncomputable def g_lex_sign (t0:List UInt8):Option (Bool) :=
  ((if t0=[40] then some (decide (t0=[40])) else (if t0=[41] then some (decide (t0=[41])) else (if t0=[44] then some (decide (t0=[44])) else (if t0=[46] then some (decide (t0=[46])) else (if t0=[61] then some (decide (t0=[61])) else (if t0=[60] then some (decide (t0=[60])) else (if t0=[62] then some (decide (t0=[62])) else (if t0=[60,61] then some (decide (t0=[60,61])) else (if t0=[62,61] then some (decide (t0=[62,61])) else (if t0=[60,62] then some (decide (t0=[60,62])) else (if t0=[43] then some (decide (t0=[43])) else (if t0=[45] then some (decide (t0=[45])) else (if t0=[42] then some (decide (t0=[42])) else (if t0=[47] then some (decide (t0=[47])) else (if t0=[124,124] then some (decide (t0=[124,124])) else some (decide (t0=[59])))))))))))))))))).bind fun j'1=>(if j'1=true then some true else some false)
theorem g_lex_sign_ac {t0:List UInt8} {r:Bool} (H:g_lex_sign t0=some r):ACp Tryz.prog 64 [(AV.txt t0)] (AV.bool r):=by
 refine ACp_of (AC2_of_body (vs:=[.b r]) Tryz.func64 Y Y (lb Y) Y ?_) (fun _=>.same _)
 unfold g_lex_sign at H
 refine as2 [0] [.t t0] [] [] Y (sg 1 Y (ra Y (rz [0] [_] [] [] Y (QS (sg 1 Y (rm Y (rz [3] [.t t0] [] [] Y (QB (QS (bindK H fun j'1 h1 H=>AW2_mid (⟨[(4,.b j'1)],[],21⟩:TS) ?_ ?_))))))))))
 ·clear H
  have H:=h1
  clear h1
  refine sg 2 Y (rp Y (p_seq Y Y Y) (ra Y (rz [3,4] [.t t0,.b (decide (t0=[40]))] [] [] Y (if2 H Y (fun h2 H=>?_) (fun h2 H=>?_)))))
  ·refine as2 [4] [_] [] [] Y (QK ?_)
   have z:=se H;subst z
   exact rfl
  refine sg 2 Y (rp Y (p_seq Y Y Y) (ra Y (rz [3,4] [_,.b (decide (t0=[41]))] [] [] Y (if2 H Y (fun h3 H=>?_) (fun h3 H=>?_)))))
  ·refine as2 [4] [_] [] [] Y (QK ?_)
   have z:=se H;subst z
   exact rfl
  refine sg 2 Y (rp Y (p_seq Y Y Y) (ra Y (rz [3,4] [_,.b (decide (t0=[44]))] [] [] Y (if2 H Y (fun h4 H=>?_) (fun h4 H=>?_)))))
  ·refine as2 [4] [_] [] [] Y (QK ?_)
   have z:=se H;subst z
   exact rfl
  refine sg 2 Y (rp Y (p_seq Y Y Y) (ra Y (rz [3,4] [_,.b (decide (t0=[46]))] [] [] Y (if2 H Y (fun h5 H=>?_) (fun h5 H=>?_)))))
  ·refine as2 [4] [_] [] [] Y (QK ?_)
   have z:=se H;subst z
   exact rfl
  refine sg 2 Y (rp Y (p_seq Y Y Y) (ra Y (rz [3,4] [_,.b (decide (t0=[61]))] [] [] Y (if2 H Y (fun h6 H=>?_) (fun h6 H=>?_)))))
  ·refine as2 [4] [_] [] [] Y (QK ?_)
   have z:=se H;subst z
   exact rfl
  refine sg 2 Y (rp Y (p_seq Y Y Y) (ra Y (rz [3,4] [_,.b (decide (t0=[60]))] [] [] Y (if2 H Y (fun h7 H=>?_) (fun h7 H=>?_)))))
  ·refine as2 [4] [_] [] [] Y (QK ?_)
   have z:=se H;subst z
   exact rfl
  refine sg 2 Y (rp Y (p_seq Y Y Y) (ra Y (rz [3,4] [_,.b (decide (t0=[62]))] [] [] Y (if2 H Y (fun h8 H=>?_) (fun h8 H=>?_)))))
  ·refine as2 [4] [_] [] [] Y (QK ?_)
   have z:=se H;subst z
   exact rfl
  refine sg 2 Y (rp Y (p_seq Y Y Y) (ra Y (rz [3,4] [_,.b (decide (t0=[60,61]))] [] [] Y (if2 H Y (fun h9 H=>?_) (fun h9 H=>?_)))))
  ·refine as2 [4] [_] [] [] Y (QK ?_)
   have z:=se H;subst z
   exact rfl
  refine sg 2 Y (rp Y (p_seq Y Y Y) (ra Y (rz [3,4] [_,.b (decide (t0=[62,61]))] [] [] Y (if2 H Y (fun h10 H=>?_) (fun h10 H=>?_)))))
  ·refine as2 [4] [_] [] [] Y (QK ?_)
   have z:=se H;subst z
   exact rfl
  refine sg 2 Y (rp Y (p_seq Y Y Y) (ra Y (rz [3,4] [_,.b (decide (t0=[60,62]))] [] [] Y (if2 H Y (fun h11 H=>?_) (fun h11 H=>?_)))))
  ·refine as2 [4] [_] [] [] Y (QK ?_)
   have z:=se H;subst z
   exact rfl
  refine sg 2 Y (rp Y (p_seq Y Y Y) (ra Y (rz [3,4] [_,.b (decide (t0=[43]))] [] [] Y (if2 H Y (fun h12 H=>?_) (fun h12 H=>?_)))))
  ·refine as2 [4] [_] [] [] Y (QK ?_)
   have z:=se H;subst z
   exact rfl
  refine sg 2 Y (rp Y (p_seq Y Y Y) (ra Y (rz [3,4] [_,.b (decide (t0=[45]))] [] [] Y (if2 H Y (fun h13 H=>?_) (fun h13 H=>?_)))))
  ·refine as2 [4] [_] [] [] Y (QK ?_)
   have z:=se H;subst z
   exact rfl
  refine sg 2 Y (rp Y (p_seq Y Y Y) (ra Y (rz [3,4] [_,.b (decide (t0=[42]))] [] [] Y (if2 H Y (fun h14 H=>?_) (fun h14 H=>?_)))))
  ·refine as2 [4] [_] [] [] Y (QK ?_)
   have z:=se H;subst z
   exact rfl
  refine sg 2 Y (rp Y (p_seq Y Y Y) (ra Y (rz [3,4] [_,.b (decide (t0=[47]))] [] [] Y (if2 H Y (fun h15 H=>?_) (fun h15 H=>?_)))))
  ·refine as2 [4] [_] [] [] Y (QK ?_)
   have z:=se H;subst z
   exact rfl
  refine sg 2 Y (rp Y (p_seq Y Y Y) (ra Y (rz [3,4] [_,.b (decide (t0=[124,124]))] [] [] Y (if2 H Y (fun h16 H=>?_) (fun h16 H=>?_)))))
  ·refine as2 [4] [_] [] [] Y (QK ?_)
   have z:=se H;subst z
   exact rfl
  refine ar 2 Y (rp Y (p_seq Y Y Y) (ra Y (rz [4] [.b (decide (t0=[59]))] [] [] Y ?_)))
  have z:=se H;subst z
  exact rfl
 refine AW2_cond Y (fun h17=>?_) (fun h17=>?_)
 ·replace H:=ite_then h17 H
  refine sg 1 Y (ra Y (rz [2] [.b true] [] [] Y (QR ?_)))
  have z:=se H;subst z
  exact ⟨⟨rt,trivial⟩,trivial⟩
 replace H:=ite_else (ne_true h17) H
 refine as2 [] [] [] [] Y (QK (sg 1 Y (ra Y (rz [2] [.b false] [] [] Y (QR ?_)))))
 have z:=se H;subst z
 exact ⟨⟨rt,trivial⟩,trivial⟩
noncomputable def g_lex_all_i0_l0 (s0:List UInt8):Int→Option (Int⊕(Bool⊕Unit))
  | t8_0=>(if t8_0 < (s0.length:Int) then if 0≤t8_0∧t8_0 < (s0.length:Int) then (g_lex_inName (lrd s0 t8_0.toNat)).bind fun r'1=>(if (!r'1)=true then some (.inr (.inl false)) else some (.inl (w64 (t8_0+(1:Int))))) else none else some (.inr (.inr ())))
noncomputable def g_lex_all_i0 (s0:List UInt8):Option (Bool) :=
  (loopO (g_lex_all_i0_l0 s0) (0:Int)).bind fun o'5=>match o'5 with | .inl y'6=>some y'6 | .inr (y'7)=>some (decide (s0≠[]))
theorem g_lex_all_i0_ac {s0:List UInt8} {r:Bool} (H:g_lex_all_i0 s0=some r):ACp Tryz.prog 58 [(AV.txt s0),.clo 59 []] (AV.bool r):=by
 refine ACp_of (AC2_of_body (vs:=[.b r]) Tryz.func58 Y Y (lb Y) Y ?_) (fun _=>.same _)
 unfold g_lex_all_i0 at H
 refine AW2_st [(0,.t s0),(1,.clo 59 [])] [] Y ⟨TLes.same _,(fun _=>.same _),trivial⟩ trivial (sg 1 Y (ra Y (RunW_st [(0,.t s0),(1,.clo 59 [])] [] Y ⟨TLes.same _,(fun _=>.same _),trivial⟩ trivial (RunW_nil (QS (sg 3 Y (rm Y (rp Y (p_lent Y U9 Y) (rm Y (RunW_st [(0,.t s0),(1,.clo 59 []),(7,.i (s0.length:Int)),(8,.i 0)] [] Y ⟨TLes.same _,(fun _=>.same _),TLes.same _,TLes.same _,trivial⟩ trivial (RunW_nil (QB (AW2_st [(0,.t s0),(1,.clo 59 []),(7,.i (s0.length:Int)),(8,.i 0)] [] Y ⟨TLes.same _,(fun _=>.same _),TLes.same _,TLes.same _,trivial⟩ trivial (bindK H fun o'5 h5 H=>AW2_loopO (fun a'2:Int=>(⟨[(0,.t s0),(1,.clo 59 []),(7,.i (s0.length:Int)),(8,.i a'2)],[],20⟩:TS)) (fun (o:Bool⊕Unit) e s'=>match o with | .inl y'3=>e=Go.Exit.ret∧ResAll Tryz.prog s' [ResultVar.tmp 4] [.b y'3]∧HFits s' [] | .inr (y'4)=>e=Go.Exit.exit 0∧s'=(⟨[(0,.t s0)],[],20⟩:TS)) h5 Y (fun t8_0 x hx=>?_) (fun e s' hs=>?_)))))))))))))))
 ·clear H
  have H:=hx
  clear hx
  unfold g_lex_all_i0_l0 at H
  refine sg 1 Y (rp Y (pb Y Y) (RunW_st [(0,.t s0),(1,.clo 59 []),(7,.i (s0.length:Int)),(8,.i t8_0),(9,.b (decide (t8_0 < (s0.length:Int))))] [] Y ⟨TLes.same _,(fun _=>.same _),TLes.same _,TLes.same _,TLes.same _,trivial⟩ trivial (RunW_nil (QS (if2 H Y (fun h1 H=>?_) (fun h1 H=>?_))))))
  ·refine AW2_st [(0,.t s0),(1,.clo 59 []),(7,.i (s0.length:Int)),(8,.i t8_0)] [] Y ⟨TLes.same _,(fun _=>.same _),TLes.same _,TLes.same _,trivial⟩ trivial (QK (QS (QB (sg 2 Y (rm Y (ra Y (RunW_st [(0,.t s0),(1,.clo 59 []),(5,.i t8_0),(7,.i (s0.length:Int)),(8,.i t8_0)] [] Y ⟨TLes.same _,(fun _=>.same _),TLes.same _,TLes.same _,TLes.same _,trivial⟩ trivial (RunW_nil (sg 6 Y (rm Y (rm Y (rm Y (chkK H fun h2 H=>rp Y (p_ixt Y U9 Y Y (ixe h2) (lrd_get (ixn h2))) (bindK H fun r'1 h3 H=>rp Y (pc Y Tryz.func59 Y (g_lex_inName_ac h3) Y) (rp Y (p_not Y Y) (RunW_st [(0,.t s0),(1,.clo 59 []),(7,.i (s0.length:Int)),(8,.i t8_0),(16,.b (!r'1))] [] Y ⟨TLes.same _,(fun _=>.same _),TLes.same _,TLes.same _,TLes.same _,trivial⟩ trivial (RunW_nil (AW2_cond Y (fun h4=>?_) (fun h4=>?_)))))))))))))))))))
   ·replace H:=ite_then h4 H
    refine sg 1 Y (ra Y (rz [4] [.b false] [] [] Y (QR ?_)))
    have z:=se H;subst z
    exact ⟨Y,⟨rt,trivial⟩,trivial⟩
   replace H:=ite_else (ne_true h4) H
   refine AW2_st [(0,.t s0),(1,.clo 59 []),(7,.i (s0.length:Int)),(8,.i t8_0)] [] Y ⟨TLes.same _,(fun _=>.same _),TLes.same _,TLes.same _,trivial⟩ trivial (QK (ar 2 Y (rp Y (pb Y Y) (rm Y (RunW_st [(0,.t s0),(1,.clo 59 []),(7,.i (s0.length:Int)),(8,.i (w64 (t8_0+1)))] [] Y ⟨TLes.same _,(fun _=>.same _),TLes.same _,TLes.same _,trivial⟩ trivial (RunW_nil ?_))))))
   have z:=se H;subst z
   exact ⟨Y,Y⟩
  refine as2 [0] [.t s0] [] [] Y (AW2_exit (thenQ2_exit ?_))
  have z:=se H;subst z
  exact ⟨Y,Y⟩
 rcases o'5 with y'6 | y'7
 ·obtain ⟨rfl,hs⟩:=hs
  refine ⟨by simp,?_⟩
  have z:=se H;subst z
  exact ⟨hs.1,hs.2⟩
 obtain ⟨rfl,rfl⟩:=hs
 refine ⟨by simp,?_⟩
 refine blockQ2_exit (sg 3 Y (rm Y (rp Y (p_sne Y Y Y) (ra Y (rz [4] [.b (decide (s0≠[]))] [] [] Y (QR ?_))))))
 have z:=se H;subst z
 exact ⟨⟨rt,trivial⟩,trivial⟩
noncomputable def g_lex_all_i1_l0 (s0:List UInt8):Int→Option (Int⊕(Bool⊕Unit))
  | t8_0=>(if t8_0 < (s0.length:Int) then if 0≤t8_0∧t8_0 < (s0.length:Int) then (g_lex_great (lrd s0 t8_0.toNat)).bind fun r'1=>(if (!r'1)=true then some (.inr (.inl false)) else some (.inl (w64 (t8_0+(1:Int))))) else none else some (.inr (.inr ())))
noncomputable def g_lex_all_i1 (s0:List UInt8):Option (Bool) :=
  (loopO (g_lex_all_i1_l0 s0) (0:Int)).bind fun o'5=>match o'5 with | .inl y'6=>some y'6 | .inr (y'7)=>some (decide (s0≠[]))
theorem g_lex_all_i1_ac {s0:List UInt8} {r:Bool} (H:g_lex_all_i1 s0=some r):ACp Tryz.prog 58 [(AV.txt s0),.clo 61 []] (AV.bool r):=by
 refine ACp_of (AC2_of_body (vs:=[.b r]) Tryz.func58 Y Y (lb Y) Y ?_) (fun _=>.same _)
 unfold g_lex_all_i1 at H
 refine AW2_st [(0,.t s0),(1,.clo 61 [])] [] Y ⟨TLes.same _,(fun _=>.same _),trivial⟩ trivial (sg 1 Y (ra Y (RunW_st [(0,.t s0),(1,.clo 61 [])] [] Y ⟨TLes.same _,(fun _=>.same _),trivial⟩ trivial (RunW_nil (QS (sg 3 Y (rm Y (rp Y (p_lent Y U9 Y) (rm Y (RunW_st [(0,.t s0),(1,.clo 61 []),(7,.i (s0.length:Int)),(8,.i 0)] [] Y ⟨TLes.same _,(fun _=>.same _),TLes.same _,TLes.same _,trivial⟩ trivial (RunW_nil (QB (AW2_st [(0,.t s0),(1,.clo 61 []),(7,.i (s0.length:Int)),(8,.i 0)] [] Y ⟨TLes.same _,(fun _=>.same _),TLes.same _,TLes.same _,trivial⟩ trivial (bindK H fun o'5 h5 H=>AW2_loopO (fun a'2:Int=>(⟨[(0,.t s0),(1,.clo 61 []),(7,.i (s0.length:Int)),(8,.i a'2)],[],20⟩:TS)) (fun (o:Bool⊕Unit) e s'=>match o with | .inl y'3=>e=Go.Exit.ret∧ResAll Tryz.prog s' [ResultVar.tmp 4] [.b y'3]∧HFits s' [] | .inr (y'4)=>e=Go.Exit.exit 0∧s'=(⟨[(0,.t s0)],[],20⟩:TS)) h5 Y (fun t8_0 x hx=>?_) (fun e s' hs=>?_)))))))))))))))
 ·clear H
  have H:=hx
  clear hx
  unfold g_lex_all_i1_l0 at H
  refine sg 1 Y (rp Y (pb Y Y) (RunW_st [(0,.t s0),(1,.clo 61 []),(7,.i (s0.length:Int)),(8,.i t8_0),(9,.b (decide (t8_0 < (s0.length:Int))))] [] Y ⟨TLes.same _,(fun _=>.same _),TLes.same _,TLes.same _,TLes.same _,trivial⟩ trivial (RunW_nil (QS (if2 H Y (fun h1 H=>?_) (fun h1 H=>?_))))))
  ·refine AW2_st [(0,.t s0),(1,.clo 61 []),(7,.i (s0.length:Int)),(8,.i t8_0)] [] Y ⟨TLes.same _,(fun _=>.same _),TLes.same _,TLes.same _,trivial⟩ trivial (QK (QS (QB (sg 2 Y (rm Y (ra Y (RunW_st [(0,.t s0),(1,.clo 61 []),(5,.i t8_0),(7,.i (s0.length:Int)),(8,.i t8_0)] [] Y ⟨TLes.same _,(fun _=>.same _),TLes.same _,TLes.same _,TLes.same _,trivial⟩ trivial (RunW_nil (sg 6 Y (rm Y (rm Y (rm Y (chkK H fun h2 H=>rp Y (p_ixt Y U9 Y Y (ixe h2) (lrd_get (ixn h2))) (bindK H fun r'1 h3 H=>rp Y (pc Y Tryz.func61 Y (g_lex_great_ac h3) Y) (rp Y (p_not Y Y) (RunW_st [(0,.t s0),(1,.clo 61 []),(7,.i (s0.length:Int)),(8,.i t8_0),(16,.b (!r'1))] [] Y ⟨TLes.same _,(fun _=>.same _),TLes.same _,TLes.same _,TLes.same _,trivial⟩ trivial (RunW_nil (AW2_cond Y (fun h4=>?_) (fun h4=>?_)))))))))))))))))))
   ·replace H:=ite_then h4 H
    refine sg 1 Y (ra Y (rz [4] [.b false] [] [] Y (QR ?_)))
    have z:=se H;subst z
    exact ⟨Y,⟨rt,trivial⟩,trivial⟩
   replace H:=ite_else (ne_true h4) H
   refine AW2_st [(0,.t s0),(1,.clo 61 []),(7,.i (s0.length:Int)),(8,.i t8_0)] [] Y ⟨TLes.same _,(fun _=>.same _),TLes.same _,TLes.same _,trivial⟩ trivial (QK (ar 2 Y (rp Y (pb Y Y) (rm Y (RunW_st [(0,.t s0),(1,.clo 61 []),(7,.i (s0.length:Int)),(8,.i (w64 (t8_0+1)))] [] Y ⟨TLes.same _,(fun _=>.same _),TLes.same _,TLes.same _,trivial⟩ trivial (RunW_nil ?_))))))
   have z:=se H;subst z
   exact ⟨Y,Y⟩
  refine as2 [0] [.t s0] [] [] Y (AW2_exit (thenQ2_exit ?_))
  have z:=se H;subst z
  exact ⟨Y,Y⟩
 rcases o'5 with y'6 | y'7
 ·obtain ⟨rfl,hs⟩:=hs
  refine ⟨by simp,?_⟩
  have z:=se H;subst z
  exact ⟨hs.1,hs.2⟩
 obtain ⟨rfl,rfl⟩:=hs
 refine ⟨by simp,?_⟩
 refine blockQ2_exit (sg 3 Y (rm Y (rp Y (p_sne Y Y Y) (ra Y (rz [4] [.b (decide (s0≠[]))] [] [] Y (QR ?_))))))
 have z:=se H;subst z
 exact ⟨⟨rt,trivial⟩,trivial⟩
noncomputable def g_lex_Check (t0:GToken):Option (Int) :=
  (if (t0.Kind < (1:Int))∨(t0.Kind > (6:Int)) then some (2:Int) else letO (decide (((t0.Kind=(4:Int))∧((t0.Text.length:Int) > (40:Int)))∨(((t0.Kind=(1:Int))∨(t0.Kind=(2:Int)))∧((t0.Text.length:Int) > (8:Int))))) fun t36'1=>(if t36'1=true then some (1:Int) else letO (decide ((((t0.Kind≠(3:Int))∧(t0.Int_≠(0:Int)))∨((t0.Kind≠(5:Int))∧(t0.Bits≠(0:UInt64))))∨(((t0.Kind=(3:Int))∨(t0.Kind=(5:Int)))∧(t0.Text≠[])))) fun t69'2=>(if t69'2=true then some (3:Int) else ((if t0.Kind=(1:Int) then ((g_lex_all_i0 t0.Text).bind fun r'5=>(if r'5=true then if 0 < t0.Text.length then (g_lex_small (lrd t0.Text 0)).bind fun r'6=>some r'6 else none else some false)).bind fun g'7=>some g'7 else (if t0.Kind=(2:Int) then (g_lex_all_i1 t0.Text).bind fun r'8=>some r'8 else (if t0.Kind=(3:Int) then some (decide (t0.Int_≥(0:Int))) else (if t0.Kind=(4:Int) then (g_utf8_ValidString t0.Text).bind fun r'9=>some r'9 else (if t0.Kind=(5:Int) then (g_value_Check ({ { GValue.zero with Kind:=(3:Int) } with Bits:=t0.Bits })).bind fun r'10=>some (decide (r'10=(0:Int))) else (if t0.Kind=(6:Int) then (g_lex_sign t0.Text).bind fun r'11=>some r'11 else some true))))))).bind fun j'3=>(if (!j'3)=true then some (3:Int) else some (0:Int)))))
theorem g_lex_Check_ac {t0:GToken} {r:Int} (H:g_lex_Check t0=some r):ACp Tryz.prog 41 [(.agg (GToken.cs t0))] (AV.int r):=by
 refine ACp_of (AC2_of_body (vs:=[.i r]) Tryz.func41 Y Y (lb Y) Y ?_) (fun _=>.same _)
 unfold g_lex_Check at H
 refine as2 [0] [.g (GToken.cs t0)] [] [] Y (sg 2 Y (rq Y (bx 1 Y) (ra Y (rz [1] [.q 1 (0)] [1] [.pure (GToken.cs t0)] Y (QS (QS (AW2_mid (⟨[(1,.q 1 (0)),(11,.b (decide ((t0.Kind < 1)∨(t0.Kind > 6))))],[(1,.pure (GToken.cs t0))],112⟩:TS) ?_ ?_)))))))
 ·refine ar 8 Y (rf Y U79 Y in_3 Y Y (GToken.len t0) (rp Y (pl U3 Y (GToken.sub0 t0)) (rp Y (pb Y Y) (rm Y ?_))))
  refine (Classical.em (t0.Kind < 1)).elim (fun h1=>?_) (fun h1=>?_)
  ·iterate 3 (refine rO Y (dT h1) Y ?_)
   exact rp Y (p_pkt Y Y (dT h1) (tb (dT (p:=(t0.Kind < 1)∨(t0.Kind > 6)) (Or.inl h1)).symm)) (rend Y Y)
  exact rn Y (dF h1) Y (uf U79 Y in_3 Y (GToken.len t0)) (rn Y (dF h1) Y (pl U3 Y (GToken.sub0 t0)) (rn Y (dF h1) Y (pb Y Y) (rp Y (p_pkf Y Y (dF h1) (tb ((or_l (q:=t0.Kind > 6) h1)))) (rend Y Y))))
 refine if2 H Y (fun h2 H=>?_) (fun h2 H=>?_)
 ·refine sg 1 Y (ra Y (rz [2] [.i 2] [] [] Y (QR ?_)))
  have z:=se H;subst z
  exact ⟨⟨rt,trivial⟩,trivial⟩
 refine as2 [1] [_] [1] [_] Y (QK (QS (QS (AW2_mid (⟨[(1,.q 1 (0)),(36,.b (decide (((t0.Kind=4)∧((t0.Text.length:Int) > 40))∨(((t0.Kind=1)∨(t0.Kind=2))∧((t0.Text.length:Int) > 8)))))],[(1,.pure (GToken.cs t0))],112⟩:TS) ?_ ?_))))
 ·refine ar 25 Y (rf Y U79 Y in_3 Y Y (GToken.len t0) (rp Y (pl U3 Y (GToken.sub0 t0)) (rp Y (pi Y) (rm Y ?_))))
  refine (Classical.em (t0.Kind=4)).elim (fun h3=>?_) (fun h3=>?_)
  ·refine rn Y (dT h3) Y (uf U79 Y in_9 Y (GToken.len t0)) (rn Y (dT h3) Y (pl U9 Y (GToken.sub1 t0)) (rn Y (dT h3) Y (p_lent Y U9 Y) (rn Y (dT h3) Y (pb Y Y) (rp Y (p_pkt Y Y (dT h3) (tb ((and_l (q:=(t0.Text.length:Int) > 40) h3)))) (rm Y ?_)))))
   refine (Classical.em ((t0.Text.length:Int) > 40)).elim (fun h4=>?_) (fun h4=>?_)
   ·have qq1:=dT (p:=(t0.Kind=4)∧((t0.Text.length:Int) > 40)) ⟨h3,h4⟩
    iterate 4 (refine rO Y qq1 Y ?_)
    iterate 3 (refine r_off2 rfl rfl rfl rfl rfl rfl ?_)
    iterate 2 (refine rO Y qq1 Y ?_)
    iterate 4 (refine r_off2 rfl rfl rfl rfl rfl rfl ?_)
    exact rO Y qq1 Y (rp Y (p_pkt Y Y qq1 (tb (dT (p:=((t0.Kind=4)∧((t0.Text.length:Int) > 40))∨(((t0.Kind=1)∨(t0.Kind=2))∧((t0.Text.length:Int) > 8))) (Or.inl ⟨h3,h4⟩)).symm)) (rend Y Y))
   have qq2:=dF (p:=(t0.Kind=4)∧((t0.Text.length:Int) > 40)) (fun h=>h4 h.2)
   refine rn Y qq2 Y (uf U79 Y in_3 Y (GToken.len t0)) (rn Y qq2 Y (pl U3 Y (GToken.sub0 t0)) (rn Y qq2 Y (pi Y) (rn Y qq2 Y (p_move Y Y) ?_)))
   refine (Classical.em (t0.Kind=1)).elim (fun h5=>?_) (fun h5=>?_)
   ·iterate 3 (refine rO Y (dT h5) Y ?_)
    have qq3:=dT (p:=(t0.Kind=1)∨(t0.Kind=2)) (Or.inl h5)
    exact rn Y qq2 Y (p_pkt Y Y (dT h5) (tb qq3.symm)) (rn Y qq2 Y (p_move Y Y) (rn Y qq3 Y (uf U79 Y in_9 Y (GToken.len t0)) (rn Y qq3 Y (pl U9 Y (GToken.sub1 t0)) (rn Y qq3 Y (p_lent Y U9 Y) (rn Y qq3 Y (pb Y Y) (rn Y qq2 Y (p_pkt Y Y qq3 (tb ((and_l (p:=(t0.Kind=1)∨(t0.Kind=2)) (q:=(t0.Text.length:Int) > 8) (Or.inl h5))))) (rp Y (p_pkf Y Y qq2 (tb ((or_l (p:=(t0.Kind=4)∧((t0.Text.length:Int) > 40)) (q:=((t0.Kind=1)∨(t0.Kind=2))∧((t0.Text.length:Int) > 8)) (fun h=>h4 h.2))))) (rend Y Y))))))))
   refine rn Y (dF h5) Y (uf U79 Y in_3 Y (GToken.len t0)) (rn Y (dF h5) Y (pl U3 Y (GToken.sub0 t0)) (rn Y (dF h5) Y (pi Y) (rn Y qq2 Y (p_pkf Y Y (dF h5) (tb ((or_l (q:=t0.Kind=2) h5)))) (rn Y qq2 Y (p_move Y Y) ?_))))
   refine (Classical.em (t0.Kind=2)).elim (fun h6=>?_) (fun h6=>?_)
   ·have qq4:=dT (p:=(t0.Kind=1)∨(t0.Kind=2)) (Or.inr h6)
    exact rn Y qq4 Y (uf U79 Y in_9 Y (GToken.len t0)) (rn Y qq4 Y (pl U9 Y (GToken.sub1 t0)) (rn Y qq4 Y (p_lent Y U9 Y) (rn Y qq4 Y (pb Y Y) (rn Y qq2 Y (p_pkt Y Y qq4 (tb ((and_l (p:=(t0.Kind=1)∨(t0.Kind=2)) (q:=(t0.Text.length:Int) > 8) (Or.inr h6))))) (rp Y (p_pkf Y Y qq2 (tb ((or_l (p:=(t0.Kind=4)∧((t0.Text.length:Int) > 40)) (q:=((t0.Kind=1)∨(t0.Kind=2))∧((t0.Text.length:Int) > 8)) (fun h=>h4 h.2))))) (rend Y Y))))))
   have qq5:=dF (p:=(t0.Kind=1)∨(t0.Kind=2)) (not_or.2 ⟨h5,h6⟩)
   iterate 4 (refine rO Y qq5 Y ?_)
   exact rn Y qq2 Y (p_pkf Y Y qq5 (tb (dF (p:=((t0.Kind=1)∨(t0.Kind=2))∧((t0.Text.length:Int) > 8)) (fun x=>(not_or.2 ⟨h5,h6⟩) x.1)).symm)) (rp Y (p_pkf Y Y qq2 (tb ((or_l (p:=(t0.Kind=4)∧((t0.Text.length:Int) > 40)) (q:=((t0.Kind=1)∨(t0.Kind=2))∧((t0.Text.length:Int) > 8)) (fun h=>h4 h.2))))) (rend Y Y))
  iterate 4 (refine rO Y (dF h3) Y ?_)
  refine rp Y (p_pkf Y Y (dF h3) (tb (dF (p:=(t0.Kind=4)∧((t0.Text.length:Int) > 40)) (fun x=>h3 x.1)).symm)) (rm Y ?_)
  have qq6:=dF (p:=(t0.Kind=4)∧((t0.Text.length:Int) > 40)) (fun h=>h3 h.1)
  refine rn Y qq6 Y (uf U79 Y in_3 Y (GToken.len t0)) (rn Y qq6 Y (pl U3 Y (GToken.sub0 t0)) (rn Y qq6 Y (pi Y) (rn Y qq6 Y (p_move Y Y) ?_)))
  refine (Classical.em (t0.Kind=1)).elim (fun h7=>?_) (fun h7=>?_)
  ·iterate 3 (refine rO Y (dT h7) Y ?_)
   have qq7:=dT (p:=(t0.Kind=1)∨(t0.Kind=2)) (Or.inl h7)
   exact rn Y qq6 Y (p_pkt Y Y (dT h7) (tb qq7.symm)) (rn Y qq6 Y (p_move Y Y) (rn Y qq7 Y (uf U79 Y in_9 Y (GToken.len t0)) (rn Y qq7 Y (pl U9 Y (GToken.sub1 t0)) (rn Y qq7 Y (p_lent Y U9 Y) (rn Y qq7 Y (pb Y Y) (rn Y qq6 Y (p_pkt Y Y qq7 (tb ((and_l (p:=(t0.Kind=1)∨(t0.Kind=2)) (q:=(t0.Text.length:Int) > 8) (Or.inl h7))))) (rp Y (p_pkf Y Y qq6 (tb ((or_l (p:=(t0.Kind=4)∧((t0.Text.length:Int) > 40)) (q:=((t0.Kind=1)∨(t0.Kind=2))∧((t0.Text.length:Int) > 8)) (fun h=>h3 h.1))))) (rend Y Y))))))))
  refine rn Y (dF h7) Y (uf U79 Y in_3 Y (GToken.len t0)) (rn Y (dF h7) Y (pl U3 Y (GToken.sub0 t0)) (rn Y (dF h7) Y (pi Y) (rn Y qq6 Y (p_pkf Y Y (dF h7) (tb ((or_l (q:=t0.Kind=2) h7)))) (rn Y qq6 Y (p_move Y Y) ?_))))
  refine (Classical.em (t0.Kind=2)).elim (fun h8=>?_) (fun h8=>?_)
  ·have qq8:=dT (p:=(t0.Kind=1)∨(t0.Kind=2)) (Or.inr h8)
   exact rn Y qq8 Y (uf U79 Y in_9 Y (GToken.len t0)) (rn Y qq8 Y (pl U9 Y (GToken.sub1 t0)) (rn Y qq8 Y (p_lent Y U9 Y) (rn Y qq8 Y (pb Y Y) (rn Y qq6 Y (p_pkt Y Y qq8 (tb ((and_l (p:=(t0.Kind=1)∨(t0.Kind=2)) (q:=(t0.Text.length:Int) > 8) (Or.inr h8))))) (rp Y (p_pkf Y Y qq6 (tb ((or_l (p:=(t0.Kind=4)∧((t0.Text.length:Int) > 40)) (q:=((t0.Kind=1)∨(t0.Kind=2))∧((t0.Text.length:Int) > 8)) (fun h=>h3 h.1))))) (rend Y Y))))))
  have qq9:=dF (p:=(t0.Kind=1)∨(t0.Kind=2)) (not_or.2 ⟨h7,h8⟩)
  iterate 4 (refine rO Y qq9 Y ?_)
  exact rn Y qq6 Y (p_pkf Y Y qq9 (tb (dF (p:=((t0.Kind=1)∨(t0.Kind=2))∧((t0.Text.length:Int) > 8)) (fun x=>(not_or.2 ⟨h7,h8⟩) x.1)).symm)) (rp Y (p_pkf Y Y qq6 (tb ((or_l (p:=(t0.Kind=4)∧((t0.Text.length:Int) > 40)) (q:=((t0.Kind=1)∨(t0.Kind=2))∧((t0.Text.length:Int) > 8)) (fun h=>h3 h.1))))) (rend Y Y))
 refine gen1 (fun t36'1=>(⟨[(1,.q 1 (0)),(36,.b t36'1)],[(1,.pure (GToken.cs t0))],112⟩:TS)) H ?_
 intro t36'1 H
 refine AW2_cond Y (fun h9=>?_) (fun h9=>?_)
 ·replace H:=ite_then h9 H
  refine sg 1 Y (ra Y (rz [2] [.i 1] [] [] Y (QR ?_)))
  have z:=se H;subst z
  exact ⟨⟨rt,trivial⟩,trivial⟩
 replace H:=ite_else (ne_true h9) H
 refine as2 [1] [.q 1 (0)] [1] [.pure (GToken.cs t0)] Y (QK (QS (QS (AW2_mid (⟨[(1,.q 1 (0)),(69,.b (decide ((((t0.Kind≠3)∧(t0.Int_≠0))∨((t0.Kind≠5)∧(t0.Bits≠(0:UInt64))))∨(((t0.Kind=3)∨(t0.Kind=5))∧(t0.Text≠[])))))],[(1,.pure (GToken.cs t0))],112⟩:TS) ?_ ?_))))
 ·refine ar 33 Y (rf Y U79 Y in_3 Y Y (GToken.len t0) (rp Y (pl U3 Y (GToken.sub0 t0)) (rp Y (pn Y) (rm Y ?_))))
  refine (Classical.em (t0.Kind≠3)).elim (fun h10=>?_) (fun h10=>?_)
  ·refine rn Y (dT h10) Y (uf U79 Y in_3 Y (GToken.len t0)) (rn Y (dT h10) Y (pl U3 Y (GToken.sub2 t0)) (rn Y (dT h10) Y (pn Y) (rp Y (p_pkt Y Y (dT h10) (tb ((and_l (q:=t0.Int_≠0) h10)))) (rm Y ?_))))
   refine (Classical.em (t0.Int_≠0)).elim (fun h11=>?_) (fun h11=>?_)
   ·have qq10:=dT (p:=(t0.Kind≠3)∧(t0.Int_≠0)) ⟨h10,h11⟩
    iterate 4 (refine rO Y qq10 Y ?_)
    iterate 3 (refine r_off2 rfl rfl rfl rfl rfl rfl ?_)
    refine rO Y qq10 Y ?_
    have qq11:=dT (p:=((t0.Kind≠3)∧(t0.Int_≠0))∨((t0.Kind≠5)∧(t0.Bits≠(0:UInt64)))) (Or.inl ⟨h10,h11⟩)
    refine rp Y (p_pkt Y Y qq10 (tb qq11.symm)) (rm Y ?_)
    iterate 4 (refine rO Y qq11 Y ?_)
    iterate 3 (refine r_off2 rfl rfl rfl rfl rfl rfl ?_)
    iterate 2 (refine rO Y qq11 Y ?_)
    iterate 3 (refine r_off2 rfl rfl rfl rfl rfl rfl ?_)
    exact rO Y qq11 Y (rp Y (p_pkt Y Y qq11 (tb (dT (p:=(((t0.Kind≠3)∧(t0.Int_≠0))∨((t0.Kind≠5)∧(t0.Bits≠(0:UInt64))))∨(((t0.Kind=3)∨(t0.Kind=5))∧(t0.Text≠[]))) (Or.inl (Or.inl ⟨h10,h11⟩))).symm)) (rend Y Y))
   have qq12:=dF (p:=(t0.Kind≠3)∧(t0.Int_≠0)) (fun h=>h11 h.2)
   refine rn Y qq12 Y (uf U79 Y in_3 Y (GToken.len t0)) (rn Y qq12 Y (pl U3 Y (GToken.sub0 t0)) (rn Y qq12 Y (pn Y) (rn Y qq12 Y (p_move Y Y) ?_)))
   refine (Classical.em (t0.Kind≠5)).elim (fun h12=>?_) (fun h12=>?_)
   ·refine rn Y (dT h12) Y (uf U79 Y in_30 Y (GToken.len t0)) (rn Y (dT h12) Y (pl U30 Y (GToken.sub3 t0)) (rn Y (dT h12) Y (p_u64ne (a:=t0.Bits) (b:=(0:UInt64)) Y Y Y) (rn Y qq12 Y (p_pkt Y Y (dT h12) (tb ((and_l (q:=t0.Bits≠(0:UInt64)) h12)))) (rp Y (p_pkf Y Y qq12 (tb ((or_l (p:=(t0.Kind≠3)∧(t0.Int_≠0)) (q:=(t0.Kind≠5)∧(t0.Bits≠(0:UInt64))) (fun h=>h11 h.2))))) (rm Y ?_)))))
    refine (Classical.em (t0.Bits≠(0:UInt64))).elim (fun h13=>?_) (fun h13=>?_)
    ·have qq13:=dT (p:=((t0.Kind≠3)∧(t0.Int_≠0))∨((t0.Kind≠5)∧(t0.Bits≠(0:UInt64)))) (Or.inr ⟨h12,h13⟩)
     iterate 4 (refine rO Y qq13 Y ?_)
     iterate 3 (refine r_off2 rfl rfl rfl rfl rfl rfl ?_)
     iterate 2 (refine rO Y qq13 Y ?_)
     iterate 3 (refine r_off2 rfl rfl rfl rfl rfl rfl ?_)
     exact rO Y qq13 Y (rp Y (p_pkt Y Y qq13 (tb (dT (p:=(((t0.Kind≠3)∧(t0.Int_≠0))∨((t0.Kind≠5)∧(t0.Bits≠(0:UInt64))))∨(((t0.Kind=3)∨(t0.Kind=5))∧(t0.Text≠[]))) (Or.inl (Or.inr ⟨h12,h13⟩))).symm)) (rend Y Y))
    have qq14:=dF (p:=((t0.Kind≠3)∧(t0.Int_≠0))∨((t0.Kind≠5)∧(t0.Bits≠(0:UInt64)))) (not_or.2 ⟨(fun h=>h11 h.2),(fun h=>h13 h.2)⟩)
    refine rn Y qq14 Y (uf U79 Y in_3 Y (GToken.len t0)) (rn Y qq14 Y (pl U3 Y (GToken.sub0 t0)) (rn Y qq14 Y (pi Y) (rn Y qq14 Y (p_move Y Y) ?_)))
    refine (Classical.em (t0.Kind=3)).elim (fun h14=>?_) (fun h14=>?_)
    ·iterate 3 (refine rO Y (dT h14) Y ?_)
     have qq15:=dT (p:=(t0.Kind=3)∨(t0.Kind=5)) (Or.inl h14)
     exact rn Y qq14 Y (p_pkt Y Y (dT h14) (tb qq15.symm)) (rn Y qq14 Y (p_move Y Y) (rn Y qq15 Y (uf U79 Y in_9 Y (GToken.len t0)) (rn Y qq15 Y (pl U9 Y (GToken.sub1 t0)) (rn Y qq15 Y (p_sne Y Y Y) (rn Y qq14 Y (p_pkt Y Y qq15 (tb ((and_l (p:=(t0.Kind=3)∨(t0.Kind=5)) (q:=t0.Text≠[]) (Or.inl h14))))) (rp Y (p_pkf Y Y qq14 (tb ((or_l (p:=((t0.Kind≠3)∧(t0.Int_≠0))∨((t0.Kind≠5)∧(t0.Bits≠(0:UInt64)))) (q:=((t0.Kind=3)∨(t0.Kind=5))∧(t0.Text≠[])) (not_or.2 ⟨(fun h=>h11 h.2),(fun h=>h13 h.2)⟩))))) (rend Y Y)))))))
    refine rn Y (dF h14) Y (uf U79 Y in_3 Y (GToken.len t0)) (rn Y (dF h14) Y (pl U3 Y (GToken.sub0 t0)) (rn Y (dF h14) Y (pi Y) (rn Y qq14 Y (p_pkf Y Y (dF h14) (tb ((or_l (q:=t0.Kind=5) h14)))) (rn Y qq14 Y (p_move Y Y) ?_))))
    refine (Classical.em (t0.Kind=5)).elim (fun h15=>?_) (fun h15=>?_)
    ·have qq16:=dT (p:=(t0.Kind=3)∨(t0.Kind=5)) (Or.inr h15)
     exact rn Y qq16 Y (uf U79 Y in_9 Y (GToken.len t0)) (rn Y qq16 Y (pl U9 Y (GToken.sub1 t0)) (rn Y qq16 Y (p_sne Y Y Y) (rn Y qq14 Y (p_pkt Y Y qq16 (tb ((and_l (p:=(t0.Kind=3)∨(t0.Kind=5)) (q:=t0.Text≠[]) (Or.inr h15))))) (rp Y (p_pkf Y Y qq14 (tb ((or_l (p:=((t0.Kind≠3)∧(t0.Int_≠0))∨((t0.Kind≠5)∧(t0.Bits≠(0:UInt64)))) (q:=((t0.Kind=3)∨(t0.Kind=5))∧(t0.Text≠[])) (not_or.2 ⟨(fun h=>h11 h.2),(fun h=>h13 h.2)⟩))))) (rend Y Y)))))
    have qq17:=dF (p:=(t0.Kind=3)∨(t0.Kind=5)) (not_or.2 ⟨h14,h15⟩)
    iterate 3 (refine rO Y qq17 Y ?_)
    exact rn Y qq14 Y (p_pkf Y Y qq17 (tb (dF (p:=((t0.Kind=3)∨(t0.Kind=5))∧(t0.Text≠[])) (fun x=>(not_or.2 ⟨h14,h15⟩) x.1)).symm)) (rp Y (p_pkf Y Y qq14 (tb ((or_l (p:=((t0.Kind≠3)∧(t0.Int_≠0))∨((t0.Kind≠5)∧(t0.Bits≠(0:UInt64)))) (q:=((t0.Kind=3)∨(t0.Kind=5))∧(t0.Text≠[])) (not_or.2 ⟨(fun h=>h11 h.2),(fun h=>h13 h.2)⟩))))) (rend Y Y))
   iterate 3 (refine rO Y (dF h12) Y ?_)
   refine rn Y qq12 Y (p_pkf Y Y (dF h12) (tb (dF (p:=(t0.Kind≠5)∧(t0.Bits≠(0:UInt64))) (fun x=>h12 x.1)).symm)) (rp Y (p_pkf Y Y qq12 (tb ((or_l (p:=(t0.Kind≠3)∧(t0.Int_≠0)) (q:=(t0.Kind≠5)∧(t0.Bits≠(0:UInt64))) (fun h=>h11 h.2))))) (rm Y ?_))
   have qq18:=dF (p:=((t0.Kind≠3)∧(t0.Int_≠0))∨((t0.Kind≠5)∧(t0.Bits≠(0:UInt64)))) (not_or.2 ⟨(fun h=>h11 h.2),(fun h=>h12 h.1)⟩)
   refine rn Y qq18 Y (uf U79 Y in_3 Y (GToken.len t0)) (rn Y qq18 Y (pl U3 Y (GToken.sub0 t0)) (rn Y qq18 Y (pi Y) (rn Y qq18 Y (p_move Y Y) ?_)))
   refine (Classical.em (t0.Kind=3)).elim (fun h16=>?_) (fun h16=>?_)
   ·iterate 3 (refine rO Y (dT h16) Y ?_)
    have qq19:=dT (p:=(t0.Kind=3)∨(t0.Kind=5)) (Or.inl h16)
    exact rn Y qq18 Y (p_pkt Y Y (dT h16) (tb qq19.symm)) (rn Y qq18 Y (p_move Y Y) (rn Y qq19 Y (uf U79 Y in_9 Y (GToken.len t0)) (rn Y qq19 Y (pl U9 Y (GToken.sub1 t0)) (rn Y qq19 Y (p_sne Y Y Y) (rn Y qq18 Y (p_pkt Y Y qq19 (tb ((and_l (p:=(t0.Kind=3)∨(t0.Kind=5)) (q:=t0.Text≠[]) (Or.inl h16))))) (rp Y (p_pkf Y Y qq18 (tb ((or_l (p:=((t0.Kind≠3)∧(t0.Int_≠0))∨((t0.Kind≠5)∧(t0.Bits≠(0:UInt64)))) (q:=((t0.Kind=3)∨(t0.Kind=5))∧(t0.Text≠[])) (not_or.2 ⟨(fun h=>h11 h.2),(fun h=>h12 h.1)⟩))))) (rend Y Y)))))))
   refine rn Y (dF h16) Y (uf U79 Y in_3 Y (GToken.len t0)) (rn Y (dF h16) Y (pl U3 Y (GToken.sub0 t0)) (rn Y (dF h16) Y (pi Y) (rn Y qq18 Y (p_pkf Y Y (dF h16) (tb ((or_l (q:=t0.Kind=5) h16)))) (rn Y qq18 Y (p_move Y Y) ?_))))
   refine (Classical.em (t0.Kind=5)).elim (fun h17=>?_) (fun h17=>?_)
   ·have qq20:=dT (p:=(t0.Kind=3)∨(t0.Kind=5)) (Or.inr h17)
    exact rn Y qq20 Y (uf U79 Y in_9 Y (GToken.len t0)) (rn Y qq20 Y (pl U9 Y (GToken.sub1 t0)) (rn Y qq20 Y (p_sne Y Y Y) (rn Y qq18 Y (p_pkt Y Y qq20 (tb ((and_l (p:=(t0.Kind=3)∨(t0.Kind=5)) (q:=t0.Text≠[]) (Or.inr h17))))) (rp Y (p_pkf Y Y qq18 (tb ((or_l (p:=((t0.Kind≠3)∧(t0.Int_≠0))∨((t0.Kind≠5)∧(t0.Bits≠(0:UInt64)))) (q:=((t0.Kind=3)∨(t0.Kind=5))∧(t0.Text≠[])) (not_or.2 ⟨(fun h=>h11 h.2),(fun h=>h12 h.1)⟩))))) (rend Y Y)))))
   have qq21:=dF (p:=(t0.Kind=3)∨(t0.Kind=5)) (not_or.2 ⟨h16,h17⟩)
   iterate 3 (refine rO Y qq21 Y ?_)
   exact rn Y qq18 Y (p_pkf Y Y qq21 (tb (dF (p:=((t0.Kind=3)∨(t0.Kind=5))∧(t0.Text≠[])) (fun x=>(not_or.2 ⟨h16,h17⟩) x.1)).symm)) (rp Y (p_pkf Y Y qq18 (tb ((or_l (p:=((t0.Kind≠3)∧(t0.Int_≠0))∨((t0.Kind≠5)∧(t0.Bits≠(0:UInt64)))) (q:=((t0.Kind=3)∨(t0.Kind=5))∧(t0.Text≠[])) (not_or.2 ⟨(fun h=>h11 h.2),(fun h=>h12 h.1)⟩))))) (rend Y Y))
  iterate 3 (refine rO Y (dF h10) Y ?_)
  refine rp Y (p_pkf Y Y (dF h10) (tb (dF (p:=(t0.Kind≠3)∧(t0.Int_≠0)) (fun x=>h10 x.1)).symm)) (rm Y ?_)
  have qq22:=dF (p:=(t0.Kind≠3)∧(t0.Int_≠0)) (fun h=>h10 h.1)
  refine rn Y qq22 Y (uf U79 Y in_3 Y (GToken.len t0)) (rn Y qq22 Y (pl U3 Y (GToken.sub0 t0)) (rn Y qq22 Y (pn Y) (rn Y qq22 Y (p_move Y Y) ?_)))
  refine (Classical.em (t0.Kind≠5)).elim (fun h18=>?_) (fun h18=>?_)
  ·refine rn Y (dT h18) Y (uf U79 Y in_30 Y (GToken.len t0)) (rn Y (dT h18) Y (pl U30 Y (GToken.sub3 t0)) (rn Y (dT h18) Y (p_u64ne (a:=t0.Bits) (b:=(0:UInt64)) Y Y Y) (rn Y qq22 Y (p_pkt Y Y (dT h18) (tb ((and_l (q:=t0.Bits≠(0:UInt64)) h18)))) (rp Y (p_pkf Y Y qq22 (tb ((or_l (p:=(t0.Kind≠3)∧(t0.Int_≠0)) (q:=(t0.Kind≠5)∧(t0.Bits≠(0:UInt64))) (fun h=>h10 h.1))))) (rm Y ?_)))))
   refine (Classical.em (t0.Bits≠(0:UInt64))).elim (fun h19=>?_) (fun h19=>?_)
   ·have qq23:=dT (p:=((t0.Kind≠3)∧(t0.Int_≠0))∨((t0.Kind≠5)∧(t0.Bits≠(0:UInt64)))) (Or.inr ⟨h18,h19⟩)
    iterate 4 (refine rO Y qq23 Y ?_)
    iterate 3 (refine r_off2 rfl rfl rfl rfl rfl rfl ?_)
    iterate 2 (refine rO Y qq23 Y ?_)
    iterate 3 (refine r_off2 rfl rfl rfl rfl rfl rfl ?_)
    exact rO Y qq23 Y (rp Y (p_pkt Y Y qq23 (tb (dT (p:=(((t0.Kind≠3)∧(t0.Int_≠0))∨((t0.Kind≠5)∧(t0.Bits≠(0:UInt64))))∨(((t0.Kind=3)∨(t0.Kind=5))∧(t0.Text≠[]))) (Or.inl (Or.inr ⟨h18,h19⟩))).symm)) (rend Y Y))
   have qq24:=dF (p:=((t0.Kind≠3)∧(t0.Int_≠0))∨((t0.Kind≠5)∧(t0.Bits≠(0:UInt64)))) (not_or.2 ⟨(fun h=>h10 h.1),(fun h=>h19 h.2)⟩)
   refine rn Y qq24 Y (uf U79 Y in_3 Y (GToken.len t0)) (rn Y qq24 Y (pl U3 Y (GToken.sub0 t0)) (rn Y qq24 Y (pi Y) (rn Y qq24 Y (p_move Y Y) ?_)))
   refine (Classical.em (t0.Kind=3)).elim (fun h20=>?_) (fun h20=>?_)
   ·iterate 3 (refine rO Y (dT h20) Y ?_)
    have qq25:=dT (p:=(t0.Kind=3)∨(t0.Kind=5)) (Or.inl h20)
    exact rn Y qq24 Y (p_pkt Y Y (dT h20) (tb qq25.symm)) (rn Y qq24 Y (p_move Y Y) (rn Y qq25 Y (uf U79 Y in_9 Y (GToken.len t0)) (rn Y qq25 Y (pl U9 Y (GToken.sub1 t0)) (rn Y qq25 Y (p_sne Y Y Y) (rn Y qq24 Y (p_pkt Y Y qq25 (tb ((and_l (p:=(t0.Kind=3)∨(t0.Kind=5)) (q:=t0.Text≠[]) (Or.inl h20))))) (rp Y (p_pkf Y Y qq24 (tb ((or_l (p:=((t0.Kind≠3)∧(t0.Int_≠0))∨((t0.Kind≠5)∧(t0.Bits≠(0:UInt64)))) (q:=((t0.Kind=3)∨(t0.Kind=5))∧(t0.Text≠[])) (not_or.2 ⟨(fun h=>h10 h.1),(fun h=>h19 h.2)⟩))))) (rend Y Y)))))))
   refine rn Y (dF h20) Y (uf U79 Y in_3 Y (GToken.len t0)) (rn Y (dF h20) Y (pl U3 Y (GToken.sub0 t0)) (rn Y (dF h20) Y (pi Y) (rn Y qq24 Y (p_pkf Y Y (dF h20) (tb ((or_l (q:=t0.Kind=5) h20)))) (rn Y qq24 Y (p_move Y Y) ?_))))
   refine (Classical.em (t0.Kind=5)).elim (fun h21=>?_) (fun h21=>?_)
   ·have qq26:=dT (p:=(t0.Kind=3)∨(t0.Kind=5)) (Or.inr h21)
    exact rn Y qq26 Y (uf U79 Y in_9 Y (GToken.len t0)) (rn Y qq26 Y (pl U9 Y (GToken.sub1 t0)) (rn Y qq26 Y (p_sne Y Y Y) (rn Y qq24 Y (p_pkt Y Y qq26 (tb ((and_l (p:=(t0.Kind=3)∨(t0.Kind=5)) (q:=t0.Text≠[]) (Or.inr h21))))) (rp Y (p_pkf Y Y qq24 (tb ((or_l (p:=((t0.Kind≠3)∧(t0.Int_≠0))∨((t0.Kind≠5)∧(t0.Bits≠(0:UInt64)))) (q:=((t0.Kind=3)∨(t0.Kind=5))∧(t0.Text≠[])) (not_or.2 ⟨(fun h=>h10 h.1),(fun h=>h19 h.2)⟩))))) (rend Y Y)))))
   have qq27:=dF (p:=(t0.Kind=3)∨(t0.Kind=5)) (not_or.2 ⟨h20,h21⟩)
   iterate 3 (refine rO Y qq27 Y ?_)
   exact rn Y qq24 Y (p_pkf Y Y qq27 (tb (dF (p:=((t0.Kind=3)∨(t0.Kind=5))∧(t0.Text≠[])) (fun x=>(not_or.2 ⟨h20,h21⟩) x.1)).symm)) (rp Y (p_pkf Y Y qq24 (tb ((or_l (p:=((t0.Kind≠3)∧(t0.Int_≠0))∨((t0.Kind≠5)∧(t0.Bits≠(0:UInt64)))) (q:=((t0.Kind=3)∨(t0.Kind=5))∧(t0.Text≠[])) (not_or.2 ⟨(fun h=>h10 h.1),(fun h=>h19 h.2)⟩))))) (rend Y Y))
  iterate 3 (refine rO Y (dF h18) Y ?_)
  refine rn Y qq22 Y (p_pkf Y Y (dF h18) (tb (dF (p:=(t0.Kind≠5)∧(t0.Bits≠(0:UInt64))) (fun x=>h18 x.1)).symm)) (rp Y (p_pkf Y Y qq22 (tb ((or_l (p:=(t0.Kind≠3)∧(t0.Int_≠0)) (q:=(t0.Kind≠5)∧(t0.Bits≠(0:UInt64))) (fun h=>h10 h.1))))) (rm Y ?_))
  have qq28:=dF (p:=((t0.Kind≠3)∧(t0.Int_≠0))∨((t0.Kind≠5)∧(t0.Bits≠(0:UInt64)))) (not_or.2 ⟨(fun h=>h10 h.1),(fun h=>h18 h.1)⟩)
  refine rn Y qq28 Y (uf U79 Y in_3 Y (GToken.len t0)) (rn Y qq28 Y (pl U3 Y (GToken.sub0 t0)) (rn Y qq28 Y (pi Y) (rn Y qq28 Y (p_move Y Y) ?_)))
  refine (Classical.em (t0.Kind=3)).elim (fun h22=>?_) (fun h22=>?_)
  ·iterate 3 (refine rO Y (dT h22) Y ?_)
   have qq29:=dT (p:=(t0.Kind=3)∨(t0.Kind=5)) (Or.inl h22)
   exact rn Y qq28 Y (p_pkt Y Y (dT h22) (tb qq29.symm)) (rn Y qq28 Y (p_move Y Y) (rn Y qq29 Y (uf U79 Y in_9 Y (GToken.len t0)) (rn Y qq29 Y (pl U9 Y (GToken.sub1 t0)) (rn Y qq29 Y (p_sne Y Y Y) (rn Y qq28 Y (p_pkt Y Y qq29 (tb ((and_l (p:=(t0.Kind=3)∨(t0.Kind=5)) (q:=t0.Text≠[]) (Or.inl h22))))) (rp Y (p_pkf Y Y qq28 (tb ((or_l (p:=((t0.Kind≠3)∧(t0.Int_≠0))∨((t0.Kind≠5)∧(t0.Bits≠(0:UInt64)))) (q:=((t0.Kind=3)∨(t0.Kind=5))∧(t0.Text≠[])) (not_or.2 ⟨(fun h=>h10 h.1),(fun h=>h18 h.1)⟩))))) (rend Y Y)))))))
  refine rn Y (dF h22) Y (uf U79 Y in_3 Y (GToken.len t0)) (rn Y (dF h22) Y (pl U3 Y (GToken.sub0 t0)) (rn Y (dF h22) Y (pi Y) (rn Y qq28 Y (p_pkf Y Y (dF h22) (tb ((or_l (q:=t0.Kind=5) h22)))) (rn Y qq28 Y (p_move Y Y) ?_))))
  refine (Classical.em (t0.Kind=5)).elim (fun h23=>?_) (fun h23=>?_)
  ·have qq30:=dT (p:=(t0.Kind=3)∨(t0.Kind=5)) (Or.inr h23)
   exact rn Y qq30 Y (uf U79 Y in_9 Y (GToken.len t0)) (rn Y qq30 Y (pl U9 Y (GToken.sub1 t0)) (rn Y qq30 Y (p_sne Y Y Y) (rn Y qq28 Y (p_pkt Y Y qq30 (tb ((and_l (p:=(t0.Kind=3)∨(t0.Kind=5)) (q:=t0.Text≠[]) (Or.inr h23))))) (rp Y (p_pkf Y Y qq28 (tb ((or_l (p:=((t0.Kind≠3)∧(t0.Int_≠0))∨((t0.Kind≠5)∧(t0.Bits≠(0:UInt64)))) (q:=((t0.Kind=3)∨(t0.Kind=5))∧(t0.Text≠[])) (not_or.2 ⟨(fun h=>h10 h.1),(fun h=>h18 h.1)⟩))))) (rend Y Y)))))
  have qq31:=dF (p:=(t0.Kind=3)∨(t0.Kind=5)) (not_or.2 ⟨h22,h23⟩)
  iterate 3 (refine rO Y qq31 Y ?_)
  exact rn Y qq28 Y (p_pkf Y Y qq31 (tb (dF (p:=((t0.Kind=3)∨(t0.Kind=5))∧(t0.Text≠[])) (fun x=>(not_or.2 ⟨h22,h23⟩) x.1)).symm)) (rp Y (p_pkf Y Y qq28 (tb ((or_l (p:=((t0.Kind≠3)∧(t0.Int_≠0))∨((t0.Kind≠5)∧(t0.Bits≠(0:UInt64)))) (q:=((t0.Kind=3)∨(t0.Kind=5))∧(t0.Text≠[])) (not_or.2 ⟨(fun h=>h10 h.1),(fun h=>h18 h.1)⟩))))) (rend Y Y))
 refine gen1 (fun t69'2=>(⟨[(1,.q 1 (0)),(69,.b t69'2)],[(1,.pure (GToken.cs t0))],112⟩:TS)) H ?_
 intro t69'2 H
 refine AW2_cond Y (fun h24=>?_) (fun h24=>?_)
 ·replace H:=ite_then h24 H
  refine sg 1 Y (ra Y (rz [2] [.i 3] [] [] Y (QR ?_)))
  have z:=se H;subst z
  exact ⟨⟨rt,trivial⟩,trivial⟩
 replace H:=ite_else (ne_true h24) H
 refine as2 [1] [.q 1 (0)] [1] [.pure (GToken.cs t0)] Y (QK (sg 1 Y (ra Y (rz [1,3] [_,.b true] [1] [_] Y (QS (bindK H fun j'3 h25 H=>AW2_mid (⟨[(3,.b j'3)],[],112⟩:TS) ?_ ?_))))))
 ·clear H
  have H:=h25
  clear h25
  refine sg 2 Y (rf Y U79 Y in_3 Y Y (GToken.len t0) (rp Y (pl U3 Y (GToken.sub0 t0)) (rz [1,3,71] [.q 1 (0),.b true,.i t0.Kind] [1] [.pure (GToken.cs t0)] Y (QB (sg 2 Y (rp Y (pi Y) (ra Y (rz [1,3,71,72] [_,_,_,.b (decide (t0.Kind=1))] [1] [_] Y (if2 H Y (fun h26 H=>?_) (fun h26 H=>?_))))))))))
  ·refine bindK H fun g'7 h33 H=>AW2_mid (⟨[(3,.b g'7)],[],112⟩:TS) ?_ ?_
   ·clear H
    have H:=h33
    clear h33
    refine ar 10 Y (rf Y U79 Y in_9 Y Y (GToken.len t0) (rp Y (pl U9 Y (GToken.sub1 t0)) (bindK H fun r'5 h29 H=>rp Y (p_calll Y Y Y Tryz.func58 Y Y (g_lex_all_i0_ac h29) Y ⟨lend_p Y,lend_clo Y Y trivial,trivial⟩) (rm Y (em2 H (fun h30 H=>?_) (fun h30 H=>?_))))))
    ·refine rn Y h30 Y (uf U79 Y in_9 Y (GToken.len t0)) (rn Y h30 Y (pl U9 Y (GToken.sub1 t0)) (chkK H fun h31 H=>rn Y h30 Y (p_ixt Y U9 Y Y Y (lrd_get h31)) (bindK H fun r'6 h32 H=>rn Y h30 Y (pc Y Tryz.func60 Y (g_lex_small_ac h32) Y) (rp Y (p_pkt Y Y h30 (.same _)) (ra Y (rs [3] [.b r'6] [] [] Y ?_))))))
     have z:=se H;subst z
     exact RunW_nil rfl
    iterate 4 (refine rO Y (bfalse h30) Y ?_)
    refine rp Y (p_pkf Y Y (bfalse h30) (.same _)) (ra Y (rs [3] [.b false] [] [] Y ?_))
    have z:=se H;subst z
    exact RunW_nil rfl
   have z:=se H;subst z
   exact rfl
  refine sg 2 Y (rp Y (pi Y) (ra Y (rz [1,3,71,83] [_,_,_,.b (decide (t0.Kind=2))] [1] [_] Y (if2 H Y (fun h35 H=>?_) (fun h35 H=>?_)))))
  ·refine ar 4 Y (rf Y U79 Y in_9 Y Y (GToken.len t0) (rp Y (pl U9 Y (GToken.sub1 t0)) (bindK H fun r'8 h36 H=>rp Y (p_calll Y Y Y Tryz.func58 Y Y (g_lex_all_i1_ac h36) Y ⟨lend_p Y,lend_clo Y Y trivial,trivial⟩) (ra Y (rz [3] [.b r'8] [] [] Y ?_)))))
   have z:=se H;subst z
   exact rfl
  refine sg 2 Y (rp Y (pi Y) (ra Y (rz [1,3,71,88] [_,_,_,.b (decide (t0.Kind=3))] [1] [_] Y (if2 H Y (fun h37 H=>?_) (fun h37 H=>?_)))))
  ·refine ar 4 Y (rf Y U79 Y in_3 Y Y (GToken.len t0) (rp Y (pl U3 Y (GToken.sub2 t0)) (rp Y (pb Y Y) (ra Y (rz [3] [.b (decide (t0.Int_≥0))] [] [] Y ?_)))))
   have z:=se H;subst z
   exact rfl
  refine sg 2 Y (rp Y (pi Y) (ra Y (rz [1,3,71,93] [_,_,_,.b (decide (t0.Kind=4))] [1] [_] Y (if2 H Y (fun h38 H=>?_) (fun h38 H=>?_)))))
  ·refine ar 4 Y (rf Y U79 Y in_9 Y Y (GToken.len t0) (rp Y (pl U9 Y (GToken.sub1 t0)) (bindK H fun r'9 h39 H=>rp Y (pc Y Tryz.func62 Y (g_utf8_ValidString_ac h39) Y) (ra Y (rz [3] [.b r'9] [] [] Y ?_)))))
   have z:=se H;subst z
   exact rfl
  refine sg 2 Y (rp Y (pi Y) (ra Y (rz [1,3,71,98] [_,_,_,.b (decide (t0.Kind=5))] [1] [_] Y (if2 H Y (fun h40 H=>?_) (fun h40 H=>?_)))))
  ·refine ar 6 Y (rf Y U79 Y in_30 Y Y (GToken.len t0) (rp Y (pl U30 Y (GToken.sub3 t0)) (rp Y (u_bld Y in_32 one_32 zc_32 pl_32 Y (af_cons Y Y (GValue.upd0 GValue.zero 3) (af_cons Y Y (GValue.upd2 ((GValue.w0 GValue.zero 3)) t0.Bits) Y))) (bindK H fun r'10 h41 H=>rp Y (pc Y Tryz.func63 Y (g_value_Check_ac h41) Y) (rp Y (pi Y) (ra Y (rz [3] [.b (decide (r'10=0))] [] [] Y ?_)))))))
   have z:=se H;subst z
   exact rfl
  refine sg 2 Y (rp Y (pi Y) (ra Y (rz [1,3,105] [_,_,.b (decide (t0.Kind=6))] [1] [_] Y (if2 H Y (fun h42 H=>?_) (fun h42 H=>?_)))))
  ·refine ar 4 Y (rf Y U79 Y in_9 Y Y (GToken.len t0) (rp Y (pl U9 Y (GToken.sub1 t0)) (bindK H fun r'11 h43 H=>rp Y (pc Y Tryz.func64 Y (g_lex_sign_ac h43) Y) (ra Y (rz [3] [.b r'11] [] [] Y ?_)))))
   have z:=se H;subst z
   exact rfl
  refine as2 [3] [_] [] [] Y (QK ?_)
  have z:=se H;subst z
  exact rfl
 refine QS (sg 2 Y (rm Y (rp Y (p_not Y Y) (rz [111] [.b (!j'3)] [] [] Y (AW2_cond Y (fun h44=>?_) (fun h44=>?_))))))
 ·replace H:=ite_then h44 H
  refine sg 1 Y (ra Y (rz [2] [.i 3] [] [] Y (QR ?_)))
  have z:=se H;subst z
  exact ⟨⟨rt,trivial⟩,trivial⟩
 replace H:=ite_else (ne_true h44) H
 refine as2 [] [] [] [] Y (QK (sg 1 Y (ra Y (rz [2] [.i 0] [] [] Y (QR ?_)))))
 have z:=se H;subst z
 exact ⟨⟨rt,trivial⟩,trivial⟩
noncomputable def g_kinds_Columns_l1 (cols0:List GColumn) (t12_0:Int):Int→Option (Int⊕(Int⊕Unit))
  | t34_1=>(if t34_1 < ((cut cols0 (0:Int) t12_0).length:Int) then if 0≤t34_1∧t34_1 < ((cut cols0 (0:Int) t12_0).length:Int) then (if (lrd (cut cols0 (0:Int) t12_0) t34_1.toNat).Name=(lrd cols0 t12_0.toNat).Name then some (.inr (.inl (8:Int))) else some (.inl (w64 (t34_1+(1:Int))))) else none else some (.inr (.inr ())))
noncomputable def g_kinds_Columns_l0 (cols0:List GColumn):Int→Option (Int⊕(Int⊕Unit))
  | t12_0=>(if t12_0 < (cols0.length:Int) then if 0≤t12_0∧t12_0 < (cols0.length:Int) then (g_lex_Check ({ { GToken.zero with Kind:=(1:Int) } with Text:=(lrd cols0 t12_0.toNat).Name })).bind fun r'1=>(if r'1≠(0:Int) then some (.inr (.inl (3:Int))) else (if ((lrd cols0 t12_0.toNat).Kind < (1:Int))∨((lrd cols0 t12_0.toNat).Kind > (4:Int)) then some (.inr (.inl (2:Int))) else if 0≤t12_0∧t12_0≤(cols0.length:Int) then (loopO (g_kinds_Columns_l1 cols0 t12_0) (0:Int)).bind fun o'5=>match o'5 with | .inl y'6=>some (.inr (.inl y'6)) | .inr (y'7)=>some (.inl (w64 (t12_0+(1:Int)))) else none)) else none else some (.inr (.inr ())))
noncomputable def g_kinds_Columns (cols0:List GColumn):Option (Int) :=
  (if (cols0.length:Int) > (5:Int) then some (1:Int) else (loopO (g_kinds_Columns_l0 cols0) (0:Int)).bind fun o'11=>match o'11 with | .inl y'12=>some y'12 | .inr (y'13)=>some (0:Int))
theorem g_kinds_Columns_ac {cols0:List GColumn} {r:Int} (H:g_kinds_Columns cols0=some r):ACp Tryz.prog 28 [(GColumn.ls cols0)] (AV.int r):=by
 refine ACp_of (AC2_of_body (vs:=[.i r]) Tryz.func28 Y Y (lb Y) Y ?_) (fun _=>.same _)
 unfold g_kinds_Columns at H
 refine as2 [0] [.p (GColumn.ls cols0)] [] [] Y (sg 1 Y (ra Y (rz [0] [_] [] [] Y (QS (sg 3 Y (rm Y (rp Y (p_lenl Y U22 Y Y) (rp Y (pb Y Y) (rz [0,9] [_,.b (decide ((cols0.length:Int) > 5))] [] [] Y (if2 H Y (fun h1 H=>?_) (fun h1 H=>?_)))))))))))
 ·refine sg 1 Y (ra Y (rz [2] [.i 1] [] [] Y (QR ?_)))
  have z:=se H;subst z
  exact ⟨⟨rt,trivial⟩,trivial⟩
 refine as2 [0] [_] [] [] Y (QK (QS (sg 3 Y (rm Y (rp Y (p_lenl Y U22 Y Y) (rm Y (rz [0,10,11,12] [_,.p (GColumn.ls cols0),.i (cols0.length:Int),.i 0] [] [] Y (QB (as2 [0,10,11,12] [_,_,_,_] [] [] Y (bindK H fun o'11 h13 H=>AW2_loopO (fun a'8:Int=>(⟨[(0,.p (GColumn.ls cols0)),(10,.p (GColumn.ls cols0)),(11,.i (cols0.length:Int)),(12,.i a'8)],[],45⟩:TS)) (fun (o:Int⊕Unit) e s'=>match o with | .inl y'9=>e=Go.Exit.ret∧ResAll Tryz.prog s' [ResultVar.tmp 2] [.i y'9]∧HFits s' [] | .inr (y'10)=>e=Go.Exit.exit 0∧s'=(⟨[],[],45⟩:TS)) h13 Y (fun t12_0 x hx=>?_) (fun e s' hs=>?_)))))))))))
 ·clear H
  have H:=hx
  clear hx
  unfold g_kinds_Columns_l0 at H
  refine sg 1 Y (rp Y (pb Y Y) (rz [0,10,11,12,13] [.p (GColumn.ls cols0),.p (GColumn.ls cols0),.i (cols0.length:Int),.i t12_0,.b (decide (t12_0 < (cols0.length:Int)))] [] [] Y (QS (if2 H Y (fun h2 H=>?_) (fun h2 H=>?_)))))
  ·refine as2 [0,10,11,12] [_,_,_,_] [] [] Y (QK (QS (QB (sg 6 Y (rm Y (chkK H fun h3 H=>rp Y (u_ixl Y Y U22 in_63 Y Y (ixe h3) (ixn h3) (fne GColumn.len (by decide) (ixn h3))) (rp Y (pL U63 Y in_63 (Sub.fm default GColumn.len (ixn h3)) (GColumn.len (lrd cols0 t12_0.toNat))) (rq Y (al 4 in_63 one_63 zc_63 Y) (ra Y (rq Y (u_sw Y Y in_63 (GColumn.len (lrd cols0 t12_0.toNat)) (GColumn.len GColumn.zero)) (rz [0,3,4,10,11,12] [_,.i t12_0,.q 4 (0),_,_,_] [4] [.pure (GColumn.cs (lrd cols0 t12_0.toNat))] Y (QS (sg 5 Y (rf Y U63 Y in_9 Y Y (GColumn.len (lrd cols0 t12_0.toNat)) (rp Y (pl U9 Y (GColumn.sub0 (lrd cols0 t12_0.toNat))) (rp Y (u_bld Y in_79 one_79 zc_79 pl_79 Y (af_cons Y Y (GToken.upd0 GToken.zero 1) (af_cons Y Y (GToken.upd1 ((GToken.w0 GToken.zero 1)) ((lrd cols0 t12_0.toNat).Name)) Y))) (bindK H fun r'1 h4 H=>rp Y (pc Y Tryz.func41 Y (g_lex_Check_ac h4) Y) (rp Y (pn Y) (rz [0,3,4,10,11,12,21] [_,_,_,_,_,_,.b (decide (r'1≠0))] [4] [_] Y (if2 H Y (fun h5 H=>?_) (fun h5 H=>?_)))))))))))))))))))))
   ·refine sg 1 Y (ra Y (rz [2] [.i 3] [] [] Y (QR ?_)))
    have z:=se H;subst z
    exact ⟨Y,⟨rt,trivial⟩,trivial⟩
   refine as2 [0,3,4,10,11,12] [_,_,_,_,_,_] [4] [_] Y (QK (QS (QS (AW2_mid (⟨[(0,.p (GColumn.ls cols0)),(3,.i t12_0),(4,.q 4 (0)),(10,.p (GColumn.ls cols0)),(11,.i (cols0.length:Int)),(12,.i t12_0),(29,.b (decide (((lrd cols0 t12_0.toNat).Kind < 1)∨((lrd cols0 t12_0.toNat).Kind > 4))))],[(4,.pure (GColumn.cs (lrd cols0 t12_0.toNat)))],45⟩:TS) ?_ ?_))))
   ·refine ar 8 Y (rf Y U63 Y in_3 Y Y (GColumn.len (lrd cols0 t12_0.toNat)) (rp Y (pl U3 Y (GColumn.sub1 (lrd cols0 t12_0.toNat))) (rp Y (pb Y Y) (rm Y ?_))))
    refine (Classical.em ((lrd cols0 t12_0.toNat).Kind < 1)).elim (fun h6=>?_) (fun h6=>?_)
    ·exact rO Y (dT h6) Y (rO Y (dT h6) Y (rO Y (dT h6) Y (rp Y (p_pkt Y Y (dT h6) (tb (dT (p:=((lrd cols0 t12_0.toNat).Kind < 1)∨((lrd cols0 t12_0.toNat).Kind > 4)) (Or.inl h6)).symm)) (rend Y Y))))
    exact rn Y (dF h6) Y (uf U63 Y in_3 Y (GColumn.len (lrd cols0 t12_0.toNat))) (rn Y (dF h6) Y (pl U3 Y (GColumn.sub1 (lrd cols0 t12_0.toNat))) (rn Y (dF h6) Y (pb Y Y) (rp Y (p_pkf Y Y (dF h6) (tb ((or_l (q:=(lrd cols0 t12_0.toNat).Kind > 4) h6)))) (rend Y Y))))
   refine if2 H Y (fun h7 H=>?_) (fun h7 H=>?_)
   ·refine sg 1 Y (ra Y (rz [2] [.i 2] [] [] Y (QR ?_)))
    have z:=se H;subst z
    exact ⟨Y,⟨rt,trivial⟩,trivial⟩
   refine as2 [0,3,4,10,11,12] [_,_,_,_,_,_] [4] [_] Y (QK (sg 5 Y (rm Y (rm Y (chkK H fun h8 H=>rp Y (u_cutl (g:=(fun l=>l.flatMap GColumn.cs)) (a:=0) (b:=t12_0) Y Y U22 in_63 Y bT_zero (bT_i (Int.le_trans (show 0≤(0:Int)∧0≤t12_0∧t12_0≤(cols0.length:Int) from ⟨Int.le_refl _,h8.1,h8.2⟩).1 (show 0≤(0:Int)∧0≤t12_0∧t12_0≤(cols0.length:Int) from ⟨Int.le_refl _,h8.1,h8.2⟩).2.1) Y) (.inl Y) (show 0≤(0:Int)∧0≤t12_0∧t12_0≤(cols0.length:Int) from ⟨Int.le_refl _,h8.1,h8.2⟩) (g_fm GColumn.len)) (rp Y (p_lenl Y U22 Y Y) (rm Y (rz [0,4,10,11,12,32,33,34] [_,_,_,_,_,.p (GColumn.ls (cut cols0 0 t12_0)),.i ((cut cols0 0 t12_0).length:Int),.i 0] [4] [_] Y (QB (as2 [0,4,10,11,12,32,33,34] [_,_,_,_,_,_,_,_] [4] [_] Y (bindK H fun o'5 h12 H=>AW2_loopO (fun a'2:Int=>(⟨[(0,.p (GColumn.ls cols0)),(4,.q 4 (0)),(10,.p (GColumn.ls cols0)),(11,.i (cols0.length:Int)),(12,.i t12_0),(32,.p (GColumn.ls (cut cols0 0 t12_0))),(33,.i ((cut cols0 0 t12_0).length:Int)),(34,.i a'2)],[(4,.pure (GColumn.cs (lrd cols0 t12_0.toNat)))],45⟩:TS)) (fun (o:Int⊕Unit) e s'=>match o with | .inl y'3=>e=Go.Exit.ret∧ResAll Tryz.prog s' [ResultVar.tmp 2] [.i y'3]∧HFits s' [] | .inr (y'4)=>e=Go.Exit.exit 2∧s'=(⟨[(0,.p (GColumn.ls cols0)),(10,.p (GColumn.ls cols0)),(11,.i (cols0.length:Int)),(12,.i t12_0)],[],45⟩:TS)) h12 Y (fun t34_1 x hx=>?_) (fun e s' hs=>?_))))))))))))
   ·clear H
    have H:=hx
    clear hx
    unfold g_kinds_Columns_l1 at H
    refine sg 1 Y (rp Y (pb Y Y) (rz [0,4,10,11,12,32,33,34,35] [.p (GColumn.ls cols0),.q 4 (0),.p (GColumn.ls cols0),.i (cols0.length:Int),.i t12_0,.p (GColumn.ls (cut cols0 0 t12_0)),.i ((cut cols0 0 t12_0).length:Int),.i t34_1,.b (decide (t34_1 < ((cut cols0 0 t12_0).length:Int)))] [4] [.pure (GColumn.cs (lrd cols0 t12_0.toNat))] Y (QS (if2 H Y (fun h9 H=>?_) (fun h9 H=>?_)))))
    ·refine as2 [0,4,10,11,12,32,33,34] [_,_,_,_,_,_,_,_] [4] [_] Y (QK (QS (QB (sg 4 Y (chkK H fun h10 H=>rp Y (u_ixl Y Y U22 in_63 Y Y (ixe h10) (ixn h10) (fne GColumn.len (by decide) (ixn h10))) (rp Y (pL U63 Y in_63 (Sub.fm default GColumn.len (ixn h10)) (GColumn.len (lrd (cut cols0 0 t12_0) t34_1.toNat))) (rq Y (al 6 in_63 one_63 zc_63 Y) (rq Y (u_sw Y Y in_63 (GColumn.len (lrd (cut cols0 0 t12_0) t34_1.toNat)) (GColumn.len GColumn.zero)) (rz [0,4,6,10,11,12,32,33,34] [_,_,.q 6 (0),_,_,_,_,_,_] [4,6] [_,.pure (GColumn.cs (lrd (cut cols0 0 t12_0) t34_1.toNat))] Y (sg 5 Y (rf Y U63 Y in_9 Y Y (GColumn.len (lrd (cut cols0 0 t12_0) t34_1.toNat)) (rp Y (pl U9 Y (GColumn.sub0 (lrd (cut cols0 0 t12_0) t34_1.toNat))) (rf Y U63 Y in_9 Y Y (GColumn.len (lrd cols0 t12_0.toNat)) (rp Y (pl U9 Y (GColumn.sub0 (lrd cols0 t12_0.toNat))) (rp Y (p_seq Y Y Y) (rz [0,4,10,11,12,32,33,34,42] [_,_,_,_,_,_,_,_,.b (decide ((lrd (cut cols0 0 t12_0) t34_1.toNat).Name=(lrd cols0 t12_0.toNat).Name))] [4] [_] Y (if2 H Y (fun h11 H=>?_) (fun h11 H=>?_))))))))))))))))))
     ·refine sg 1 Y (ra Y (rz [2] [.i 8] [] [] Y (QR ?_)))
      have z:=se H;subst z
      exact ⟨Y,⟨rt,trivial⟩,trivial⟩
     refine as2 [0,4,10,11,12,32,33,34] [_,_,_,_,_,_,_,_] [4] [_] Y (QK (ar 2 Y (rp Y (pb Y Y) (rm Y (rz [0,4,10,11,12,32,33,34] [_,_,_,_,_,_,_,.i (w64 (t34_1+1))] [4] [_] Y ?_)))))
     have z:=se H;subst z
     exact ⟨Y,Y⟩
    refine as2 [0,10,11,12] [_,_,_,_] [] [] Y (AW2_exit (thenQ2_exit ?_))
    have z:=se H;subst z
    exact ⟨Y,Y⟩
   rcases o'5 with y'6 | y'7
   ·obtain ⟨rfl,hs⟩:=hs
    refine ⟨by simp,?_⟩
    have z:=se H;subst z
    exact ⟨Y,hs.1,hs.2⟩
   obtain ⟨rfl,rfl⟩:=hs
   refine ⟨by simp,?_⟩
   refine blockQ2_exit (ar 2 Y (rp Y (pb Y Y) (rm Y (rz [0,10,11,12] [.p (GColumn.ls cols0),.p (GColumn.ls cols0),.i (cols0.length:Int),.i (w64 (t12_0+1))] [] [] Y ?_))))
   have z:=se H;subst z
   exact ⟨Y,Y⟩
  refine as2 [] [] [] [] Y (AW2_exit (thenQ2_exit ?_))
  have z:=se H;subst z
  exact ⟨Y,Y⟩
 rcases o'11 with y'12 | y'13
 ·obtain ⟨rfl,hs⟩:=hs
  refine ⟨by simp,?_⟩
  have z:=se H;subst z
  exact ⟨hs.1,hs.2⟩
 obtain ⟨rfl,rfl⟩:=hs
 refine ⟨by simp,?_⟩
 refine blockQ2_exit (sg 1 Y (ra Y (rz [2] [.i 0] [] [] Y (QR ?_))))
 have z:=se H;subst z
 exact ⟨⟨rt,trivial⟩,trivial⟩
def g_kinds_fits_r14:List (List (Nat×Option Nat)):=[[(7,none)],[(44,some 0)],[(45,some 1)],[(46,some 2)],[(7,none),(47,some 3)],[(47,some 3),(48,some 4)],[(1,none),(47,some 3)],[(6,none),(47,some 3)],[(47,some 3),(50,some 6),(51,some 7)],[(47,some 3),(52,some 8)],[(47,some 3),(53,some 9)]]
def g_kinds_fits_r14c:List (List Nat):=[[],[0],[0,1],[0,1,2],[0,1,2,3],[0,1,2,3,4],[0,1,2,3],[0,1,2,3],[0,1,2,3,6,7],[0,1,2,3,6,7,8],[0,1,2,3,6,7,8,9],[0,1,2,3,4,5,6,7,8,9,10],[0,1,2,3,4,5,6,7,8,9,10,11],[0,1,2,3,4,5,6,7,8,9,10,11,12]]
noncomputable def g_kinds_fits_l0 (row0:List GValue) (cols1:List GColumn):Int→Option (Int⊕(Int⊕Unit))
  | t21_0=>(if t21_0 < (row0.length:Int) then if 0≤t21_0∧t21_0 < (row0.length:Int) then (g_value_Check (lrd row0 t21_0.toNat)).bind fun r'2=>(if r'2≠(0:Int) then some (.inr (.inl r'2)) else ((if (lrd row0 t21_0.toNat).Kind=(0:Int) then if 0≤t21_0∧t21_0 < (cols1.length:Int) then some (!((lrd cols1 t21_0.toNat).Null)) else none else some false)).bind fun g'3=>(if g'3=true then some (.inr (.inl (12:Int))) else ((if (lrd row0 t21_0.toNat).Kind≠(0:Int) then if 0≤t21_0∧t21_0 < (cols1.length:Int) then some (decide ((lrd row0 t21_0.toNat).Kind≠(lrd cols1 t21_0.toNat).Kind)) else none else some false)).bind fun g'4=>(if g'4=true then some (.inr (.inl (2:Int))) else some (.inl (w64 (t21_0+(1:Int))))))) else none else some (.inr (.inr ())))
noncomputable def g_kinds_fits (row0:List GValue) (cols1:List GColumn):Option (Int) :=
  (g_kinds_Columns cols1).bind fun r'1=>(if r'1≠(0:Int) then some r'1 else (if (row0.length:Int)≠(cols1.length:Int) then some (1:Int) else (loopO (g_kinds_fits_l0 row0 cols1) (0:Int)).bind fun o'8=>match o'8 with | .inl y'9=>some y'9 | .inr (y'10)=>some (0:Int)))
theorem g_kinds_fits_ac {row0:List GValue} {cols1:List GColumn} {r:Int} (H:g_kinds_fits row0 cols1=some r):ACp Tryz.prog 44 [(GValue.ls row0),(GColumn.ls cols1)] (AV.int r):=by
 refine ACp_of (AC2_of_body (vs:=[.i r]) Tryz.func44 Y Y (lb Y) Y ?_) (fun _=>.same _)
 unfold g_kinds_fits at H
 refine as2 [0,1] [.p (GValue.ls row0),.p (GColumn.ls cols1)] [] [] Y (sg 1 Y (ra Y (rz [0,1] [_,_] [] [] Y (QS (sg 3 Y (rm Y (bindK H fun r'1 h1 H=>rp Y (pc Y Tryz.func28 Y (g_kinds_Columns_ac h1) Y) (ra Y (rz [0,1,5] [_,_,.i r'1] [] [] Y (sg 2 Y (rm Y (rp Y (pn Y) (rz [0,1,5,12] [_,_,_,.b (decide (r'1≠0))] [] [] Y (if2 H Y (fun h2 H=>?_) (fun h2 H=>?_)))))))))))))))
 ·refine sg 2 Y (rm Y (ra Y (rz [4] [.i r'1] [] [] Y (QR ?_))))
  have z:=se H;subst z
  exact ⟨⟨rt,trivial⟩,trivial⟩
 refine as2 [0,1] [_,_] [] [] Y (QK (QS (sg 5 Y (rm Y (rp Y (p_lenl Y U23 Y Y) (rm Y (rp Y (p_lenl Y U22 Y Y) (rp Y (pn Y) (rz [0,1,18] [_,_,.b (decide ((row0.length:Int)≠(cols1.length:Int)))] [] [] Y (if2 H Y (fun h3 H=>?_) (fun h3 H=>?_)))))))))))
 ·refine sg 1 Y (ra Y (rz [4] [.i 1] [] [] Y (QR ?_)))
  have z:=se H;subst z
  exact ⟨⟨rt,trivial⟩,trivial⟩
 refine as2 [0,1] [_,_] [] [] Y (QK (QS (sg 3 Y (rm Y (rp Y (p_lenl Y U23 Y Y) (rm Y (rz [1,19,20,21] [_,.p (GValue.ls row0),.i (row0.length:Int),.i 0] [] [] Y (QB (as2 [1,19,20,21] [_,_,_,_] [] [] Y (bindK H fun o'8 h18 H=>AW2_loopO (fun a'5:Int=>(⟨[(1,.p (GColumn.ls cols1)),(19,.p (GValue.ls row0)),(20,.i (row0.length:Int)),(21,.i a'5)],[],58⟩:TS)) (fun (o:Int⊕Unit) e s'=>match o with | .inl y'6=>e=Go.Exit.ret∧ResAll Tryz.prog s' [ResultVar.tmp 4] [.i y'6]∧HFits s' [] | .inr (y'7)=>e=Go.Exit.exit 0∧s'=(⟨[],[],58⟩:TS)) h18 Y (fun t21_0 x hx=>?_) (fun e s' hs=>?_)))))))))))
 ·clear H
  have H:=hx
  clear hx
  unfold g_kinds_fits_l0 at H
  refine sg 1 Y (rp Y (pb Y Y) (rz [1,19,20,21,22] [.p (GColumn.ls cols1),.p (GValue.ls row0),.i (row0.length:Int),.i t21_0,.b (decide (t21_0 < (row0.length:Int)))] [] [] Y (QS (if2 H Y (fun h4 H=>?_) (fun h4 H=>?_)))))
  ·refine as2 [1,19,20,21] [_,_,_,_] [] [] Y (QK (QS (QB (sg 6 Y (rm Y (chkK H fun h5 H=>rp Y (u_ixl Y Y U23 in_32 Y Y (ixe h5) (ixn h5) (fne GValue.len (by decide) (ixn h5))) (rp Y (pL U32 Y in_32 (Sub.fm default GValue.len (ixn h5)) (GValue.len (lrd row0 t21_0.toNat))) (rq Y (al 7 in_32 one_32 zc_32 Y) (ra Y (rq Y (u_sw Y Y in_32 (GValue.len (lrd row0 t21_0.toNat)) (GValue.len GValue.zero)) (rz [1,6,7,19,20,21] [_,.i t21_0,.q 7 (0),_,_,_] [7] [.pure (GValue.cs (lrd row0 t21_0.toNat))] Y (QS (sg 3 Y (rp Y (pL U32 Y in_32 (Sub.refl _) (GValue.len (lrd row0 t21_0.toNat))) (bindK H fun r'2 h6 H=>rp Y (pc Y Tryz.func63 Y (g_value_Check_ac h6) Y) (ra Y (rz [1,6,7,8,19,20,21] [_,_,_,.i r'2,_,_,_] [7] [_] Y (sg 2 Y (rm Y (rp Y (pn Y) (rz [1,6,7,8,19,20,21,29] [_,_,_,_,_,_,_,.b (decide (r'2≠0))] [7] [_] Y ?_)))))))))))))))))))))
   refine if2 H Y (fun h7 H=>?_) (fun h7 H=>?_)
   ·refine sg 2 Y (rm Y (ra Y (rz [4] [.i r'2] [] [] Y (QR ?_))))
    have z:=se H;subst z
    exact ⟨Y,⟨rt,trivial⟩,trivial⟩
   refine as2 [1,6,7,19,20,21] [_,_,_,_,_,_] [7] [_] Y (QK (QB (QS (bindK H fun g'3 h11 H=>AW2_mid (⟨[(1,.p (GColumn.ls cols1)),(6,.i t21_0),(7,.q 7 (0)),(19,.p (GValue.ls row0)),(20,.i (row0.length:Int)),(21,.i t21_0),(31,.b g'3)],[(7,.pure (GValue.cs (lrd row0 t21_0.toNat)))],58⟩:TS) ?_ ?_))))
   ·clear H
    have H:=h11
    clear h11
    refine ar 12 Y (rf Y U32 Y in_3 Y Y (GValue.len (lrd row0 t21_0.toNat)) (rp Y (pl U3 Y (GValue.sub0 (lrd row0 t21_0.toNat))) (rp Y (pi Y) (rm Y (em2 H (fun h9 H=>?_) (fun h9 H=>?_))))))
    ·refine rn Y (dT h9) Y (p_move Y Y) (rn Y (dT h9) Y (p_move Y Y) (chkK H fun h10 H=>rn Y (dT h9) Y (u_ixl Y Y U22 in_63 Y Y (ixe h10) (ixn h10) (fne GColumn.len (by decide) (ixn h10))) (rn Y (dT h9) Y (u_far Y Y U63 Y in_4 nz Y) (rn Y (dT h9) Y (pl U4 Y ((Sub.fm default GColumn.len (ixn h10)).trans (GColumn.sub2 (lrd cols1 t21_0.toNat)))) (rn Y (dT h9) Y (p_not Y Y) (rp Y (p_pkt Y Y (dT h9) (.same _)) (ra Y (rs [1,6,7,19,20,21,31] [.p (GColumn.ls cols1),.i t21_0,.q 7 (0),.p (GValue.ls row0),.i (row0.length:Int),.i t21_0,.b (!((lrd cols1 t21_0.toNat).Null))] [7] [.pure (GValue.cs (lrd row0 t21_0.toNat))] Y ?_))))))))
     have z:=se H;subst z
     exact RunW_nil rfl
    refine rO Y (dF h9) Y (rO Y (dF h9) Y (rO Y (dF h9) Y (rO Y (dF h9) Y (rO Y (dF h9) Y (rO Y (dF h9) Y (rp Y (p_pkf Y Y (dF h9) (.same _)) (ra Y (rs [1,6,7,19,20,21,31] [.p (GColumn.ls cols1),.i t21_0,.q 7 (0),.p (GValue.ls row0),.i (row0.length:Int),.i t21_0,.b false] [7] [.pure (GValue.cs (lrd row0 t21_0.toNat))] Y ?_))))))))
    have z:=se H;subst z
    exact RunW_nil rfl
   refine AW2_cond Y (fun h12=>?_) (fun h12=>?_)
   ·replace H:=ite_then h12 H
    refine sg 1 Y (ra Y (rz [4] [.i 12] [] [] Y (QR ?_)))
    have z:=se H;subst z
    exact ⟨Y,⟨rt,trivial⟩,trivial⟩
   replace H:=ite_else (ne_true h12) H
   refine QS (bindK H fun g'4 h15 H=>AW2_mid (⟨[(1,.p (GColumn.ls cols1)),(19,.p (GValue.ls row0)),(20,.i (row0.length:Int)),(21,.i t21_0),(43,.b g'4)],[],58⟩:TS) ?_ ?_)
   ·clear H
    have H:=h15
    clear h15
    refine em2 H (fun h13 H=>?_) (fun h13 H=>?_)
    ·refine chkK H fun h14 H=>?_
     have z:=se H;subst z
     refine AW2_ghoQ (AW2_draw 11 [11,12,13] (fun k=>([.q 7 (0+0),.i ((lrd row0 t21_0.toNat).Kind),.b (decide ((lrd row0 t21_0.toNat).Kind≠0)),.b (decide ((lrd row0 t21_0.toNat).Kind≠0)),.q 7 (0+0),.i ((lrd row0 t21_0.toNat).Kind),.p (GColumn.ls cols1),.i t21_0,.p (.rptr (cols1.flatMap GColumn.cs) (t21_0.toNat * 3)),.p (.rptr (cols1.flatMap GColumn.cs) (t21_0.toNat * 3+1)),.i ((lrd cols1 t21_0.toNat).Kind)]:List TV).getD k TV.any) (fun k=>g_kinds_fits_r14.getD k []) [(1,none),(19,none),(20,none),(21,none),(47,some 3),(49,some 5),(54,some 10)] [] (fun k=>g_kinds_fits_r14c.getD k []) mixed (by kernel_rfl) Y Y (a_op (g_x Y (x_p Y (uf U32 Y in_3 Y (GValue.len (lrd row0 t21_0.toNat))) Y)) (a_op (g_x Y (x_p Y (pl U3 Y (GValue.sub0 (lrd row0 t21_0.toNat))) Y)) (a_op (g_x Y (x_p Y (pn Y) Y)) (a_op (g_x Y (x_p Y (p_move Y Y) Y)) (a_op (g_on Y Y Y (dT h13) Y (x_p Y (uf U32 Y in_3 Y (GValue.len (lrd row0 t21_0.toNat))) Y)) (a_op (g_on Y Y Y (dT h13) Y (x_p Y (pl U3 Y (GValue.sub0 (lrd row0 t21_0.toNat))) Y)) (a_op (g_on Y Y Y (dT h13) Y (x_p Y (p_move Y Y) Y)) (a_op (g_on Y Y Y (dT h13) Y (x_p Y (p_move Y Y) Y)) (a_op (g_on Y Y Y (dT h13) Y (x_p Y (u_ixl Y Y U22 in_63 Y Y (ixe h14) (ixn h14) (fne GColumn.len (by decide) (ixn h14))) Y)) (a_op (g_on Y Y Y (dT h13) Y (x_p Y (u_far Y Y U63 Y in_3 nz Y) Y)) (a_op (g_on Y Y Y (dT h13) Y (x_p Y (pl U3 Y ((Sub.fm default GColumn.len (ixn h14)).trans (GColumn.sub1 (lrd cols1 t21_0.toNat)))) Y)) (a_nil)))))))))))) (t_on Y Y Y Y (dT h13) Y (PureD.opD (pn Y)) (t_op Y Y (PureD.opD (p_pkt Y Y (dT h13) (.same _))) (t_op Y Y (PureD.opD (p_asg Y Y)) (t_gho (Gho_st (L:=[(1,.p (GColumn.ls cols1)),(19,.p (GValue.ls row0)),(20,.i (row0.length:Int)),(21,.i t21_0),(43,.b (decide ((lrd row0 t21_0.toNat).Kind≠(lrd cols1 t21_0.toNat).Kind)))]) (H:=[]) (N:=58) Y ⟨TLes.same _,TLes.same _,TLes.same _,TLes.same _,TLes.same _,trivial⟩ trivial) ?_)))))
     exact rfl
    have z:=se H;subst z
    refine AW2_ghoQ (AW2_draw 11 [11,12,13] (fun k=>([.q 7 (0+0),.i ((lrd row0 t21_0.toNat).Kind),.b (decide ((lrd row0 t21_0.toNat).Kind≠0)),.b (decide ((lrd row0 t21_0.toNat).Kind≠0)),.p (.tup []),.p (.tup []),.p (.tup []),.p (.tup []),.p (.tup []),.p (.tup []),.p (.tup [])]:List TV).getD k TV.any) (fun k=>g_kinds_fits_r14.getD k []) [(1,none),(19,none),(20,none),(21,none),(47,some 3),(49,some 5),(54,some 10)] [] (fun k=>g_kinds_fits_r14c.getD k []) mixed (by kernel_rfl) Y Y (a_op (g_x Y (x_p Y (uf U32 Y in_3 Y (GValue.len (lrd row0 t21_0.toNat))) Y)) (a_op (g_x Y (x_p Y (pl U3 Y (GValue.sub0 (lrd row0 t21_0.toNat))) Y)) (a_op (g_x Y (x_p Y (pn Y) Y)) (a_op (g_x Y (x_p Y (p_move Y Y) Y)) (a_op (g_off Y Y Y Y Y (dF h13) Y Y) (a_op (g_off Y Y Y Y Y (dF h13) Y Y) (a_op (g_off Y Y Y Y Y (dF h13) Y Y) (a_op (g_off Y Y Y Y Y (dF h13) Y Y) (a_op (g_off Y Y Y Y Y (dF h13) Y Y) (a_op (g_off Y Y Y Y Y (dF h13) Y Y) (a_op (g_off Y Y Y Y Y (dF h13) Y Y) (a_nil)))))))))))) (t_off Y Y Y Y (dF h13) Y Y (t_op Y Y (PureD.opD (p_pkf Y Y (dF h13) (.same _))) (t_op Y Y (PureD.opD (p_asg Y Y)) (t_gho (Gho_st (L:=[(1,.p (GColumn.ls cols1)),(19,.p (GValue.ls row0)),(20,.i (row0.length:Int)),(21,.i t21_0),(43,.b false)]) (H:=[]) (N:=58) Y ⟨TLes.same _,TLes.same _,TLes.same _,TLes.same _,TLes.same _,trivial⟩ trivial) ?_)))))
    exact rfl
   refine AW2_cond Y (fun h16=>?_) (fun h16=>?_)
   ·replace H:=ite_then h16 H
    refine sg 1 Y (ra Y (rz [4] [.i 2] [] [] Y (QR ?_)))
    have z:=se H;subst z
    exact ⟨Y,⟨rt,trivial⟩,trivial⟩
   replace H:=ite_else (ne_true h16) H
   refine as2 [1,19,20,21] [.p (GColumn.ls cols1),.p (GValue.ls row0),.i (row0.length:Int),.i t21_0] [] [] Y (QK (ar 2 Y (rp Y (pb Y Y) (rm Y (rz [1,19,20,21] [_,_,_,.i (w64 (t21_0+1))] [] [] Y ?_)))))
   have z:=se H;subst z
   exact ⟨Y,Y⟩
  refine as2 [] [] [] [] Y (AW2_exit (thenQ2_exit ?_))
  have z:=se H;subst z
  exact ⟨Y,Y⟩
 rcases o'8 with y'9 | y'10
 ·obtain ⟨rfl,hs⟩:=hs
  refine ⟨by simp,?_⟩
  have z:=se H;subst z
  exact ⟨hs.1,hs.2⟩
 obtain ⟨rfl,rfl⟩:=hs
 refine ⟨by simp,?_⟩
 refine blockQ2_exit (sg 1 Y (ra Y (rz [4] [.i 0] [] [] Y (QR ?_))))
 have z:=se H;subst z
 exact ⟨⟨rt,trivial⟩,trivial⟩
noncomputable def g_kinds_Row (row0:List GValue) (cols1:List GColumn):Option (Int) :=
  (g_kinds_fits row0 cols1).bind fun r'1=>some r'1
theorem g_kinds_Row_ac {row0:List GValue} {cols1:List GColumn} {r:Int} (H:g_kinds_Row row0 cols1=some r):ACp Tryz.prog 30 [(GValue.ls row0),(GColumn.ls cols1)] (AV.int r):=by
 refine ACp_of (AC2_of_body (vs:=[.i r]) Tryz.func30 Y Y (lb Y) Y ?_) (fun _=>.same _)
 unfold g_kinds_Row at H
 refine as2 [0,1] [.p (GValue.ls row0),.p (GColumn.ls cols1)] [] [] Y (sg 1 Y (ra Y (rz [0,1] [_,_] [] [] Y (sg 4 Y (rm Y (rm Y (bindK H fun r'1 h1 H=>rp Y (pc Y Tryz.func44 Y (g_kinds_fits_ac h1) Y) (ra Y (rz [4] [.i r'1] [] [] Y (QR ?_))))))))))
 have z:=se H;subst z
 exact ⟨⟨rt,trivial⟩,trivial⟩
def g_table_keys_r7:List (List (Nat×Option Nat)):=[[(4,none)],[(19,some 0)],[(20,some 1)],[(6,none),(21,some 2)],[(21,some 2),(22,some 3)],[(21,some 2),(23,some 4)],[(24,some 5)],[(6,none),(25,some 6)],[(25,some 6),(26,some 7)],[(25,some 6),(27,some 8)],[(25,some 6),(28,some 9)],[(4,none),(25,some 6)],[(25,some 6),(30,some 11)],[(25,some 6),(31,some 12)],[(25,some 6),(32,some 13)]]
def g_table_keys_r7c:List (List Nat):=[[],[0],[0,1],[0,1,2],[0,1,2,3],[0,1,2,3,4],[0,1,2,3,4,5],[0,1,2,3,4,5,6],[0,1,2,3,4,5,6,7],[0,1,2,3,4,5,6,7,8],[0,1,2,3,4,5,6,7,8,9],[0,1,2,3,4,5,6],[0,1,2,3,4,5,6,11],[0,1,2,3,4,5,6,11,12],[0,1,2,3,4,5,6,11,12,13],[0,1,2,3,4,5,6,7,8,9,10,11,12,13,14],[0,1,2,3,4,5,6,7,8,9,10,11,12,13,14,15]]
noncomputable def g_table_keys_l1 (d0:Vector GCell 4) (t8_0:Int):Int→Option (Int⊕(Int⊕Unit))
  | t15_1=>(if t15_1 < (t8_0.toNat:Int) then if 0≤t15_1∧t15_1 < (t8_0.toNat:Int) then ((if ((vrd d0 t8_0.toNat).Full)=true then (if ((vrd d0 t15_1.toNat).Full)=true then if 0 < ((vrd d0 t15_1.toNat).Row).length then if 0 < ((vrd d0 t8_0.toNat).Row).length then some (decide ((lrd ((vrd d0 t15_1.toNat).Row) 0)=(lrd ((vrd d0 t8_0.toNat).Row) 0))) else none else none else some false) else some false)).bind fun g'1=>(if g'1=true then some (.inr (.inl (8:Int))) else some (.inl (w64 (t15_1+(1:Int))))) else none else some (.inr (.inr ())))
noncomputable def g_table_keys_l0 (d0:Vector GCell 4):Int→Option (Int⊕(Int⊕Unit))
  | t8_0=>(if t8_0 < (4:Int) then if 0≤t8_0∧t8_0 < (4:Int) then if 0≤t8_0∧t8_0≤(4:Int) then (loopO (g_table_keys_l1 d0 t8_0) (0:Int)).bind fun o'5=>match o'5 with | .inl y'6=>some (.inr (.inl y'6)) | .inr (y'7)=>some (.inl (w64 (t8_0+(1:Int)))) else none else none else some (.inr (.inr ())))
noncomputable def g_table_keys (d0:Vector GCell 4):Option (Int) :=
  (loopO (g_table_keys_l0 d0) (0:Int)).bind fun o'11=>match o'11 with | .inl y'12=>some y'12 | .inr (y'13)=>some (0:Int)
theorem g_table_keys_ac {d0:Vector GCell 4} {r:Int} (H:g_table_keys d0=some r):ACp Tryz.prog 20 [(.agg (d0.toList.flatMap GCell.cs))] (AV.int r):=by
 refine ACp_of (AC2_of_body (vs:=[.i r]) Tryz.func20 Y Y (lb Y) Y ?_) (fun _=>.same _)
 unfold g_table_keys at H
 refine as2 [0] [.g (d0.toList.flatMap GCell.cs)] [] [] Y (sg 2 Y (rq Y (bx 1 Y) (ra Y (rz [1] [.q 1 (0)] [1] [.pure (d0.toList.flatMap GCell.cs)] Y (QS (sg 2 Y (rp Y (pL U26 Y in_26 (Sub.refl _) (vfm_len GCell.len d0)) (rm Y (rz [1,7,8] [_,.g (d0.toList.flatMap GCell.cs),.i 0] [1] [_] Y (QB (as2 [1,7,8] [_,_,_] [1] [_] Y (bindK H fun o'11 h13 H=>AW2_loopO (fun a'8:Int=>(⟨[(1,.q 1 (0)),(7,.g (d0.toList.flatMap GCell.cs)),(8,.i a'8)],[(1,.pure (d0.toList.flatMap GCell.cs))],38⟩:TS)) (fun (o:Int⊕Unit) e s'=>match o with | .inl y'9=>e=Go.Exit.ret∧ResAll Tryz.prog s' [ResultVar.tmp 2] [.i y'9]∧HFits s' [] | .inr (y'10)=>e=Go.Exit.exit 0∧s'=(⟨[],[],38⟩:TS)) h13 Y (fun t8_0 x hx=>?_) (fun e s' hs=>?_)))))))))))))
 ·clear H
  have H:=hx
  clear hx
  unfold g_table_keys_l0 at H
  refine sg 1 Y (rp Y (pb Y Y) (rz [1,7,8,9] [.q 1 (0),.g (d0.toList.flatMap GCell.cs),.i t8_0,.b (decide (t8_0 < 4))] [1] [.pure (d0.toList.flatMap GCell.cs)] Y (QS (if2 H Y (fun h1 H=>?_) (fun h1 H=>?_)))))
  ·refine as2 [1,7,8] [_,_,_] [1] [_] Y (QK (QS (QB (sg 5 Y (rm Y (chkK H fun h2 H=>rp Y (u_ixaa Y Y U26 in_25 U25 Y Y Y (ixe h2) (ixn h2) (Sub.vfm GCell.len (ixn h2)) (GCell.len (vrd d0 t8_0.toNat))) (rq Y (al 4 in_25 one_25 zc_25 Y) (ra Y (rq Y (u_sw Y Y in_25 (GCell.len (vrd d0 t8_0.toNat)) (GCell.len GCell.zero)) (rz [1,3,4,7,8] [_,.i t8_0,.q 4 (0),_,_] [1,4] [_,.pure (GCell.cs (vrd d0 t8_0.toNat))] Y (sg 4 Y (rm Y (chkK H fun h3 H=>rp Y (u_cutah Y Y U26 in_25 Y Y (nl (vfm_len GCell.len d0)) (Sub.refl _) ((vfm_len GCell.len d0).trans (by decide)) (bT_i h3.1 Y) (toNat_le h3)) (rp Y (u_lens Y U73 Y Y Y (nl (vfm_len GCell.len d0))) (rm Y (rz [1,4,7,8,13,14,15] [_,_,_,_,.c (.sl 1 (0+0 * 2) t8_0.toNat 2),.i (t8_0.toNat:Int),.i 0] [1,4] [_,_] Y (QB (as2 [1,4,7,8,13,14,15] [_,_,_,_,_,_,_] [1,4] [_,_] Y (bindK H fun o'5 h12 H=>AW2_loopO (fun a'2:Int=>(⟨[(1,.q 1 (0)),(4,.q 4 (0)),(7,.g (d0.toList.flatMap GCell.cs)),(8,.i t8_0),(13,.c (.sl 1 (0+0 * 2) t8_0.toNat 2)),(14,.i (t8_0.toNat:Int)),(15,.i a'2)],[(1,.pure (d0.toList.flatMap GCell.cs)),(4,.pure (GCell.cs (vrd d0 t8_0.toNat)))],38⟩:TS)) (fun (o:Int⊕Unit) e s'=>match o with | .inl y'3=>e=Go.Exit.ret∧ResAll Tryz.prog s' [ResultVar.tmp 2] [.i y'3]∧HFits s' [] | .inr (y'4)=>e=Go.Exit.exit 2∧s'=(⟨[(1,.q 1 (0)),(7,.g (d0.toList.flatMap GCell.cs)),(8,.i t8_0)],[(1,.pure (d0.toList.flatMap GCell.cs))],38⟩:TS)) h12 Y (fun t15_1 x hx=>?_) (fun e s' hs=>?_))))))))))))))))))))
   ·clear H
    have H:=hx
    clear hx
    unfold g_table_keys_l1 at H
    refine sg 1 Y (rp Y (pb Y Y) (rz [1,4,7,8,13,14,15,16] [.q 1 (0),.q 4 (0),.g (d0.toList.flatMap GCell.cs),.i t8_0,.c (.sl 1 (0+0 * 2) t8_0.toNat 2),.i (t8_0.toNat:Int),.i t15_1,.b (decide (t15_1 < (t8_0.toNat:Int)))] [1,4] [.pure (d0.toList.flatMap GCell.cs),.pure (GCell.cs (vrd d0 t8_0.toNat))] Y (QS (if2 H Y (fun h4 H=>?_) (fun h4 H=>?_)))))
    ·refine as2 [1,4,7,8,13,14,15] [_,_,_,_,_,_,_] [1,4] [_,_] Y (QK (QS (QB (sg 4 Y (chkK H fun h5 H=>rp Y (u_ixs Y Y U73 in_25 Y Y (nl (vfm_len GCell.len d0)) Y (ixe h5) (ixn h5)) (rp Y (pL U25 Y in_25 ((Sub.refl _).trans (Sub.vfm GCell.len (Nat.lt_of_lt_of_le (ixn h5) (toNat_le h3)))) (GCell.len (vrd d0 t15_1.toNat))) (rq Y (al 6 in_25 one_25 zc_25 Y) (rq Y (u_sw Y Y in_25 (GCell.len (vrd d0 t15_1.toNat)) (GCell.len GCell.zero)) (rz [1,4,6,7,8,13,14,15] [_,_,.q 6 (0),_,_,_,_,_] [1,4,6] [_,_,.pure (GCell.cs (vrd d0 t15_1.toNat))] Y (QS (bindK H fun g'1 h10 H=>AW2_mid (⟨[(1,.q 1 (0)),(4,.q 4 (0)),(7,.g (d0.toList.flatMap GCell.cs)),(8,.i t8_0),(13,.c (.sl 1 (0+0 * 2) t8_0.toNat 2)),(14,.i (t8_0.toNat:Int)),(15,.i t15_1),(35,.b g'1)],[(1,.pure (d0.toList.flatMap GCell.cs)),(4,.pure (GCell.cs (vrd d0 t8_0.toNat)))],38⟩:TS) ?_ ?_)))))))))))
     ·clear H
      have H:=h10
      clear h10
      refine em2 H (fun h6 H=>?_) (fun h6 H=>?_)
      ·refine em2 H (fun h7 H=>?_) (fun h7 H=>?_)
       ·refine chkK H fun h8 H=>chkK H fun h9 H=>?_
        have z:=se H;subst z
        refine AW2_ghoQ (AW2_draw 15 [15,16] (fun k=>([.q 4 (0+0),.b ((vrd d0 t8_0.toNat).Full),.b ((vrd d0 t8_0.toNat).Full),.q 6 (0+0),.b ((vrd d0 t15_1.toNat).Full),.b ((vrd d0 t15_1.toNat).Full),.b ((vrd d0 t15_1.toNat).Full),.q 6 (0+1),.p (GValue.ls ((vrd d0 t15_1.toNat).Row)),.p (.rptr (((vrd d0 t15_1.toNat).Row).flatMap GValue.cs) (0 * 4)),.g (GValue.cs (lrd ((vrd d0 t15_1.toNat).Row) 0)),.q 4 (0+1),.p (GValue.ls ((vrd d0 t8_0.toNat).Row)),.p (.rptr (((vrd d0 t8_0.toNat).Row).flatMap GValue.cs) (0 * 4)),.g (GValue.cs (lrd ((vrd d0 t8_0.toNat).Row) 0))]:List TV).getD k TV.any) (fun k=>g_table_keys_r7.getD k []) [(1,none),(4,none),(7,none),(8,none),(13,none),(14,none),(15,none),(25,some 6),(29,some 10),(33,some 14)] [] (fun k=>g_table_keys_r7c.getD k []) mixed (by kernel_rfl) Y Y (a_op (g_x Y (x_p Y (uf U25 Y in_4 Y (GCell.len (vrd d0 t8_0.toNat))) Y)) (a_op (g_x Y (x_p Y (pl U4 Y (GCell.sub0 (vrd d0 t8_0.toNat))) Y)) (a_op (g_x Y (x_p Y (p_move Y Y) Y)) (a_op (g_on Y Y Y h6 Y (x_p Y (uf U25 Y in_4 Y (GCell.len (vrd d0 t15_1.toNat))) Y)) (a_op (g_on Y Y Y h6 Y (x_p Y (pl U4 Y (GCell.sub0 (vrd d0 t15_1.toNat))) Y)) (a_op (g_x Y (x_p Y (p_pkt Y Y h6 (.same _)) Y)) (a_op (g_x Y (x_p Y (p_move Y Y) Y)) (a_op (g_on Y Y Y h7 Y (x_p Y (uf U25 Y in_23 Y (GCell.len (vrd d0 t15_1.toNat))) Y)) (a_op (g_on Y Y Y h7 Y (x_p Y (pl U23 Y (GCell.sub1 (vrd d0 t15_1.toNat))) Y)) (a_op (g_on Y Y Y h7 Y (x_p Y (u_ixl Y Y U23 in_32 Y Y Y h8 (fne GValue.len (by decide) h8)) Y)) (a_op (g_on Y Y Y h7 Y (x_p Y (pL U32 Y in_32 (Sub.fm default GValue.len h8) (GValue.len (lrd ((vrd d0 t15_1.toNat).Row) 0))) Y)) (a_op (g_on Y Y Y h7 Y (x_p Y (uf U25 Y in_23 Y (GCell.len (vrd d0 t8_0.toNat))) Y)) (a_op (g_on Y Y Y h7 Y (x_p Y (pl U23 Y (GCell.sub1 (vrd d0 t8_0.toNat))) Y)) (a_op (g_on Y Y Y h7 Y (x_p Y (u_ixl Y Y U23 in_32 Y Y Y h9 (fne GValue.len (by decide) h9)) Y)) (a_op (g_on Y Y Y h7 Y (x_p Y (pL U32 Y in_32 (Sub.fm default GValue.len h9) (GValue.len (lrd ((vrd d0 t8_0.toNat).Row) 0))) Y)) (a_nil)))))))))))))))) (t_on Y Y Y Y h7 Y (PureD.opD (p_eqa (a:=(lrd ((vrd d0 t15_1.toNat).Row) 0)) (b:=(lrd ((vrd d0 t8_0.toNat).Row) 0)) Y eq_32 Y (by kernel_rfl) Y Y)) (t_op Y Y (PureD.opD (p_pkt Y Y h7 (.same _))) (t_gho (Gho_st (L:=[(1,.q 1 (0)),(4,.q 4 (0)),(7,.g (d0.toList.flatMap GCell.cs)),(8,.i t8_0),(13,.c (.sl 1 (0+0 * 2) t8_0.toNat 2)),(14,.i (t8_0.toNat:Int)),(15,.i t15_1),(35,.b (decide ((lrd ((vrd d0 t15_1.toNat).Row) 0)=(lrd ((vrd d0 t8_0.toNat).Row) 0))))]) (H:=[(1,.pure (d0.toList.flatMap GCell.cs)),(4,.pure (GCell.cs (vrd d0 t8_0.toNat)))]) (N:=38) Y ⟨TLes.same _,TLes.same _,TLes.same _,TLes.same _,TLes.same _,TLes.same _,TLes.same _,TLes.same _,trivial⟩ ⟨Y,Y,trivial⟩) ?_))))
        exact rfl
       have z:=se H;subst z
       refine AW2_ghoQ (AW2_draw 15 [15,16] (fun k=>([.q 4 (0+0),.b ((vrd d0 t8_0.toNat).Full),.b ((vrd d0 t8_0.toNat).Full),.q 6 (0+0),.b ((vrd d0 t15_1.toNat).Full),.b ((vrd d0 t15_1.toNat).Full),.b ((vrd d0 t15_1.toNat).Full),.p (.tup []),.p (.tup []),.p (.tup []),.p (.tup []),.p (.tup []),.p (.tup []),.p (.tup []),.p (.tup [])]:List TV).getD k TV.any) (fun k=>g_table_keys_r7.getD k []) [(1,none),(4,none),(7,none),(8,none),(13,none),(14,none),(15,none),(25,some 6),(29,some 10),(33,some 14)] [] (fun k=>g_table_keys_r7c.getD k []) mixed (by kernel_rfl) Y Y (a_op (g_x Y (x_p Y (uf U25 Y in_4 Y (GCell.len (vrd d0 t8_0.toNat))) Y)) (a_op (g_x Y (x_p Y (pl U4 Y (GCell.sub0 (vrd d0 t8_0.toNat))) Y)) (a_op (g_x Y (x_p Y (p_move Y Y) Y)) (a_op (g_on Y Y Y h6 Y (x_p Y (uf U25 Y in_4 Y (GCell.len (vrd d0 t15_1.toNat))) Y)) (a_op (g_on Y Y Y h6 Y (x_p Y (pl U4 Y (GCell.sub0 (vrd d0 t15_1.toNat))) Y)) (a_op (g_x Y (x_p Y (p_pkt Y Y h6 (.same _)) Y)) (a_op (g_x Y (x_p Y (p_move Y Y) Y)) (a_op (g_off Y Y Y Y Y (bfalse h7) Y Y) (a_op (g_off Y Y Y Y Y (bfalse h7) Y Y) (a_op (g_off Y Y Y Y Y (bfalse h7) Y Y) (a_op (g_off Y Y Y Y Y (bfalse h7) Y Y) (a_op (g_off Y Y Y Y Y (bfalse h7) Y Y) (a_op (g_off Y Y Y Y Y (bfalse h7) Y Y) (a_op (g_off Y Y Y Y Y (bfalse h7) Y Y) (a_op (g_off Y Y Y Y Y (bfalse h7) Y Y) (a_nil)))))))))))))))) (t_off Y Y Y Y (bfalse h7) Y Y (t_op Y Y (PureD.opD (p_pkf Y Y (bfalse h7) (.same _))) (t_gho (Gho_st (L:=[(1,.q 1 (0)),(4,.q 4 (0)),(7,.g (d0.toList.flatMap GCell.cs)),(8,.i t8_0),(13,.c (.sl 1 (0+0 * 2) t8_0.toNat 2)),(14,.i (t8_0.toNat:Int)),(15,.i t15_1),(35,.b false)]) (H:=[(1,.pure (d0.toList.flatMap GCell.cs)),(4,.pure (GCell.cs (vrd d0 t8_0.toNat)))]) (N:=38) Y ⟨TLes.same _,TLes.same _,TLes.same _,TLes.same _,TLes.same _,TLes.same _,TLes.same _,TLes.same _,trivial⟩ ⟨Y,Y,trivial⟩) ?_))))
       exact rfl
      have z:=se H;subst z
      refine AW2_ghoQ (AW2_draw 15 [15,16] (fun k=>([.q 4 (0+0),.b ((vrd d0 t8_0.toNat).Full),.b ((vrd d0 t8_0.toNat).Full),.p (.tup []),.p (.tup []),.b false,.b false,.p (.tup []),.p (.tup []),.p (.tup []),.p (.tup []),.p (.tup []),.p (.tup []),.p (.tup []),.p (.tup [])]:List TV).getD k TV.any) (fun k=>g_table_keys_r7.getD k []) [(1,none),(4,none),(7,none),(8,none),(13,none),(14,none),(15,none),(25,some 6),(29,some 10),(33,some 14)] [] (fun k=>g_table_keys_r7c.getD k []) mixed (by kernel_rfl) Y Y (a_op (g_x Y (x_p Y (uf U25 Y in_4 Y (GCell.len (vrd d0 t8_0.toNat))) Y)) (a_op (g_x Y (x_p Y (pl U4 Y (GCell.sub0 (vrd d0 t8_0.toNat))) Y)) (a_op (g_x Y (x_p Y (p_move Y Y) Y)) (a_op (g_off Y Y Y Y Y (bfalse h6) Y Y) (a_op (g_off Y Y Y Y Y (bfalse h6) Y Y) (a_op (g_x Y (x_p Y (p_pkf Y Y (bfalse h6) (.same _)) Y)) (a_op (g_x Y (x_p Y (p_move Y Y) Y)) (a_op (g_off Y Y Y Y Y (bfalse (by decide)) Y Y) (a_op (g_off Y Y Y Y Y (bfalse (by decide)) Y Y) (a_op (g_off Y Y Y Y Y (bfalse (by decide)) Y Y) (a_op (g_off Y Y Y Y Y (bfalse (by decide)) Y Y) (a_op (g_off Y Y Y Y Y (bfalse (by decide)) Y Y) (a_op (g_off Y Y Y Y Y (bfalse (by decide)) Y Y) (a_op (g_off Y Y Y Y Y (bfalse (by decide)) Y Y) (a_op (g_off Y Y Y Y Y (bfalse (by decide)) Y Y) (a_nil)))))))))))))))) (t_off Y Y Y Y (bfalse (by decide)) Y Y (t_op Y Y (PureD.opD (p_pkf Y Y (bfalse (by decide)) (.same _))) (t_gho (Gho_st (L:=[(1,.q 1 (0)),(4,.q 4 (0)),(7,.g (d0.toList.flatMap GCell.cs)),(8,.i t8_0),(13,.c (.sl 1 (0+0 * 2) t8_0.toNat 2)),(14,.i (t8_0.toNat:Int)),(15,.i t15_1),(35,.b false)]) (H:=[(1,.pure (d0.toList.flatMap GCell.cs)),(4,.pure (GCell.cs (vrd d0 t8_0.toNat)))]) (N:=38) Y ⟨TLes.same _,TLes.same _,TLes.same _,TLes.same _,TLes.same _,TLes.same _,TLes.same _,TLes.same _,trivial⟩ ⟨Y,Y,trivial⟩) ?_))))
      exact rfl
     refine AW2_cond Y (fun h11=>?_) (fun h11=>?_)
     ·replace H:=ite_then h11 H
      refine sg 1 Y (ra Y (rz [2] [.i 8] [] [] Y (QR ?_)))
      have z:=se H;subst z
      exact ⟨Y,⟨rt,trivial⟩,trivial⟩
     replace H:=ite_else (ne_true h11) H
     refine as2 [1,4,7,8,13,14,15] [.q 1 (0),.q 4 (0),.g (d0.toList.flatMap GCell.cs),.i t8_0,.c (.sl 1 (0+0 * 2) t8_0.toNat 2),.i (t8_0.toNat:Int),.i t15_1] [1,4] [.pure (d0.toList.flatMap GCell.cs),.pure (GCell.cs (vrd d0 t8_0.toNat))] Y (QK (ar 2 Y (rp Y (pb Y Y) (rm Y (rz [1,4,7,8,13,14,15] [_,_,_,_,_,_,.i (w64 (t15_1+1))] [1,4] [_,_] Y ?_)))))
     have z:=se H;subst z
     exact ⟨Y,Y⟩
    refine as2 [1,7,8] [_,_,_] [1] [_] Y (AW2_exit (thenQ2_exit ?_))
    have z:=se H;subst z
    exact ⟨Y,Y⟩
   rcases o'5 with y'6 | y'7
   ·obtain ⟨rfl,hs⟩:=hs
    refine ⟨by simp,?_⟩
    have z:=se H;subst z
    exact ⟨Y,hs.1,hs.2⟩
   obtain ⟨rfl,rfl⟩:=hs
   refine ⟨by simp,?_⟩
   refine blockQ2_exit (ar 2 Y (rp Y (pb Y Y) (rm Y (rz [1,7,8] [.q 1 (0),.g (d0.toList.flatMap GCell.cs),.i (w64 (t8_0+1))] [1] [.pure (d0.toList.flatMap GCell.cs)] Y ?_))))
   have z:=se H;subst z
   exact ⟨Y,Y⟩
  refine as2 [] [] [] [] Y (AW2_exit (thenQ2_exit ?_))
  have z:=se H;subst z
  exact ⟨Y,Y⟩
 rcases o'11 with y'12 | y'13
 ·obtain ⟨rfl,hs⟩:=hs
  refine ⟨by simp,?_⟩
  have z:=se H;subst z
  exact ⟨hs.1,hs.2⟩
 obtain ⟨rfl,rfl⟩:=hs
 refine ⟨by simp,?_⟩
 refine blockQ2_exit (sg 1 Y (ra Y (rz [2] [.i 0] [] [] Y (QR ?_))))
 have z:=se H;subst z
 exact ⟨⟨rt,trivial⟩,trivial⟩
noncomputable def g_table_Check_l1 (t0:GTable) (t45_0:Int):Int→Option (Int⊕(Int⊕Unit))
  | t49_1=>(if t49_1 < (4:Int) then (show Option (Int⊕Unit) from if 0≤t49_1∧t49_1 < (4:Int) then (if ((!((vrd (vrd t0.Drawers t45_0.toNat) t49_1.toNat).Full))=true)∧((((vrd (vrd t0.Drawers t45_0.toNat) t49_1.toNat).Row).length:Int) > (0:Int)) then some (.inl (3:Int)) else (if (!((vrd (vrd t0.Drawers t45_0.toNat) t49_1.toNat).Full))=true then some (.inr ()) else (g_kinds_Row ((vrd (vrd t0.Drawers t45_0.toNat) t49_1.toNat).Row) t0.Cols).bind fun r'5=>(if r'5≠(0:Int) then some (.inl r'5) else some (.inr ())))) else none).bind fun o'7=>match o'7 with | .inl y'6=>some (.inr (.inl y'6)) | .inr j'4=>some (.inl (w64 (t49_1+(1:Int)))) else some (.inr (.inr ())))
noncomputable def g_table_Check_l0 (t0:GTable):Int→Option (Int⊕(Int⊕Unit))
  | t45_0=>(if t45_0 < (2:Int) then if 0≤t45_0∧t45_0 < (2:Int) then (loopO (g_table_Check_l1 t0 t45_0) (0:Int)).bind fun o'11=>match o'11 with | .inl y'12=>some (.inr (.inl y'12)) | .inr (y'13)=>(g_table_keys (vrd t0.Drawers t45_0.toNat)).bind fun r'14=>(if r'14≠(0:Int) then some (.inr (.inl r'14)) else some (.inl (w64 (t45_0+(1:Int))))) else none else some (.inr (.inr ())))
noncomputable def g_table_Check (t0:GTable):Option (Int) :=
  (if (!t0.There)=true then some (5:Int) else (g_lex_Check ({ { GToken.zero with Kind:=(1:Int) } with Text:=t0.Name })).bind fun r'1=>(if r'1≠(0:Int) then some (3:Int) else (g_kinds_Columns t0.Cols).bind fun r'2=>(if r'2≠(0:Int) then some r'2 else ((if (t0.Cols.length:Int)=(0:Int) then some true else if 0 < t0.Cols.length then (if (lrd t0.Cols 0).Kind≠(2:Int) then some true else if 0 < t0.Cols.length then some ((lrd t0.Cols 0).Null) else none) else none)).bind fun g'3=>(if g'3=true then some (3:Int) else (loopO (g_table_Check_l0 t0) (0:Int)).bind fun o'18=>match o'18 with | .inl y'19=>some y'19 | .inr (y'20)=>some (0:Int)))))
theorem g_table_Check_ac {t0:GTable} {r:Int} (H:g_table_Check t0=some r):ACp Tryz.prog 25 [(.agg (GTable.cs t0))] (AV.int r):=by
 refine ACp_of (AC2_of_body (vs:=[.i r]) Tryz.func25 Y Y (lb Y) Y ?_) (fun _=>.same _)
 unfold g_table_Check at H
 refine as2 [0] [.g (GTable.cs t0)] [] [] Y (sg 2 Y (rq Y (bx 1 Y) (ra Y (rz [1] [.q 1 (0)] [1] [.pure (GTable.cs t0)] Y (QS (sg 3 Y (rf Y U29 Y in_4 Y Y (GTable.len t0) (rp Y (pl U4 Y (GTable.sub0 t0)) (rp Y (p_not Y Y) (rz [1,12] [_,.b (!t0.There)] [1] [_] Y (AW2_cond Y (fun h1=>?_) (fun h1=>?_))))))))))))
 ·replace H:=ite_then h1 H
  refine sg 1 Y (ra Y (rz [2] [.i 5] [] [] Y (QR ?_)))
  have z:=se H;subst z
  exact ⟨⟨rt,trivial⟩,trivial⟩
 replace H:=ite_else (ne_true h1) H
 refine as2 [1] [.q 1 (0)] [1] [.pure (GTable.cs t0)] Y (QK (QS (sg 5 Y (rf Y U29 Y in_9 Y Y (GTable.len t0) (rp Y (pl U9 Y (GTable.sub1 t0)) (rp Y (u_bld Y in_79 one_79 zc_79 pl_79 Y (af_cons Y Y (GToken.upd0 GToken.zero 1) (af_cons Y Y (GToken.upd1 ((GToken.w0 GToken.zero 1)) t0.Name) Y))) (bindK H fun r'1 h2 H=>rp Y (pc Y Tryz.func41 Y (g_lex_Check_ac h2) Y) (rp Y (pn Y) (rz [1,17] [_,.b (decide (r'1≠0))] [1] [_] Y (if2 H Y (fun h3 H=>?_) (fun h3 H=>?_)))))))))))
 ·refine sg 1 Y (ra Y (rz [2] [.i 3] [] [] Y (QR ?_)))
  have z:=se H;subst z
  exact ⟨⟨rt,trivial⟩,trivial⟩
 refine as2 [1] [_] [1] [_] Y (QK (QS (sg 4 Y (rf Y U29 Y in_22 Y Y (GTable.len t0) (rp Y (pl U22 Y (GTable.sub2 t0)) (bindK H fun r'2 h4 H=>rp Y (pc Y Tryz.func28 Y (g_kinds_Columns_ac h4) Y) (ra Y (rz [1,3] [_,.i r'2] [1] [_] Y (sg 2 Y (rm Y (rp Y (pn Y) (rz [1,3,22] [_,_,.b (decide (r'2≠0))] [1] [_] Y (if2 H Y (fun h5 H=>?_) (fun h5 H=>?_))))))))))))))
 ·refine sg 2 Y (rm Y (ra Y (rz [2] [.i r'2] [] [] Y (QR ?_))))
  have z:=se H;subst z
  exact ⟨⟨rt,trivial⟩,trivial⟩
 refine as2 [1] [_] [1] [_] Y (QK (QS (QS (bindK H fun g'3 h11 H=>AW2_mid (⟨[(1,.q 1 (0)),(42,.b g'3)],[(1,.pure (GTable.cs t0))],79⟩:TS) ?_ ?_))))
 ·clear H
  have H:=h11
  clear h11
  refine ar 19 Y (rf Y U29 Y in_22 Y Y (GTable.len t0) (rp Y (pl U22 Y (GTable.sub2 t0)) (rp Y (p_lenl Y U22 Y Y) (rp Y (pi Y) (rm Y (em2 H (fun h7 H=>?_) (fun h7 H=>?_)))))))
  ·iterate 6 (refine rO Y (dT h7) Y ?_)
   refine rp Y (p_pkt Y Y (dT h7) (.same _)) (rm Y ?_)
   iterate 5 (refine rO Y rfl Y ?_)
   refine rp Y (p_pkt Y Y Y (.same _)) (rs [1,42] [.q 1 (0),.b true] [1] [.pure (GTable.cs t0)] Y ?_)
   have z:=se H;subst z
   exact RunW_nil rfl
  refine rn Y (dF h7) Y (uf U29 Y in_22 Y (GTable.len t0)) (rn Y (dF h7) Y (pl U22 Y (GTable.sub2 t0)) (chkK H fun h8 H=>rn Y (dF h7) Y (u_ixl Y Y U22 in_63 Y Y Y h8 (fne GColumn.len (by decide) h8)) (rn Y (dF h7) Y (u_far Y Y U63 Y in_3 nz Y) (rn Y (dF h7) Y (pl U3 Y ((Sub.fm default GColumn.len h8).trans (GColumn.sub1 (lrd t0.Cols 0)))) (rn Y (dF h7) Y (pn Y) (rp Y (p_pkf Y Y (dF h7) (.same _)) (rm Y (em2 H (fun h9 H=>?_) (fun h9 H=>?_)))))))))
  ·iterate 5 (refine rO Y (dT h9) Y ?_)
   refine rp Y (p_pkt Y Y (dT h9) (.same _)) (rs [1,42] [.q 1 (0),.b true] [1] [.pure (GTable.cs t0)] Y ?_)
   have z:=se H;subst z
   exact RunW_nil rfl
  refine rn Y (dF h9) Y (uf U29 Y in_22 Y (GTable.len t0)) (rn Y (dF h9) Y (pl U22 Y (GTable.sub2 t0)) (chkK H fun h10 H=>rn Y (dF h9) Y (u_ixl Y Y U22 in_63 Y Y Y h10 (fne GColumn.len (by decide) h10)) (rn Y (dF h9) Y (u_far Y Y U63 Y in_4 nz Y) (rn Y (dF h9) Y (pl U4 Y ((Sub.fm default GColumn.len h10).trans (GColumn.sub2 (lrd t0.Cols 0)))) (rp Y (p_pkf Y Y (dF h9) (.same _)) (rs [1,42] [.q 1 (0),.b ((lrd t0.Cols 0).Null)] [1] [.pure (GTable.cs t0)] Y ?_))))))
  have z:=se H;subst z
  exact RunW_nil rfl
 refine AW2_cond Y (fun h12=>?_) (fun h12=>?_)
 ·replace H:=ite_then h12 H
  refine sg 1 Y (ra Y (rz [2] [.i 3] [] [] Y (QR ?_)))
  have z:=se H;subst z
  exact ⟨⟨rt,trivial⟩,trivial⟩
 replace H:=ite_else (ne_true h12) H
 refine as2 [1] [.q 1 (0)] [1] [.pure (GTable.cs t0)] Y (QK (QS (sg 3 Y (rf Y U29 Y in_27 Y Y (GTable.len t0) (rp Y (pL U27 Y in_27 (GTable.sub3 t0) (vfm_len (fun x=>(vfm_len GCell.len x)) t0.Drawers)) (rm Y (rz [1,44,45] [_,.g (t0.Drawers.toList.flatMap (fun v:Vector GCell 4=>v.toList.flatMap GCell.cs)),.i 0] [1] [_] Y (QB (as2 [1,44,45] [_,_,_] [1] [_] Y (bindK H fun o'18 h26 H=>AW2_loopO (fun a'15:Int=>(⟨[(1,.q 1 (0)),(44,.g (t0.Drawers.toList.flatMap (fun v:Vector GCell 4=>v.toList.flatMap GCell.cs))),(45,.i a'15)],[(1,.pure (GTable.cs t0))],79⟩:TS)) (fun (o:Int⊕Unit) e s'=>match o with | .inl y'16=>e=Go.Exit.ret∧ResAll Tryz.prog s' [ResultVar.tmp 2] [.i y'16]∧HFits s' [] | .inr (y'17)=>e=Go.Exit.exit 0∧s'=(⟨[],[],79⟩:TS)) h26 Y (fun t45_0 x hx=>?_) (fun e s' hs=>?_)))))))))))
 ·clear H
  have H:=hx
  clear hx
  unfold g_table_Check_l0 at H
  refine sg 1 Y (rp Y (pb Y Y) (rz [1,44,45,46] [.q 1 (0),.g (t0.Drawers.toList.flatMap (fun v:Vector GCell 4=>v.toList.flatMap GCell.cs)),.i t45_0,.b (decide (t45_0 < 2))] [1] [.pure (GTable.cs t0)] Y (QS (if2 H Y (fun h13 H=>?_) (fun h13 H=>?_)))))
  ·refine as2 [1,44,45] [_,_,_] [1] [_] Y (QK (QS (QB (sg 3 Y (chkK H fun h14 H=>rp Y (u_ixaa Y Y U27 in_26 U26 Y Y Y (ixe h14) (ixn h14) (Sub.vfm (fun x=>(vfm_len GCell.len x)) (ixn h14)) (vfm_len GCell.len (vrd t0.Drawers t45_0.toNat))) (rq Y (al 5 in_26 one_26 zc_26 Y) (rq Y (u_sw Y Y in_26 (vfm_len GCell.len (vrd t0.Drawers t45_0.toNat)) (vfm_len GCell.len (Vector.replicate 4 GCell.zero))) (rz [1,5,44,45] [_,.q 5 (0),_,_] [1,5] [_,.pure (((vrd t0.Drawers t45_0.toNat).toList).flatMap GCell.cs)] Y (QS (sg 2 Y (rp Y (pL U26 Y in_26 (Sub.refl _) (vfm_len GCell.len (vrd t0.Drawers t45_0.toNat))) (rm Y (rz [1,5,44,45,48,49] [_,_,_,_,.g (((vrd t0.Drawers t45_0.toNat).toList).flatMap GCell.cs),.i 0] [1,5] [_,_] Y (QB (as2 [1,5,44,45,48,49] [_,_,_,_,_,_] [1,5] [_,_] Y (bindK H fun o'11 h23 H=>AW2_loopO (fun a'8:Int=>(⟨[(1,.q 1 (0)),(5,.q 5 (0)),(44,.g (t0.Drawers.toList.flatMap (fun v:Vector GCell 4=>v.toList.flatMap GCell.cs))),(45,.i t45_0),(48,.g (((vrd t0.Drawers t45_0.toNat).toList).flatMap GCell.cs)),(49,.i a'8)],[(1,.pure (GTable.cs t0)),(5,.pure (((vrd t0.Drawers t45_0.toNat).toList).flatMap GCell.cs))],79⟩:TS)) (fun (o:Int⊕Unit) e s'=>match o with | .inl y'9=>e=Go.Exit.ret∧ResAll Tryz.prog s' [ResultVar.tmp 2] [.i y'9]∧HFits s' [] | .inr (y'10)=>e=Go.Exit.exit 2∧s'=(⟨[(1,.q 1 (0)),(5,.q 5 (0)),(44,.g (t0.Drawers.toList.flatMap (fun v:Vector GCell 4=>v.toList.flatMap GCell.cs))),(45,.i t45_0)],[(1,.pure (GTable.cs t0)),(5,.pure (((vrd t0.Drawers t45_0.toNat).toList).flatMap GCell.cs))],79⟩:TS)) h23 Y (fun t49_1 x hx=>?_) (fun e s' hs=>?_)))))))))))))))))
   ·clear H
    have H:=hx
    clear hx
    unfold g_table_Check_l1 at H
    refine sg 1 Y (rp Y (pb Y Y) (rz [1,5,44,45,48,49,50] [.q 1 (0),.q 5 (0),.g (t0.Drawers.toList.flatMap (fun v:Vector GCell 4=>v.toList.flatMap GCell.cs)),.i t45_0,.g (((vrd t0.Drawers t45_0.toNat).toList).flatMap GCell.cs),.i t49_1,.b (decide (t49_1 < 4))] [1,5] [.pure (GTable.cs t0),.pure (((vrd t0.Drawers t45_0.toNat).toList).flatMap GCell.cs)] Y (QS (if2 H Y (fun h15 H=>?_) (fun h15 H=>?_)))))
    ·refine as2 [1,5,44,45,48,49] [_,_,_,_,_,_] [1,5] [_,_] Y (QK (QS (bindK H fun o'7 h16 H=>AW2_join (fun j'4:Unit=>(⟨[(1,.q 1 (0)),(5,.q 5 (0)),(44,.g (t0.Drawers.toList.flatMap (fun v:Vector GCell 4=>v.toList.flatMap GCell.cs))),(45,.i t45_0),(48,.g (((vrd t0.Drawers t45_0.toNat).toList).flatMap GCell.cs)),(49,.i t49_1)],[(1,.pure (GTable.cs t0)),(5,.pure (((vrd t0.Drawers t45_0.toNat).toList).flatMap GCell.cs))],79⟩:TS)) (fun r e s'=>e=Go.Exit.ret∧ResAll Tryz.prog s' [ResultVar.tmp 2] [.i r]∧HFits s' []) (x:=o'7) ?_ (fun j'4 hy=>?_) (fun y'6 e s' hy hs=>?_))))
     ·clear H
      have H:=h16
      clear h16
      refine QB (sg 3 Y (chkK H fun h17 H=>rp Y (u_ixaa Y Y U26 in_25 U25 Y Y Y (ixe h17) (ixn h17) (Sub.vfm GCell.len (ixn h17)) (GCell.len (vrd (vrd t0.Drawers t45_0.toNat) t49_1.toNat))) (rq Y (al 7 in_25 one_25 zc_25 Y) (rq Y (u_sw Y Y in_25 (GCell.len (vrd (vrd t0.Drawers t45_0.toNat) t49_1.toNat)) (GCell.len GCell.zero)) (rz [1,5,7,44,45,48,49] [.q 1 (0),.q 5 (0),.q 7 (0),.g (t0.Drawers.toList.flatMap (fun v:Vector GCell 4=>v.toList.flatMap GCell.cs)),.i t45_0,.g (((vrd t0.Drawers t45_0.toNat).toList).flatMap GCell.cs),.i t49_1] [1,5,7] [.pure (GTable.cs t0),.pure (((vrd t0.Drawers t45_0.toNat).toList).flatMap GCell.cs),.pure (GCell.cs (vrd (vrd t0.Drawers t45_0.toNat) t49_1.toNat))] Y (QS (QS (AW2_mid (⟨[(1,.q 1 (0)),(5,.q 5 (0)),(7,.q 7 (0)),(44,.g (t0.Drawers.toList.flatMap (fun v:Vector GCell 4=>v.toList.flatMap GCell.cs))),(45,.i t45_0),(48,.g (((vrd t0.Drawers t45_0.toNat).toList).flatMap GCell.cs)),(49,.i t49_1),(60,.b (decide (((!((vrd (vrd t0.Drawers t45_0.toNat) t49_1.toNat).Full))=true)∧((((vrd (vrd t0.Drawers t45_0.toNat) t49_1.toNat).Row).length:Int) > 0))))],[(1,.pure (GTable.cs t0)),(5,.pure (((vrd t0.Drawers t45_0.toNat).toList).flatMap GCell.cs)),(7,.pure (GCell.cs (vrd (vrd t0.Drawers t45_0.toNat) t49_1.toNat)))],79⟩:TS) ?_ ?_))))))))
      ·refine ar 9 Y (rf Y U25 Y in_4 Y Y (GCell.len (vrd (vrd t0.Drawers t45_0.toNat) t49_1.toNat)) (rp Y (pl U4 Y (GCell.sub0 (vrd (vrd t0.Drawers t45_0.toNat) t49_1.toNat))) (rp Y (p_not Y Y) (rm Y ?_))))
       refine (Classical.em ((!((vrd (vrd t0.Drawers t45_0.toNat) t49_1.toNat).Full))=true)).elim (fun h18=>?_) (fun h18=>?_)
       ·exact rn Y h18 Y (uf U25 Y in_23 Y (GCell.len (vrd (vrd t0.Drawers t45_0.toNat) t49_1.toNat))) (rn Y h18 Y (pl U23 Y (GCell.sub1 (vrd (vrd t0.Drawers t45_0.toNat) t49_1.toNat))) (rn Y h18 Y (p_lenl Y U23 Y Y) (rn Y h18 Y (pb Y Y) (rp Y (p_pkt Y Y h18 (tb ((and_l (q:=(((vrd (vrd t0.Drawers t45_0.toNat) t49_1.toNat).Row).length:Int) > 0) h18)))) (rend Y Y)))))
       iterate 4 (refine rO Y (bfalse h18) Y ?_)
       exact rp Y (p_pkf Y Y (bfalse h18) (tb (dF (p:=((!((vrd (vrd t0.Drawers t45_0.toNat) t49_1.toNat).Full))=true)∧((((vrd (vrd t0.Drawers t45_0.toNat) t49_1.toNat).Row).length:Int) > 0)) (fun x=>h18 x.1)).symm)) (rend Y Y)
      refine if2 H Y (fun h19 H=>?_) (fun h19 H=>?_)
      ·refine sg 1 Y (ra Y (rz [2] [.i 3] [] [] Y (QR ?_)))
       have z:=se H;subst z
       exact ⟨Y,⟨rt,trivial⟩,trivial⟩
      refine as2 [1,5,7,44,45,48,49] [_,_,_,_,_,_,_] [1,5,7] [_,_,_] Y (QK (QS (sg 3 Y (rf Y U25 Y in_4 Y Y (GCell.len (vrd (vrd t0.Drawers t45_0.toNat) t49_1.toNat)) (rp Y (pl U4 Y (GCell.sub0 (vrd (vrd t0.Drawers t45_0.toNat) t49_1.toNat))) (rp Y (p_not Y Y) (rz [1,5,7,44,45,48,49,63] [_,_,_,_,_,_,_,.b (!((vrd (vrd t0.Drawers t45_0.toNat) t49_1.toNat).Full))] [1,5,7] [_,_,_] Y (AW2_cond Y (fun h20=>?_) (fun h20=>?_)))))))))
      ·replace H:=ite_then h20 H
       refine as2 [1,5,44,45,48,49] [.q 1 (0),.q 5 (0),.g (t0.Drawers.toList.flatMap (fun v:Vector GCell 4=>v.toList.flatMap GCell.cs)),.i t45_0,.g (((vrd t0.Drawers t45_0.toNat).toList).flatMap GCell.cs),.i t49_1] [1,5] [.pure (GTable.cs t0),.pure (((vrd t0.Drawers t45_0.toNat).toList).flatMap GCell.cs)] Y (AW2_exit (thenQ2_exit (blockQ2_exit ?_)))
       have z:=se H;subst z
       exact ⟨Y,Y⟩
      replace H:=ite_else (ne_true h20) H
      refine as2 [1,5,7,44,45,48,49] [.q 1 (0),.q 5 (0),.q 7 (0),.g (t0.Drawers.toList.flatMap (fun v:Vector GCell 4=>v.toList.flatMap GCell.cs)),.i t45_0,.g (((vrd t0.Drawers t45_0.toNat).toList).flatMap GCell.cs),.i t49_1] [1,5,7] [.pure (GTable.cs t0),.pure (((vrd t0.Drawers t45_0.toNat).toList).flatMap GCell.cs),.pure (GCell.cs (vrd (vrd t0.Drawers t45_0.toNat) t49_1.toNat))] Y (QK (sg 6 Y (rf Y U25 Y in_23 Y Y (GCell.len (vrd (vrd t0.Drawers t45_0.toNat) t49_1.toNat)) (rp Y (pl U23 Y (GCell.sub1 (vrd (vrd t0.Drawers t45_0.toNat) t49_1.toNat))) (rf Y U29 Y in_22 Y Y (GTable.len t0) (rp Y (pl U22 Y (GTable.sub2 t0)) (bindK H fun r'5 h21 H=>rp Y (pc Y Tryz.func30 Y (g_kinds_Row_ac h21) Y) (ra Y (rz [1,5,8,44,45,48,49] [_,_,.i r'5,_,_,_,_] [1,5] [_,_] Y (sg 2 Y (rm Y (rp Y (pn Y) (rz [1,5,8,44,45,48,49,70] [_,_,_,_,_,_,_,.b (decide (r'5≠0))] [1,5] [_,_] Y (if2 H Y (fun h22 H=>?_) (fun h22 H=>?_)))))))))))))))
      ·refine sg 2 Y (rm Y (ra Y (rz [2] [.i r'5] [] [] Y (QR ?_))))
       have z:=se H;subst z
       exact ⟨Y,⟨rt,trivial⟩,trivial⟩
      refine as2 [1,5,44,45,48,49] [_,_,_,_,_,_] [1,5] [_,_] Y (QK ?_)
      have z:=se H;subst z
      exact ⟨Y,Y⟩
     ·subst hy
      refine ar 2 Y (rp Y (pb Y Y) (rm Y (rz [1,5,44,45,48,49] [.q 1 (0),.q 5 (0),.g (t0.Drawers.toList.flatMap (fun v:Vector GCell 4=>v.toList.flatMap GCell.cs)),.i t45_0,.g (((vrd t0.Drawers t45_0.toNat).toList).flatMap GCell.cs),.i (w64 (t49_1+1))] [1,5] [.pure (GTable.cs t0),.pure (((vrd t0.Drawers t45_0.toNat).toList).flatMap GCell.cs)] Y ?_)))
      have z:=se H;subst z
      exact ⟨Y,Y⟩
     subst hy
     obtain ⟨rfl,hs⟩:=hs
     have z:=se H;subst z
     exact ⟨Y,hs.1,hs.2⟩
    refine as2 [1,5,44,45] [_,_,_,_] [1,5] [_,_] Y (AW2_exit (thenQ2_exit ?_))
    have z:=se H;subst z
    exact ⟨Y,Y⟩
   rcases o'11 with y'12 | y'13
   ·obtain ⟨rfl,hs⟩:=hs
    refine ⟨by simp,?_⟩
    have z:=se H;subst z
    exact ⟨Y,hs.1,hs.2⟩
   obtain ⟨rfl,rfl⟩:=hs
   refine ⟨by simp,?_⟩
   refine blockQ2_exit (sg 3 Y (rp Y (pL U26 Y in_26 (Sub.refl _) (vfm_len GCell.len (vrd t0.Drawers t45_0.toNat))) (bindK H fun r'14 h24 H=>rp Y (pc Y Tryz.func20 Y (g_table_keys_ac h24) Y) (ra Y (rz [1,9,44,45] [.q 1 (0),.i r'14,.g (t0.Drawers.toList.flatMap (fun v:Vector GCell 4=>v.toList.flatMap GCell.cs)),.i t45_0] [1] [.pure (GTable.cs t0)] Y (sg 2 Y (rm Y (rp Y (pn Y) (rz [1,9,44,45,76] [_,_,_,_,.b (decide (r'14≠0))] [1] [_] Y (if2 H Y (fun h25 H=>?_) (fun h25 H=>?_)))))))))))
   ·refine sg 2 Y (rm Y (ra Y (rz [2] [.i r'14] [] [] Y (QR ?_))))
    have z:=se H;subst z
    exact ⟨Y,⟨rt,trivial⟩,trivial⟩
   refine as2 [1,44,45] [_,_,_] [1] [_] Y (QK (ar 2 Y (rp Y (pb Y Y) (rm Y (rz [1,44,45] [_,_,.i (w64 (t45_0+1))] [1] [_] Y ?_)))))
   have z:=se H;subst z
   exact ⟨Y,Y⟩
  refine as2 [] [] [] [] Y (AW2_exit (thenQ2_exit ?_))
  have z:=se H;subst z
  exact ⟨Y,Y⟩
 rcases o'18 with y'19 | y'20
 ·obtain ⟨rfl,hs⟩:=hs
  refine ⟨by simp,?_⟩
  have z:=se H;subst z
  exact ⟨hs.1,hs.2⟩
 obtain ⟨rfl,rfl⟩:=hs
 refine ⟨by simp,?_⟩
 refine blockQ2_exit (sg 1 Y (ra Y (rz [2] [.i 0] [] [] Y (QR ?_))))
 have z:=se H;subst z
 exact ⟨⟨rt,trivial⟩,trivial⟩
noncomputable def g_table_row (r0:List GValue):Option ((List GValue)) :=
  if room (([]:List GValue).length+r0.length) 40 then some (([]:List GValue)++r0) else none
theorem g_table_row_ac2 {r0:List GValue} {r:(List GValue)} (H:g_table_row r0=some r):AC2 Tryz.prog 39 (pureT [(GValue.ls r0)]) [] (.c (.own 2 r.length 4)) [(2,.pure (r.flatMap GValue.cs))]:=by
 refine AC2_of_body (vs:=[.c (.own 2 r.length 4)]) Tryz.func39 Y Y (lb Y) Y ?_
 unfold g_table_row at H
 refine as2 [0] [.p (GValue.ls r0)] [] [] Y (sg 1 Y (rp Y (p_asgn Y) (rz [0] [_] [] [] Y (sg 4 Y (rq Y (MakeD.opD (n_bs0 3 Y U23 in_32) Y Y Y Y) (rm Y (chkK H fun h1 H=>rq Y (u_app [3] Y Y Y Y U23 U23 in_32 Y Y Y (fm_length GValue.len ([]:List GValue)) (by decide) Y (fm_length GValue.len r0) h1 (by decide) Y Y (fapp GValue.cs ([]:List GValue) r0) (lapp ([]:List GValue) r0)) (ra Y (rs [2] [.c (.own 3 (([]:List GValue)++r0).length 4)] [3] [.pure ((([]:List GValue)++r0).flatMap GValue.cs)] Y (RunW_gho (Gho_ren 3 2 Y Y Y Y Y) (rz [2] [.c (.own 2 (([]:List GValue)++r0).length 4)] [2] [.pure ((([]:List GValue)++r0).flatMap GValue.cs)] Y (as2 [2] [_] [2] [_] Y (QR ?_)))))))))))))
 have z:=se H;subst z
 exact ⟨⟨rt,trivial⟩,⟨Y,trivial⟩⟩
theorem g_table_row_ac {r0:List GValue} {r:(List GValue)} (H:g_table_row r0=some r):ACp Tryz.prog 39 [(GValue.ls r0)] (GValue.ls r):=ACp_pub (g_table_row_ac2 H) (fun _ _ hm=>lent_own hm rfl (fm_length (fun x=>(GValue.len x)) r) (by decide))
noncomputable def g_table_fresh_l1 (t11_0:Int):Int×GTable→Option ((Int×GTable)⊕(GTable))
  | (t14_1,t1_1)=>(if t14_1 < (4:Int) then if 0≤t11_0∧t11_0 < (2:Int) then if 0≤t14_1∧t14_1 < (4:Int) then (g_table_row ((vrd (vrd t1_1.Drawers t11_0.toNat) t14_1.toNat).Row)).bind fun r'1=>letO ({ t1_1 with Drawers:=(vwr t1_1.Drawers t11_0.toNat (vwr (vrd t1_1.Drawers t11_0.toNat) t14_1.toNat ({ (vrd (vrd t1_1.Drawers t11_0.toNat) t14_1.toNat) with Row:=r'1 }))) }) fun t1'2=>some (.inl (w64 (t14_1+(1:Int)),t1'2)) else none else none else some (.inr t1_1))
noncomputable def g_table_fresh_l0:Int×GTable→Option ((Int×GTable)⊕(GTable))
  | (t11_0,t1_0)=>(if t11_0 < (2:Int) then (loopO (g_table_fresh_l1 t11_0) ((0:Int),t1_0)).bind fun y'6=>some (.inl (w64 (t11_0+(1:Int)),y'6)) else some (.inr t1_0))
noncomputable def g_table_fresh (t0:GTable):Option (GTable) :=
  if room (([]:List GColumn).length+t0.Cols.length) 32 then (loopO (g_table_fresh_l0) ((0:Int),{ t0 with Cols:=([]:List GColumn)++t0.Cols })).bind fun y'10=>some y'10 else none
theorem g_table_fresh_ac {t0:GTable} {r:GTable} (H:g_table_fresh t0=some r):ACp Tryz.prog 26 [(.agg (GTable.cs t0))] (.agg (GTable.cs r)):=by
 refine ACp_of (AC2_of_body (vs:=[.g (GTable.cs r)]) Tryz.func26 Y Y (lb Y) Y ?_) (fun _=>.same _)
 unfold g_table_fresh at H
 refine as2 [0] [.g (GTable.cs t0)] [] [] Y (sg 2 Y (rq Y (bx 1 Y) (rq Y (al 2 in_29 one_29 zc_29 Y) (rz [1,2] [.q 1 (0),.q 2 (0)] [1,2] [.pure (GTable.cs t0),.pure (GTable.cs GTable.zero)] Y (sg 6 Y (rq Y (MakeD.opD (n_bs0 6 Y U22 in_63) Y Y Y Y) (rf Y U29 Y in_22 Y Y (GTable.len t0) (rp Y (pl U22 Y (GTable.sub2 t0)) (chkK H fun h1 H=>rq Y (u_app [6] Y Y Y Y U22 U22 in_63 Y Y Y (fm_length GColumn.len ([]:List GColumn)) (by decide) Y (fm_length GColumn.len t0.Cols) h1 (by decide) Y Y (fapp GColumn.cs ([]:List GColumn) t0.Cols) (lapp ([]:List GColumn) t0.Cols)) (rf Y U29 Y in_22 Y Y (GTable.len t0) (RunW_gho (Gho_pubs [9] ⟨Y,trivial⟩ Y (fm_length GColumn.len (([]:List GColumn)++t0.Cols)) (by decide)) (rq Y (u_st Y Y Y Y Y in_22 Y (nl (GTable.len t0)) (Upd.trans (Sub.refl _) (GTable.upd2 t0 (([]:List GColumn)++t0.Cols)) (Upd.refl ((GTable.len ((GTable.w2 t0 (([]:List GColumn)++t0.Cols)))).trans (GTable.len t0).symm)))) (rz [1,2] [.q 1 (0),.q 2 (0)] [1,2] [.pure (GTable.cs ((GTable.w2 t0 (([]:List GColumn)++t0.Cols)))),.pure (GTable.cs GTable.zero)] Y (QS (sg 1 Y (rm Y (rz [1,2,11] [_,_,.i 0] [1,2] [_,_] Y (QB (as2 [1,2,11] [_,_,_] [1,2] [_,_] Y (bindK H fun y'10 h8 H=>AW2_loopO (fun a'7:Int×GTable=>(⟨[(1,.q 1 (0)),(2,.q 2 (0)),(11,.i a'7.1)],[(1,.pure (GTable.cs a'7.2)),(2,.pure (GTable.cs GTable.zero))],33⟩:TS)) (fun (y'8:GTable) e s'=>e=Go.Exit.exit 0∧s'=(⟨[(1,.q 1 (0)),(2,.q 2 (0))],[(1,.pure (GTable.cs y'8)),(2,.pure (GTable.cs GTable.zero))],33⟩:TS)) h8 Y (fun a x hx=>?_) (fun e s' hs=>?_)))))))))))))))))))))
 ·clear H
  obtain ⟨t11_0,t1_0⟩:=a
  have H:=hx
  clear hx
  unfold g_table_fresh_l0 at H
  refine sg 1 Y (rp Y (pb Y Y) (rz [1,2,11,12] [.q 1 (0),.q 2 (0),.i t11_0,.b (decide (t11_0 < 2))] [1,2] [.pure (GTable.cs t1_0),.pure (GTable.cs GTable.zero)] Y (QS (if2 H Y (fun h2 H=>?_) (fun h2 H=>?_)))))
  ·refine as2 [1,2,11] [_,_,_] [1,2] [_,_] Y (QK (QS (QB (sg 2 Y (rm Y (ra Y (rz [1,2,3,11] [_,_,.i t11_0,_] [1,2] [_,_] Y (sg 1 Y (rm Y (rz [1,2,3,11,14] [_,_,_,_,.i 0] [1,2] [_,_] Y (QB (as2 [1,2,3,11,14] [_,_,_,_,_] [1,2] [_,_] Y (bindK H fun y'6 h7 H=>AW2_loopO (fun a'3:Int×GTable=>(⟨[(1,.q 1 (0)),(2,.q 2 (0)),(3,.i t11_0),(11,.i t11_0),(14,.i a'3.1)],[(1,.pure (GTable.cs a'3.2)),(2,.pure (GTable.cs GTable.zero))],33⟩:TS)) (fun (y'4:GTable) e s'=>e=Go.Exit.exit 2∧s'=(⟨[(1,.q 1 (0)),(2,.q 2 (0)),(11,.i t11_0)],[(1,.pure (GTable.cs y'4)),(2,.pure (GTable.cs GTable.zero))],33⟩:TS)) h7 Y (fun a x hx=>?_) (fun e s' hs=>?_))))))))))))))
   ·clear H
    obtain ⟨t14_1,t1_1⟩:=a
    have H:=hx
    clear hx
    unfold g_table_fresh_l1 at H
    refine sg 1 Y (rp Y (pb Y Y) (rz [1,2,3,11,14,15] [.q 1 (0),.q 2 (0),.i t11_0,.i t11_0,.i t14_1,.b (decide (t14_1 < 4))] [1,2] [.pure (GTable.cs t1_1),.pure (GTable.cs GTable.zero)] Y (QS (if2 H Y (fun h3 H=>?_) (fun h3 H=>?_)))))
    ·refine as2 [1,2,3,11,14] [_,_,_,_,_] [1,2] [_,_] Y (QK (QS (QB (sg 2 Y (rm Y (ra Y (rz [1,2,3,4,11,14] [_,_,_,.i t14_1,_,_] [1,2] [_,_] Y (sg 6 Y (rm Y (rm Y (rf Y U29 Y in_27 Y Y (GTable.len t1_1) (chkK H fun h4 H=>rp Y (u_ixp Y Y U27 in_26 Y Y (nl (GTable.len t1_1)) Y (ixe h4) (ixn h4)) (chkK H fun h5 H=>rp Y (u_ixp Y Y U26 in_25 Y Y (nl (GTable.len t1_1)) Y (ixe h5) (ixn h5)) (ra Y (rz [1,2,3,5,11,14] [_,_,_,.q 1 (0+3+t11_0.toNat * 8+t14_1.toNat * 2),_,_] [1,2] [_,_] Y (ar 9 Y (rm Y (rm Y (rp Y (p_nilc Y Y Y Y (fun _=>(nl (GTable.len t1_1)))) (rf Y U25 Y in_23 Y Y (GTable.len t1_1) (rp Y (pl U23 Y ((((GTable.sub3 t1_1).trans (Sub.vfm (fun x=>(vfm_len GCell.len x)) (ixn h4))).trans (Sub.vfm GCell.len (ixn h5))).trans (GCell.sub1 (vrd (vrd t1_1.Drawers t11_0.toNat) t14_1.toNat)))) ?_)))))))))))))))))))))
     refine bindK H fun r'1 h6 H=>rp Y (pc Y Tryz.func39 Y (g_table_row_ac h6) Y) (rp Y (p_nilc Y Y Y Y (fun _=>(nl (GTable.len t1_1)))) (rf Y U25 Y in_23 Y Y (GTable.len t1_1) (rq Y (u_st Y Y Y Y Y in_23 Y (nl (GTable.len t1_1)) (Upd.trans (((GTable.sub3 t1_1).trans (Sub.vfm (fun x=>(vfm_len GCell.len x)) (ixn h4))).trans (Sub.vfm GCell.len (ixn h5))) (GCell.upd1 (vrd (vrd t1_1.Drawers t11_0.toNat) t14_1.toNat) r'1) (Upd.trans ((GTable.sub3 t1_1).trans (Sub.vfm (fun x=>(vfm_len GCell.len x)) (ixn h4))) (Upd.vfm GCell.len (ixn h5)) (Upd.trans (GTable.sub3 t1_1) (Upd.vfm (fun x=>(vfm_len GCell.len x)) (ixn h4)) (Upd.trans (Sub.refl _) (GTable.upd3 t1_1 (vwr t1_1.Drawers t11_0.toNat (vwr (vrd t1_1.Drawers t11_0.toNat) t14_1.toNat ((GCell.w1 (vrd (vrd t1_1.Drawers t11_0.toNat) t14_1.toNat) r'1))))) (Upd.refl ((GTable.len ((GTable.w3 t1_1 (vwr t1_1.Drawers t11_0.toNat (vwr (vrd t1_1.Drawers t11_0.toNat) t14_1.toNat ((GCell.w1 (vrd (vrd t1_1.Drawers t11_0.toNat) t14_1.toNat) r'1))))))).trans (GTable.len t1_1).symm))))))) (rz [1,2,3,11,14] [_,_,_,_,_] [1,2] [.pure (GTable.cs ((GTable.w3 t1_1 (vwr t1_1.Drawers t11_0.toNat (vwr (vrd t1_1.Drawers t11_0.toNat) t14_1.toNat ((GCell.w1 (vrd (vrd t1_1.Drawers t11_0.toNat) t14_1.toNat) r'1))))))),_] Y (gen1 (fun t1'2=>(⟨[(1,.q 1 (0)),(2,.q 2 (0)),(3,.i t11_0),(11,.i t11_0),(14,.i t14_1)],[(1,.pure (GTable.cs t1'2)),(2,.pure (GTable.cs GTable.zero))],33⟩:TS)) H ?_)))))
     intro t1'2 H
     refine ar 2 Y (rp Y (pb Y Y) (rm Y (rz [1,2,3,11,14] [.q 1 (0),.q 2 (0),.i t11_0,.i t11_0,.i (w64 (t14_1+1))] [1,2] [.pure (GTable.cs t1'2),.pure (GTable.cs GTable.zero)] Y ?_)))
     have z:=se H;subst z
     exact ⟨Y,Y⟩
    refine as2 [1,2,11] [_,_,_] [1,2] [_,_] Y (AW2_exit (thenQ2_exit ?_))
    have z:=se H;subst z
    exact ⟨Y,Y⟩
   obtain ⟨rfl,rfl⟩:=hs
   refine ⟨by simp,?_⟩
   refine blockQ2_exit (ar 2 Y (rp Y (pb Y Y) (rm Y (rz [1,2,11] [.q 1 (0),.q 2 (0),.i (w64 (t11_0+1))] [1,2] [.pure (GTable.cs y'6),.pure (GTable.cs GTable.zero)] Y ?_))))
   have z:=se H;subst z
   exact ⟨Y,Y⟩
  refine as2 [1,2] [_,_] [1,2] [_,_] Y (AW2_exit (thenQ2_exit ?_))
  have z:=se H;subst z
  exact ⟨Y,Y⟩
 obtain ⟨rfl,rfl⟩:=hs
 refine ⟨by simp,?_⟩
 refine blockQ2_exit (sg 2 Y (rp Y (pL U29 Y in_29 (Sub.refl _) (GTable.len y'10)) (rq Y (u_sw Y Y in_29 (GTable.len y'10) (GTable.len GTable.zero)) (rz [2] [.q 2 (0)] [2] [.pure (GTable.cs y'10)] Y (QR ?_)))))
 have z:=se H;subst z
 exact ⟨⟨rcw U29 Y in_29 Y (GTable.len y'10),trivial⟩,trivial⟩
noncomputable def g_table_begun (t0:GTable) (drawer1:Int):Option (GTable×Int) :=
  (g_table_Check t0).bind fun r'1=>(if r'1≠(0:Int) then some (GTable.zero,r'1) else (if (drawer1 < (0:Int))∨(drawer1≥(2:Int)) then some (GTable.zero,(6:Int)) else (g_table_fresh t0).bind fun r'2=>some (r'2,(0:Int))))
theorem g_table_begun_ac {t0:GTable} {drawer1:Int} {r:GTable×Int} (H:g_table_begun t0 drawer1=some r):ACp Tryz.prog 10 [(.agg (GTable.cs t0)),(AV.int drawer1)] (.tup [(.agg (GTable.cs r.1)),(AV.int r.2)]):=by
 refine ACp_of (AC2_of_body (vs:=[.g (GTable.cs r.1),.i r.2]) Tryz.func10 Y Y (lb Y) Y ?_) (fun _=>.same _)
 unfold g_table_begun at H
 refine as2 [0,1] [.g (GTable.cs t0),.i drawer1] [] [] Y (sg 3 Y (rq Y (bx 2 Y) (rq Y (al 4 in_29 one_29 zc_29 Y) (ra Y (rz [1,2,4] [_,.q 2 (0),.q 4 (0)] [2,4] [.pure (GTable.cs t0),.pure (GTable.cs GTable.zero)] Y (QS (sg 3 Y (rp Y (pL U29 Y in_29 (Sub.refl _) (GTable.len t0)) (bindK H fun r'1 h1 H=>rp Y (pc Y Tryz.func25 Y (g_table_Check_ac h1) Y) (ra Y (rz [1,2,4,6] [_,_,_,.i r'1] [2,4] [_,_] Y (sg 2 Y (rm Y (rp Y (pn Y) (rz [1,2,4,6,10] [_,_,_,_,.b (decide (r'1≠0))] [2,4] [_,_] Y (if2 H Y (fun h2 H=>?_) (fun h2 H=>?_)))))))))))))))))
 ·refine sg 4 Y (rp Y (u_bld Y in_29 one_29 zc_29 pl_29 Y Y) (rm Y (rq Y (u_sw Y Y in_29 (GTable.len GTable.zero) (GTable.len GTable.zero)) (ra Y (rz [4,5] [_,.i r'1] [4] [_] Y (QR ?_))))))
  have z:=se H;subst z
  exact ⟨⟨rcw U29 Y in_29 Y (GTable.len GTable.zero),rt,trivial⟩,trivial⟩
 refine as2 [1,2,4] [_,_,_] [2,4] [_,_] Y (QK (QS (QS (AW2_mid (⟨[(2,.q 2 (0)),(4,.q 4 (0)),(18,.b (decide ((drawer1 < 0)∨(drawer1≥2))))],[(2,.pure (GTable.cs t0)),(4,.pure (GTable.cs GTable.zero))],22⟩:TS) ?_ ?_))))
 ·refine ar 6 Y (rm Y (rp Y (pb Y Y) (rm Y ?_)))
  refine (Classical.em (drawer1 < 0)).elim (fun h3=>?_) (fun h3=>?_)
  ·exact rO Y (dT h3) Y (rO Y (dT h3) Y (rp Y (p_pkt Y Y (dT h3) (tb (dT (p:=(drawer1 < 0)∨(drawer1≥2)) (Or.inl h3)).symm)) (rend Y Y)))
  exact rn Y (dF h3) Y (p_move Y Y) (rn Y (dF h3) Y (pb Y Y) (rp Y (p_pkf Y Y (dF h3) (tb ((or_l (q:=drawer1≥2) h3)))) (rend Y Y)))
 refine if2 H Y (fun h4 H=>?_) (fun h4 H=>?_)
 ·refine sg 3 Y (rp Y (u_bld Y in_29 one_29 zc_29 pl_29 Y Y) (rq Y (u_sw Y Y in_29 (GTable.len GTable.zero) (GTable.len GTable.zero)) (ra Y (rz [4,5] [_,.i 6] [4] [_] Y (QR ?_)))))
  have z:=se H;subst z
  exact ⟨⟨rcw U29 Y in_29 Y (GTable.len GTable.zero),rt,trivial⟩,trivial⟩
 refine as2 [2,4] [_,_] [2,4] [_,_] Y (QK (sg 4 Y (rp Y (pL U29 Y in_29 (Sub.refl _) (GTable.len t0)) (bindK H fun r'2 h5 H=>rp Y (pc Y Tryz.func26 Y (g_table_fresh_ac h5) Y) (rq Y (u_sw Y Y in_29 (GTable.len r'2) (GTable.len GTable.zero)) (ra Y (rz [4,5] [_,.i 0] [4] [.pure (GTable.cs r'2)] Y (QR ?_))))))))
 have z:=se H;subst z
 exact ⟨⟨rcw U29 Y in_29 Y (GTable.len r'2),rt,trivial⟩,trivial⟩
noncomputable def g_table_none (e0:GExpr):Option (Bool) :=
  some (decide ((((e0.Op=(0:Int))∧(e0.Name=[]))∧(e0.Value=GValue.zero))∧((e0.Args.length:Int)=(0:Int))))
theorem g_table_none_ac {e0:GExpr} {r:Bool} (H:g_table_none e0=some r):ACp Tryz.prog 27 [(.agg (GExpr.cs e0))] (AV.bool r):=by
 refine ACp_of (AC2_of_body (vs:=[.b r]) Tryz.func27 Y Y (lb Y) Y ?_) (fun _=>.same _)
 unfold g_table_none at H
 refine as2 [0] [.g (GExpr.cs e0)] [] [] Y (sg 2 Y (rq Y (bx 1 Y) (ra Y (rz [1] [.q 1 (0)] [1] [.pure (GExpr.cs e0)] Y (QS (AW2_mid (⟨[(2,.b (decide ((((e0.Op=0)∧(e0.Name=[]))∧(e0.Value=GValue.zero))∧((e0.Args.length:Int)=0))))],[],23⟩:TS) ?_ ?_))))))
 ·refine ar 21 Y (rf Y U35 Y in_3 Y Y (GExpr.len e0) (rp Y (pl U3 Y (GExpr.sub0 e0)) (rp Y (pi Y) (rm Y ?_))))
  refine (Classical.em (e0.Op=0)).elim (fun h1=>?_) (fun h1=>?_)
  ·refine rn Y (dT h1) Y (uf U35 Y in_9 Y (GExpr.len e0)) (rn Y (dT h1) Y (pl U9 Y (GExpr.sub2 e0)) (rn Y (dT h1) Y (p_seq Y Y Y) (rp Y (p_pkt Y Y (dT h1) (tb ((and_l (q:=e0.Name=[]) h1)))) (rm Y ?_))))
   refine (Classical.em (e0.Name=[])).elim (fun h2=>?_) (fun h2=>?_)
   ·refine rn Y (dT (p:=(e0.Op=0)∧(e0.Name=[])) ⟨h1,h2⟩) Y (uf U35 Y in_32 Y (GExpr.len e0)) (rn Y (dT (p:=(e0.Op=0)∧(e0.Name=[])) ⟨h1,h2⟩) Y (pL U32 Y in_32 (GExpr.sub1 e0) (GValue.len e0.Value)) (rn Y (dT (p:=(e0.Op=0)∧(e0.Name=[])) ⟨h1,h2⟩) Y (u_bld Y in_32 one_32 zc_32 pl_32 Y Y) (rn Y (dT (p:=(e0.Op=0)∧(e0.Name=[])) ⟨h1,h2⟩) Y (p_eqa (a:=e0.Value) (b:=GValue.zero) Y eq_32 Y (by kernel_rfl) Y Y) (rp Y (p_pkt Y Y (dT (p:=(e0.Op=0)∧(e0.Name=[])) ⟨h1,h2⟩) (tb ((and_l (p:=(e0.Op=0)∧(e0.Name=[])) (q:=e0.Value=GValue.zero) ⟨h1,h2⟩)))) (rm Y ?_)))))
    refine (Classical.em (e0.Value=GValue.zero)).elim (fun h3=>?_) (fun h3=>?_)
    ·exact rn Y (dT (p:=((e0.Op=0)∧(e0.Name=[]))∧(e0.Value=GValue.zero)) ⟨⟨h1,h2⟩,h3⟩) Y (uf U35 Y in_33 Y (GExpr.len e0)) (rn Y (dT (p:=((e0.Op=0)∧(e0.Name=[]))∧(e0.Value=GValue.zero)) ⟨⟨h1,h2⟩,h3⟩) Y (pl U33 Y (GExpr.sub3 e0)) (rn Y (dT (p:=((e0.Op=0)∧(e0.Name=[]))∧(e0.Value=GValue.zero)) ⟨⟨h1,h2⟩,h3⟩) Y (p_lenl Y U33 Y Y) (rn Y (dT (p:=((e0.Op=0)∧(e0.Name=[]))∧(e0.Value=GValue.zero)) ⟨⟨h1,h2⟩,h3⟩) Y (pi Y) (rp Y (p_pkt Y Y (dT (p:=((e0.Op=0)∧(e0.Name=[]))∧(e0.Value=GValue.zero)) ⟨⟨h1,h2⟩,h3⟩) (tb ((and_l (p:=((e0.Op=0)∧(e0.Name=[]))∧(e0.Value=GValue.zero)) (q:=(e0.Args.length:Int)=0) ⟨⟨h1,h2⟩,h3⟩)))) (ra Y (rend Y Y))))))
    exact rO Y (dF (p:=((e0.Op=0)∧(e0.Name=[]))∧(e0.Value=GValue.zero)) (fun h=>h3 h.2)) Y (rO Y (dF (p:=((e0.Op=0)∧(e0.Name=[]))∧(e0.Value=GValue.zero)) (fun h=>h3 h.2)) Y (rO Y (dF (p:=((e0.Op=0)∧(e0.Name=[]))∧(e0.Value=GValue.zero)) (fun h=>h3 h.2)) Y (rO Y (dF (p:=((e0.Op=0)∧(e0.Name=[]))∧(e0.Value=GValue.zero)) (fun h=>h3 h.2)) Y (rp Y (p_pkf Y Y (dF (p:=((e0.Op=0)∧(e0.Name=[]))∧(e0.Value=GValue.zero)) (fun h=>h3 h.2)) (tb (dF (p:=(((e0.Op=0)∧(e0.Name=[]))∧(e0.Value=GValue.zero))∧((e0.Args.length:Int)=0)) (fun x=>(fun h=>h3 h.2) x.1)).symm)) (ra Y (rend Y Y))))))
   exact rO Y (dF (p:=(e0.Op=0)∧(e0.Name=[])) (fun h=>h2 h.2)) Y (rO Y (dF (p:=(e0.Op=0)∧(e0.Name=[])) (fun h=>h2 h.2)) Y (rO Y (dF (p:=(e0.Op=0)∧(e0.Name=[])) (fun h=>h2 h.2)) Y (rO Y (dF (p:=(e0.Op=0)∧(e0.Name=[])) (fun h=>h2 h.2)) Y (rp Y (p_pkf Y Y (dF (p:=(e0.Op=0)∧(e0.Name=[])) (fun h=>h2 h.2)) (tb (dF (p:=((e0.Op=0)∧(e0.Name=[]))∧(e0.Value=GValue.zero)) (fun x=>(fun h=>h2 h.2) x.1)).symm)) (rm Y (rO Y (dF (p:=((e0.Op=0)∧(e0.Name=[]))∧(e0.Value=GValue.zero)) (fun h=>(fun h=>h2 h.2) h.1)) Y (rO Y (dF (p:=((e0.Op=0)∧(e0.Name=[]))∧(e0.Value=GValue.zero)) (fun h=>(fun h=>h2 h.2) h.1)) Y (rO Y (dF (p:=((e0.Op=0)∧(e0.Name=[]))∧(e0.Value=GValue.zero)) (fun h=>(fun h=>h2 h.2) h.1)) Y (rO Y (dF (p:=((e0.Op=0)∧(e0.Name=[]))∧(e0.Value=GValue.zero)) (fun h=>(fun h=>h2 h.2) h.1)) Y (rp Y (p_pkf Y Y (dF (p:=((e0.Op=0)∧(e0.Name=[]))∧(e0.Value=GValue.zero)) (fun h=>(fun h=>h2 h.2) h.1)) (tb (dF (p:=(((e0.Op=0)∧(e0.Name=[]))∧(e0.Value=GValue.zero))∧((e0.Args.length:Int)=0)) (fun x=>(fun h=>(fun h=>h2 h.2) h.1) x.1)).symm)) (ra Y (rend Y Y))))))))))))
  exact rO Y (dF h1) Y (rO Y (dF h1) Y (rO Y (dF h1) Y (rp Y (p_pkf Y Y (dF h1) (tb (dF (p:=(e0.Op=0)∧(e0.Name=[])) (fun x=>h1 x.1)).symm)) (rm Y (rO Y (dF (p:=(e0.Op=0)∧(e0.Name=[])) (fun h=>h1 h.1)) Y (rO Y (dF (p:=(e0.Op=0)∧(e0.Name=[])) (fun h=>h1 h.1)) Y (rO Y (dF (p:=(e0.Op=0)∧(e0.Name=[])) (fun h=>h1 h.1)) Y (rO Y (dF (p:=(e0.Op=0)∧(e0.Name=[])) (fun h=>h1 h.1)) Y (rp Y (p_pkf Y Y (dF (p:=(e0.Op=0)∧(e0.Name=[])) (fun h=>h1 h.1)) (tb (dF (p:=((e0.Op=0)∧(e0.Name=[]))∧(e0.Value=GValue.zero)) (fun x=>(fun h=>h1 h.1) x.1)).symm)) (rm Y (rO Y (dF (p:=((e0.Op=0)∧(e0.Name=[]))∧(e0.Value=GValue.zero)) (fun h=>(fun h=>h1 h.1) h.1)) Y (rO Y (dF (p:=((e0.Op=0)∧(e0.Name=[]))∧(e0.Value=GValue.zero)) (fun h=>(fun h=>h1 h.1) h.1)) Y (rO Y (dF (p:=((e0.Op=0)∧(e0.Name=[]))∧(e0.Value=GValue.zero)) (fun h=>(fun h=>h1 h.1) h.1)) Y (rO Y (dF (p:=((e0.Op=0)∧(e0.Name=[]))∧(e0.Value=GValue.zero)) (fun h=>(fun h=>h1 h.1) h.1)) Y (rp Y (p_pkf Y Y (dF (p:=((e0.Op=0)∧(e0.Name=[]))∧(e0.Value=GValue.zero)) (fun h=>(fun h=>h1 h.1) h.1)) (tb (dF (p:=(((e0.Op=0)∧(e0.Name=[]))∧(e0.Value=GValue.zero))∧((e0.Args.length:Int)=0)) (fun x=>(fun h=>(fun h=>h1 h.1) h.1) x.1)).symm)) (ra Y (rend Y Y)))))))))))))))))
 refine QR ?_
 have z:=se H;subst z
 exact ⟨⟨rt,trivial⟩,trivial⟩
noncomputable def g_expr_size_l0 (e0:GExpr) (depth1:Int) (R':GExpr→Int→Option (Int×Bool)):Int×Int→Option ((Int×Int)⊕((Int×Bool)⊕Int))
  | (n6_0,t16_0)=>(if t16_0 < (e0.Args.length:Int) then if 0≤t16_0∧t16_0 < (e0.Args.length:Int) then (R' (lrd e0.Args t16_0.toNat) (w64 (depth1+(1:Int)))).bind fun r'1=>(if ((!r'1.2)=true)∨(w64 (n6_0+r'1.1) > (40:Int)) then some (.inr (.inl ((0:Int),false))) else some (.inl (w64 (n6_0+r'1.1),w64 (t16_0+(1:Int))))) else none else some (.inr (.inr n6_0)))
noncomputable def g_expr_size_b (R':GExpr→Int→Option (Int×Bool)) (e0:GExpr) (depth1:Int):Option (Int×Bool) :=
  (if depth1 > (7:Int) then some ((0:Int),false) else (loopO (g_expr_size_l0 e0 depth1 R') ((1:Int),(0:Int))).bind fun o'5=>match o'5 with | .inl y'6=>some y'6 | .inr (y'7)=>some (y'7,true))
noncomputable def g_expr_size:Nat→GExpr→Int→Option (Int×Bool)
  | 0,_,_=>none
  | fu+1,e0,depth1=>g_expr_size_b (g_expr_size fu) e0 depth1
theorem g_expr_size_ac0 {R':GExpr→Int→Option (Int×Bool)} (hR:∀ {e0:GExpr} {depth1:Int} {r:Int×Bool},R' e0 depth1=some r→ACp Tryz.prog 65 [(.agg (GExpr.cs e0)),(AV.int depth1)] (.tup [(AV.int r.1),(AV.bool r.2)])) {e0:GExpr} {depth1:Int} {r:Int×Bool} (H:g_expr_size_b R' e0 depth1=some r):ACp Tryz.prog 65 [(.agg (GExpr.cs e0)),(AV.int depth1)] (.tup [(AV.int r.1),(AV.bool r.2)]):=by
 refine ACp_of (AC2_of_body (vs:=[.i r.1,.b r.2]) Tryz.func65 Y Y (lb Y) Y ?_) (fun _=>.same _)
 unfold g_expr_size_b at H
 refine as2 [0,1] [.g (GExpr.cs e0),.i depth1] [] [] Y (sg 3 Y (rq Y (bx 2 Y) (ra Y (ra Y (rz [1,2] [_,.q 2 (0)] [2] [.pure (GExpr.cs e0)] Y (QS (sg 2 Y (rm Y (rp Y (pb Y Y) (rz [1,2,12] [_,_,.b (decide (depth1 > 7))] [2] [_] Y (if2 H Y (fun h1 H=>?_) (fun h1 H=>?_))))))))))))
 ·refine sg 2 Y (ra Y (ra Y (rz [4,5] [.i 0,.b false] [] [] Y (QR ?_))))
  have z:=se H;subst z
  exact ⟨⟨rt,rt,trivial⟩,trivial⟩
 refine as2 [1,2] [_,_] [2] [_] Y (QK (sg 1 Y (ra Y (rz [1,2,6] [_,_,.i 1] [2] [_] Y (QS (sg 4 Y (rf Y U35 Y in_33 Y Y (GExpr.len e0) (rp Y (pl U33 Y (GExpr.sub3 e0)) (rp Y (p_lenl Y U33 Y Y) (rm Y (rz [1,6,14,15,16] [_,_,.p (GExpr.ls e0.Args),.i (e0.Args.length:Int),.i 0] [] [] Y (QB (as2 [1,6,14,15,16] [_,_,_,_,_] [] [] Y (bindK H fun o'5 h7 H=>AW2_loopO (fun a'2:Int×Int=>(⟨[(1,.i depth1),(6,.i a'2.1),(14,.p (GExpr.ls e0.Args)),(15,.i (e0.Args.length:Int)),(16,.i a'2.2)],[],38⟩:TS)) (fun (o:(Int×Bool)⊕Int) e s'=>match o with | .inl y'3=>e=Go.Exit.ret∧ResAll Tryz.prog s' [ResultVar.tmp 4,ResultVar.tmp 5] [.i y'3.1,.b y'3.2]∧HFits s' [] | .inr (y'4)=>e=Go.Exit.exit 0∧s'=(⟨[(6,.i y'4)],[],38⟩:TS)) h7 Y (fun a x hx=>?_) (fun e s' hs=>?_)))))))))))))))
 ·clear H
  obtain ⟨n6_0,t16_0⟩:=a
  have H:=hx
  clear hx
  unfold g_expr_size_l0 at H
  refine sg 1 Y (rp Y (pb Y Y) (rz [1,6,14,15,16,17] [.i depth1,.i n6_0,.p (GExpr.ls e0.Args),.i (e0.Args.length:Int),.i t16_0,.b (decide (t16_0 < (e0.Args.length:Int)))] [] [] Y (QS (if2 H Y (fun h2 H=>?_) (fun h2 H=>?_)))))
  ·refine as2 [1,6,14,15,16] [_,_,_,_,_] [] [] Y (QK (QS (QB (sg 4 Y (chkK H fun h3 H=>rp Y (u_ixl Y Y U33 in_35 Y Y (ixe h3) (ixn h3) (fne GExpr.len (by decide) (ixn h3))) (rp Y (pL U35 Y in_35 (Sub.fm default GExpr.len (ixn h3)) (GExpr.len (lrd e0.Args t16_0.toNat))) (rq Y (al 8 in_35 one_35 zc_35 Y) (rq Y (u_sw Y Y in_35 (GExpr.len (lrd e0.Args t16_0.toNat)) (GExpr.len GExpr.zero)) (rz [1,6,8,14,15,16] [_,_,.q 8 (0),_,_,_] [8] [.pure (GExpr.cs (lrd e0.Args t16_0.toNat))] Y (sg 9 Y (rp Y (pL U35 Y in_35 (Sub.refl _) (GExpr.len (lrd e0.Args t16_0.toNat))) (rm Y (rp Y (pb Y Y) (bindK H fun r'1 h4 H=>rp Y (pc Y Tryz.func65 Y (hR h4) Y) (rm Y (rp Y (pe Y) (rp Y (pe Y) (ra Y (ra Y (rz [1,6,9,10,14,15,16] [_,_,.i r'1.1,.b r'1.2,_,_,_] [] [] Y (sg 4 Y ?_)))))))))))))))))))))
   refine rm Y (rm Y (rp Y (pb Y Y) (ra Y (rz [1,6,10,14,15,16] [_,.i (w64 (n6_0+r'1.1)),_,_,_,_] [] [] Y (QS (AW2_mid (⟨[(1,.i depth1),(6,.i (w64 (n6_0+r'1.1))),(14,.p (GExpr.ls e0.Args)),(15,.i (e0.Args.length:Int)),(16,.i t16_0),(35,.b (decide (((!r'1.2)=true)∨(w64 (n6_0+r'1.1) > 40))))],[],38⟩:TS) ?_ ?_))))))
   ·refine ar 6 Y (rm Y (rp Y (p_not Y Y) (rm Y ?_)))
    refine (Classical.em ((!r'1.2)=true)).elim (fun h5=>?_) (fun h5=>?_)
    ·exact rO Y h5 Y (rO Y h5 Y (rp Y (p_pkt Y Y h5 (tb (dT (p:=((!r'1.2)=true)∨(w64 (n6_0+r'1.1) > 40)) (Or.inl h5)).symm)) (rend Y Y)))
    exact rn Y (bfalse h5) Y (p_move Y Y) (rn Y (bfalse h5) Y (pb Y Y) (rp Y (p_pkf Y Y (bfalse h5) (tb ((or_l (q:=w64 (n6_0+r'1.1) > 40) h5)))) (rend Y Y)))
   refine if2 H Y (fun h6 H=>?_) (fun h6 H=>?_)
   ·refine sg 2 Y (ra Y (ra Y (rz [4,5] [.i 0,.b false] [] [] Y (QR ?_))))
    have z:=se H;subst z
    exact ⟨Y,⟨rt,rt,trivial⟩,trivial⟩
   refine as2 [1,6,14,15,16] [_,_,_,_,_] [] [] Y (QK (ar 2 Y (rp Y (pb Y Y) (rm Y (rz [1,6,14,15,16] [_,_,_,_,.i (w64 (t16_0+1))] [] [] Y ?_)))))
   have z:=se H;subst z
   exact ⟨Y,Y⟩
  refine as2 [6] [_] [] [] Y (AW2_exit (thenQ2_exit ?_))
  have z:=se H;subst z
  exact ⟨Y,Y⟩
 rcases o'5 with y'6 | y'7
 ·obtain ⟨rfl,hs⟩:=hs
  refine ⟨by simp,?_⟩
  have z:=se H;subst z
  exact ⟨hs.1,hs.2⟩
 obtain ⟨rfl,rfl⟩:=hs
 refine ⟨by simp,?_⟩
 refine blockQ2_exit (sg 3 Y (rm Y (ra Y (ra Y (rz [4,5] [.i y'7,.b true] [] [] Y (QR ?_))))))
 have z:=se H;subst z
 exact ⟨⟨rt,rt,trivial⟩,trivial⟩
theorem g_expr_size_acN:∀ (fu:Nat) {e0:GExpr} {depth1:Int} {r:Int×Bool},g_expr_size fu e0 depth1=some r→ACp Tryz.prog 65 [(.agg (GExpr.cs e0)),(AV.int depth1)] (.tup [(AV.int r.1),(AV.bool r.2)])
 | 0,_,_,_,H=>(by cases H)
 | fu+1,_,_,_,H=>g_expr_size_ac0 (g_expr_size_acN fu) H
theorem g_expr_size_ac {e0:GExpr} {depth1:Int} {r:Int×Bool} (H:g_expr_size 100000 e0 depth1=some r):ACp Tryz.prog 65 [(.agg (GExpr.cs e0)),(AV.int depth1)] (.tup [(AV.int r.1),(AV.bool r.2)]):=g_expr_size_acN 100000 H
end Go.Proofs.YthnkbagmaljjjaaGreatDoor.VM
