/- Words and rules that the proof uses. -/
import Derived.Test.YthnkbagmaljjjaaGreatDoorVtTabs
import Derived.Test.YthnkbagmaljjjaaGreatDoorVtFloat
import Derived.Test.YthnkbagmaljjjaaGreatDoorVtIface
import Derived.Test.YthnkbagmaljjjaaGreatDoorVtExt
import Derived.Test.YthnkbagmaljjjaaGreatDoorVtShelf
namespace Go.Proofs.YthnkbagmaljjjaaGreatDoor.VM
open Go Go.RowKit
abbrev U2:=@Tryz.underlying2
abbrev U3:=@Tryz.underlying3
abbrev U4:=@Tryz.underlying4
abbrev U9:=@Tryz.underlying9
abbrev U22:=@Tryz.underlying22
abbrev U23:=@Tryz.underlying23
abbrev U25:=@Tryz.underlying25
abbrev U26:=@Tryz.underlying26
abbrev U27:=@Tryz.underlying27
abbrev U29:=@Tryz.underlying29
abbrev U30:=@Tryz.underlying30
abbrev U32:=@Tryz.underlying32
abbrev U63:=@Tryz.underlying63
abbrev U73:=@Tryz.underlying73
abbrev U79:=@Tryz.underlying79
structure GValue where
  Kind:Int
  Int_:Int
  Bits:UInt64
  Text:List UInt8
deriving DecidableEq,Inhabited
def GValue.zero:GValue:=⟨(0:Int),(0:Int),(0:UInt64),[]⟩
def GValue.cs (x:GValue):List AV:=([(AV.int x.Kind)])++(([(AV.int x.Int_)])++(([(AV.u64 x.Bits)])++([(AV.txt x.Text)])))
abbrev GValue.ls (q:List GValue):AV:=AV.lst (q.flatMap GValue.cs) q.length
theorem GValue.len (x:GValue):(GValue.cs x).length=4:=by
  simp only [GValue.cs,List.length_append]
  rw [show ([(AV.int x.Kind)]).length=1 from (show ([(AV.int x.Kind)]).length=1 from rfl),show ([(AV.int x.Int_)]).length=1 from (show ([(AV.int x.Int_)]).length=1 from rfl),show ([(AV.u64 x.Bits)]).length=1 from (show ([(AV.u64 x.Bits)]).length=1 from rfl),show ([(AV.txt x.Text)]).length=1 from (show ([(AV.txt x.Text)]).length=1 from rfl)]
theorem GValue.sub0 (x:GValue):Sub (GValue.cs x) 0 ([(AV.int x.Kind)]):=Sub.head _ _
abbrev GValue.w0 (x:GValue) (y:Int):GValue:={ x with Kind:=y }
theorem GValue.upd0 (x:GValue) (y:Int):Upd (GValue.cs x) 0 ([(AV.int y)]) (GValue.cs { x with Kind:=y }):=Upd.head (show ([(AV.int y)]).length=([(AV.int x.Kind)]).length from rfl)
theorem GValue.sub1 (x:GValue):Sub (GValue.cs x) 1 ([(AV.int x.Int_)]):=Sub.skip (k:=1) (show ([(AV.int x.Kind)]).length=1 from rfl) (Sub.head _ _)
abbrev GValue.w1 (x:GValue) (y:Int):GValue:={ x with Int_:=y }
theorem GValue.upd1 (x:GValue) (y:Int):Upd (GValue.cs x) 1 ([(AV.int y)]) (GValue.cs { x with Int_:=y }):=Upd.skip (k:=1) (show ([(AV.int x.Kind)]).length=1 from rfl) (Upd.head (show ([(AV.int y)]).length=([(AV.int x.Int_)]).length from rfl))
theorem GValue.sub2 (x:GValue):Sub (GValue.cs x) 2 ([(AV.u64 x.Bits)]):=Sub.skip (k:=1) (show ([(AV.int x.Kind)]).length=1 from rfl) (Sub.skip (k:=1) (show ([(AV.int x.Int_)]).length=1 from rfl) (Sub.head _ _))
abbrev GValue.w2 (x:GValue) (y:UInt64):GValue:={ x with Bits:=y }
theorem GValue.upd2 (x:GValue) (y:UInt64):Upd (GValue.cs x) 2 ([(AV.u64 y)]) (GValue.cs { x with Bits:=y }):=Upd.skip (k:=1) (show ([(AV.int x.Kind)]).length=1 from rfl) (Upd.skip (k:=1) (show ([(AV.int x.Int_)]).length=1 from rfl) (Upd.head (show ([(AV.u64 y)]).length=([(AV.u64 x.Bits)]).length from rfl)))
theorem GValue.sub3 (x:GValue):Sub (GValue.cs x) 3 ([(AV.txt x.Text)]):=Sub.skip (k:=1) (show ([(AV.int x.Kind)]).length=1 from rfl) (Sub.skip (k:=1) (show ([(AV.int x.Int_)]).length=1 from rfl) (Sub.skip (k:=1) (show ([(AV.u64 x.Bits)]).length=1 from rfl) (Sub.refl _)))
abbrev GValue.w3 (x:GValue) (y:List UInt8):GValue:={ x with Text:=y }
theorem GValue.upd3 (x:GValue) (y:List UInt8):Upd (GValue.cs x) 3 ([(AV.txt y)]) (GValue.cs { x with Text:=y }):=Upd.skip (k:=1) (show ([(AV.int x.Kind)]).length=1 from rfl) (Upd.skip (k:=1) (show ([(AV.int x.Int_)]).length=1 from rfl) (Upd.skip (k:=1) (show ([(AV.u64 x.Bits)]).length=1 from rfl) (Upd.refl (show ([(AV.txt y)]).length=([(AV.txt x.Text)]).length from rfl))))
structure GToken where
  Kind:Int
  Text:List UInt8
  Int_:Int
  Bits:UInt64
deriving DecidableEq,Inhabited
def GToken.zero:GToken:=⟨(0:Int),[],(0:Int),(0:UInt64)⟩
def GToken.cs (x:GToken):List AV:=([(AV.int x.Kind)])++(([(AV.txt x.Text)])++(([(AV.int x.Int_)])++([(AV.u64 x.Bits)])))
theorem GToken.len (x:GToken):(GToken.cs x).length=4:=by
  simp only [GToken.cs,List.length_append]
  rw [show ([(AV.int x.Kind)]).length=1 from (show ([(AV.int x.Kind)]).length=1 from rfl),show ([(AV.txt x.Text)]).length=1 from (show ([(AV.txt x.Text)]).length=1 from rfl),show ([(AV.int x.Int_)]).length=1 from (show ([(AV.int x.Int_)]).length=1 from rfl),show ([(AV.u64 x.Bits)]).length=1 from (show ([(AV.u64 x.Bits)]).length=1 from rfl)]
theorem GToken.sub0 (x:GToken):Sub (GToken.cs x) 0 ([(AV.int x.Kind)]):=Sub.head _ _
abbrev GToken.w0 (x:GToken) (y:Int):GToken:={ x with Kind:=y }
theorem GToken.upd0 (x:GToken) (y:Int):Upd (GToken.cs x) 0 ([(AV.int y)]) (GToken.cs { x with Kind:=y }):=Upd.head (show ([(AV.int y)]).length=([(AV.int x.Kind)]).length from rfl)
theorem GToken.sub1 (x:GToken):Sub (GToken.cs x) 1 ([(AV.txt x.Text)]):=Sub.skip (k:=1) (show ([(AV.int x.Kind)]).length=1 from rfl) (Sub.head _ _)
theorem GToken.upd1 (x:GToken) (y:List UInt8):Upd (GToken.cs x) 1 ([(AV.txt y)]) (GToken.cs { x with Text:=y }):=Upd.skip (k:=1) (show ([(AV.int x.Kind)]).length=1 from rfl) (Upd.head (show ([(AV.txt y)]).length=([(AV.txt x.Text)]).length from rfl))
theorem GToken.sub2 (x:GToken):Sub (GToken.cs x) 2 ([(AV.int x.Int_)]):=Sub.skip (k:=1) (show ([(AV.int x.Kind)]).length=1 from rfl) (Sub.skip (k:=1) (show ([(AV.txt x.Text)]).length=1 from rfl) (Sub.head _ _))
theorem GToken.sub3 (x:GToken):Sub (GToken.cs x) 3 ([(AV.u64 x.Bits)]):=Sub.skip (k:=1) (show ([(AV.int x.Kind)]).length=1 from rfl) (Sub.skip (k:=1) (show ([(AV.txt x.Text)]).length=1 from rfl) (Sub.skip (k:=1) (show ([(AV.int x.Int_)]).length=1 from rfl) (Sub.refl _)))
structure GColumn where
  Name:List UInt8
  Kind:Int
  Null:Bool
deriving DecidableEq,Inhabited
def GColumn.zero:GColumn:=⟨[],(0:Int),false⟩
def GColumn.cs (x:GColumn):List AV:=([(AV.txt x.Name)])++(([(AV.int x.Kind)])++([(AV.bool x.Null)]))
abbrev GColumn.ls (q:List GColumn):AV:=AV.lst (q.flatMap GColumn.cs) q.length
theorem GColumn.len (x:GColumn):(GColumn.cs x).length=3:=by
  simp only [GColumn.cs,List.length_append]
  rw [show ([(AV.txt x.Name)]).length=1 from (show ([(AV.txt x.Name)]).length=1 from rfl),show ([(AV.int x.Kind)]).length=1 from (show ([(AV.int x.Kind)]).length=1 from rfl),show ([(AV.bool x.Null)]).length=1 from (show ([(AV.bool x.Null)]).length=1 from rfl)]
theorem GColumn.sub0 (x:GColumn):Sub (GColumn.cs x) 0 ([(AV.txt x.Name)]):=Sub.head _ _
theorem GColumn.sub1 (x:GColumn):Sub (GColumn.cs x) 1 ([(AV.int x.Kind)]):=Sub.skip (k:=1) (show ([(AV.txt x.Name)]).length=1 from rfl) (Sub.head _ _)
theorem GColumn.sub2 (x:GColumn):Sub (GColumn.cs x) 2 ([(AV.bool x.Null)]):=Sub.skip (k:=1) (show ([(AV.txt x.Name)]).length=1 from rfl) (Sub.skip (k:=1) (show ([(AV.int x.Kind)]).length=1 from rfl) (Sub.refl _))
structure GCell where
  Full:Bool
  Row:List GValue
deriving DecidableEq,Inhabited
def GCell.zero:GCell:=⟨false,[]⟩
def GCell.cs (x:GCell):List AV:=([(AV.bool x.Full)])++([((fun q:List GValue=>AV.lst (q.flatMap GValue.cs) q.length) x.Row)])
theorem GCell.len (x:GCell):(GCell.cs x).length=2:=by
  simp only [GCell.cs,List.length_append]
  rw [show ([(AV.bool x.Full)]).length=1 from (show ([(AV.bool x.Full)]).length=1 from rfl),show ([((fun q:List GValue=>AV.lst (q.flatMap GValue.cs) q.length) x.Row)]).length=1 from (show ([((fun q:List GValue=>AV.lst (q.flatMap GValue.cs) q.length) x.Row)]).length=1 from rfl)]
theorem GCell.sub0 (x:GCell):Sub (GCell.cs x) 0 ([(AV.bool x.Full)]):=Sub.head _ _
theorem GCell.sub1 (x:GCell):Sub (GCell.cs x) 1 ([((fun q:List GValue=>AV.lst (q.flatMap GValue.cs) q.length) x.Row)]):=Sub.skip (k:=1) (show ([(AV.bool x.Full)]).length=1 from rfl) (Sub.refl _)
abbrev GCell.w1 (x:GCell) (y:List GValue):GCell:={ x with Row:=y }
theorem GCell.upd1 (x:GCell) (y:List GValue):Upd (GCell.cs x) 1 ([((fun q:List GValue=>AV.lst (q.flatMap GValue.cs) q.length) y)]) (GCell.cs { x with Row:=y }):=Upd.skip (k:=1) (show ([(AV.bool x.Full)]).length=1 from rfl) (Upd.refl (show ([((fun q:List GValue=>AV.lst (q.flatMap GValue.cs) q.length) y)]).length=([((fun q:List GValue=>AV.lst (q.flatMap GValue.cs) q.length) x.Row)]).length from rfl))
structure GTable where
  There:Bool
  Name:List UInt8
  Cols:List GColumn
  Drawers:Vector (Vector GCell 4) 2
deriving DecidableEq,Inhabited
def GTable.zero:GTable:=⟨false,[],[],(Vector.replicate 2 (Vector.replicate 4 GCell.zero))⟩
def GTable.cs (x:GTable):List AV:=([(AV.bool x.There)])++(([(AV.txt x.Name)])++(([((fun q:List GColumn=>AV.lst (q.flatMap GColumn.cs) q.length) x.Cols)])++(x.Drawers.toList.flatMap (fun v:Vector GCell 4=>v.toList.flatMap GCell.cs))))
theorem GTable.len (x:GTable):(GTable.cs x).length=19:=by
  simp only [GTable.cs,List.length_append]
  rw [show ([(AV.bool x.There)]).length=1 from (show ([(AV.bool x.There)]).length=1 from rfl),show ([(AV.txt x.Name)]).length=1 from (show ([(AV.txt x.Name)]).length=1 from rfl),show ([((fun q:List GColumn=>AV.lst (q.flatMap GColumn.cs) q.length) x.Cols)]).length=1 from (show ([((fun q:List GColumn=>AV.lst (q.flatMap GColumn.cs) q.length) x.Cols)]).length=1 from rfl),show (x.Drawers.toList.flatMap (fun v:Vector GCell 4=>v.toList.flatMap GCell.cs)).length=16 from (vfm_len (fun x=>(vfm_len (fun x=>(GCell.len x)) x)) x.Drawers)]
theorem GTable.sub0 (x:GTable):Sub (GTable.cs x) 0 ([(AV.bool x.There)]):=Sub.head _ _
theorem GTable.sub1 (x:GTable):Sub (GTable.cs x) 1 ([(AV.txt x.Name)]):=Sub.skip (k:=1) (show ([(AV.bool x.There)]).length=1 from rfl) (Sub.head _ _)
theorem GTable.sub2 (x:GTable):Sub (GTable.cs x) 2 ([((fun q:List GColumn=>AV.lst (q.flatMap GColumn.cs) q.length) x.Cols)]):=Sub.skip (k:=1) (show ([(AV.bool x.There)]).length=1 from rfl) (Sub.skip (k:=1) (show ([(AV.txt x.Name)]).length=1 from rfl) (Sub.head _ _))
abbrev GTable.w2 (x:GTable) (y:List GColumn):GTable:={ x with Cols:=y }
theorem GTable.upd2 (x:GTable) (y:List GColumn):Upd (GTable.cs x) 2 ([((fun q:List GColumn=>AV.lst (q.flatMap GColumn.cs) q.length) y)]) (GTable.cs { x with Cols:=y }):=Upd.skip (k:=1) (show ([(AV.bool x.There)]).length=1 from rfl) (Upd.skip (k:=1) (show ([(AV.txt x.Name)]).length=1 from rfl) (Upd.head (show ([((fun q:List GColumn=>AV.lst (q.flatMap GColumn.cs) q.length) y)]).length=([((fun q:List GColumn=>AV.lst (q.flatMap GColumn.cs) q.length) x.Cols)]).length from rfl)))
theorem GTable.sub3 (x:GTable):Sub (GTable.cs x) 3 (x.Drawers.toList.flatMap (fun v:Vector GCell 4=>v.toList.flatMap GCell.cs)):=Sub.skip (k:=1) (show ([(AV.bool x.There)]).length=1 from rfl) (Sub.skip (k:=1) (show ([(AV.txt x.Name)]).length=1 from rfl) (Sub.skip (k:=1) (show ([((fun q:List GColumn=>AV.lst (q.flatMap GColumn.cs) q.length) x.Cols)]).length=1 from rfl) (Sub.refl _)))
abbrev GTable.w3 (x:GTable) (y:Vector (Vector GCell 4) 2):GTable:={ x with Drawers:=y }
theorem GTable.upd3 (x:GTable) (y:Vector (Vector GCell 4) 2):Upd (GTable.cs x) 3 (y.toList.flatMap (fun v:Vector GCell 4=>v.toList.flatMap GCell.cs)) (GTable.cs { x with Drawers:=y }):=Upd.skip (k:=1) (show ([(AV.bool x.There)]).length=1 from rfl) (Upd.skip (k:=1) (show ([(AV.txt x.Name)]).length=1 from rfl) (Upd.skip (k:=1) (show ([((fun q:List GColumn=>AV.lst (q.flatMap GColumn.cs) q.length) x.Cols)]).length=1 from rfl) (Upd.refl ((vfm_len (fun x=>(vfm_len (fun x=>(GCell.len x)) x)) y).trans (vfm_len (fun x=>(vfm_len (fun x=>(GCell.len x)) x)) x.Drawers).symm))))
theorem in_3:Info Tryz.prog 3 1 8 (.int .i64 0):=by unfold Info; kernel_rfl
theorem one_3:(.int .i64 0:Value).cells.all (·.oneCell')=true:=by kernel_rfl
theorem in_9:Info Tryz.prog 9 1 16 (.string ⟨#[]⟩):=by unfold Info; kernel_rfl
theorem in_30:Info Tryz.prog 30 1 8 (.int .u64 0):=by unfold Info; kernel_rfl
theorem in_32:Info Tryz.prog 32 4 40 (.agg #[.int .i64 0,.int .i64 0,.int .u64 0,.string ⟨#[]⟩]):=by unfold Info; kernel_rfl
theorem one_32:(.agg #[.int .i64 0,.int .i64 0,.int .u64 0,.string ⟨#[]⟩]:Value).cells.all (·.oneCell')=true:=by kernel_rfl
theorem zc_32:((.agg #[.int .i64 0,.int .i64 0,.int .u64 0,.string ⟨#[]⟩]:Value).cells.toList.map zcell)=GValue.cs GValue.zero:=by rfl
theorem pl_32:placesOf Tryz.prog 32=some [(0,1),(1,1),(2,1),(3,1)]:=by kernel_rfl
theorem in_63:Info Tryz.prog 63 3 32 (.agg #[.string ⟨#[]⟩,.int .i64 0,.bool false]):=by unfold Info; kernel_rfl
theorem one_63:(.agg #[.string ⟨#[]⟩,.int .i64 0,.bool false]:Value).cells.all (·.oneCell')=true:=by kernel_rfl
theorem zc_63:((.agg #[.string ⟨#[]⟩,.int .i64 0,.bool false]:Value).cells.toList.map zcell)=GColumn.cs GColumn.zero:=by rfl
theorem in_79:Info Tryz.prog 79 4 40 (.agg #[.int .i64 0,.string ⟨#[]⟩,.int .i64 0,.int .u64 0]):=by unfold Info; kernel_rfl
theorem one_79:(.agg #[.int .i64 0,.string ⟨#[]⟩,.int .i64 0,.int .u64 0]:Value).cells.all (·.oneCell')=true:=by kernel_rfl
theorem zc_79:((.agg #[.int .i64 0,.string ⟨#[]⟩,.int .i64 0,.int .u64 0]:Value).cells.toList.map zcell)=GToken.cs GToken.zero:=by rfl
theorem pl_79:placesOf Tryz.prog 79=some [(0,1),(1,1),(2,1),(3,1)]:=by kernel_rfl
theorem in_4:Info Tryz.prog 4 1 1 (.bool false):=by unfold Info; kernel_rfl
theorem in_26:Info Tryz.prog 26 8 128 (.agg #[.bool false,.slice none 0 0,.bool false,.slice none 0 0,.bool false,.slice none 0 0,.bool false,.slice none 0 0]):=by unfold Info; kernel_rfl
theorem one_26:(.agg #[.bool false,.slice none 0 0,.bool false,.slice none 0 0,.bool false,.slice none 0 0,.bool false,.slice none 0 0]:Value).cells.all (·.oneCell')=true:=by kernel_rfl
theorem zc_26:((.agg #[.bool false,.slice none 0 0,.bool false,.slice none 0 0,.bool false,.slice none 0 0,.bool false,.slice none 0 0]:Value).cells.toList.map zcell)=((Vector.replicate 4 GCell.zero).toList).flatMap GCell.cs:=by rfl
theorem in_25:Info Tryz.prog 25 2 32 (.agg #[.bool false,.slice none 0 0]):=by unfold Info; kernel_rfl
theorem one_25:(.agg #[.bool false,.slice none 0 0]:Value).cells.all (·.oneCell')=true:=by kernel_rfl
theorem zc_25:((.agg #[.bool false,.slice none 0 0]:Value).cells.toList.map zcell)=GCell.cs GCell.zero:=by rfl
theorem pl_25:placesOf Tryz.prog 25=some [(0,1),(1,1)]:=by kernel_rfl
theorem in_23:Info Tryz.prog 23 1 24 (.slice none 0 0):=by unfold Info; kernel_rfl
theorem in_22:Info Tryz.prog 22 1 24 (.slice none 0 0):=by unfold Info; kernel_rfl
theorem in_27:Info Tryz.prog 27 16 256 (.agg #[.bool false,.slice none 0 0,.bool false,.slice none 0 0,.bool false,.slice none 0 0,.bool false,.slice none 0 0,.bool false,.slice none 0 0,.bool false,.slice none 0 0,.bool false,.slice none 0 0,.bool false,.slice none 0 0]):=by unfold Info; kernel_rfl
theorem in_29:Info Tryz.prog 29 19 304 (.agg #[.bool false,.string ⟨#[]⟩,.slice none 0 0,.bool false,.slice none 0 0,.bool false,.slice none 0 0,.bool false,.slice none 0 0,.bool false,.slice none 0 0,.bool false,.slice none 0 0,.bool false,.slice none 0 0,.bool false,.slice none 0 0,.bool false,.slice none 0 0]):=by unfold Info; kernel_rfl
theorem one_29:(.agg #[.bool false,.string ⟨#[]⟩,.slice none 0 0,.bool false,.slice none 0 0,.bool false,.slice none 0 0,.bool false,.slice none 0 0,.bool false,.slice none 0 0,.bool false,.slice none 0 0,.bool false,.slice none 0 0,.bool false,.slice none 0 0,.bool false,.slice none 0 0]:Value).cells.all (·.oneCell')=true:=by kernel_rfl
theorem zc_29:((.agg #[.bool false,.string ⟨#[]⟩,.slice none 0 0,.bool false,.slice none 0 0,.bool false,.slice none 0 0,.bool false,.slice none 0 0,.bool false,.slice none 0 0,.bool false,.slice none 0 0,.bool false,.slice none 0 0,.bool false,.slice none 0 0,.bool false,.slice none 0 0]:Value).cells.toList.map zcell)=GTable.cs GTable.zero:=by rfl
theorem pl_29:placesOf Tryz.prog 29=some [(0,1),(1,1),(2,1),(3,16)]:=by kernel_rfl
theorem eq_32:EqT Tryz.prog 32 2 (fun x:GValue=>.agg (GValue.cs x)) :=
  eqt_struct [fun a b=>a.Kind=b.Kind,fun a b=>a.Int_=b.Int_,fun a b=>a.Bits=b.Bits,fun a b=>a.Text=b.Text] U32 (by kernel_rfl) ⟨(FieldEq.more (fe_one (by decide) U3 rfl (eqt_int U3) (fun a=>GValue.sub0 a)) (by decide:1≤1)),(FieldEq.more (fe_one (by decide) U3 rfl (eqt_int U3) (fun a=>GValue.sub1 a)) (by decide:1≤1)),(FieldEq.more (fe_one (by decide) U30 rfl (eqt_u64 U30) (fun a=>GValue.sub2 a)) (by decide:1≤1)),(FieldEq.more (fe_one (by decide) U9 rfl (eqt_txt U9) (fun a=>GValue.sub3 a)) (by decide:1≤1)),trivial⟩ (fun a b=>by
    cases a; cases b
    simp)
noncomputable def g_lex_small (c0:UInt8):Option (Bool) :=
  some (decide (((97:UInt8)≤c0)∧(c0≤(122:UInt8))))
set_option maxHeartbeats 4000000 in
set_option maxRecDepth 100000 in
theorem g_lex_small_ac {c0:UInt8} {r:Bool} (H:g_lex_small c0=some r):ACp Tryz.prog 60 [(AV.b8 c0)] (AV.bool r):=by
 refine ACp_of (AC2_of_body (vs:=[.b r]) Tryz.func60 Y Y (lb Y) Y ?_) (fun _=>.same _)
 unfold g_lex_small at H
 refine as2 [(0,.p (AV.b8 c0))] [] Y (sg [0] Y (ra Y (rz [(0,_)] [] Y (AW2_seq (AW2_mid (⟨[(2,.b (decide (((97:UInt8)≤c0)∧(c0≤(122:UInt8)))))],[],9⟩:TS) ?_ ?_)))))
 ·refine AW2_reg [0,1,2,3,4,5,6] Y (rm Y (rp Y (p_u8ge (a:=c0) (b:=(97:UInt8)) Y Y Y) (rm Y ?_)))
  refine (Classical.em ((97:UInt8)≤c0)).elim (fun h1=>?_) (fun h1=>?_)
  ·exact rn Y (dT h1) Y (p_move Y Y) (rn Y (dT h1) Y (p_u8le (a:=c0) (b:=(122:UInt8)) Y Y Y) (rp Y (p_pkt Y Y (dT h1) (tb ((and_l (p:=(97:UInt8)≤c0) (q:=c0≤(122:UInt8)) h1)))) (ra Y (rend Y Y))))
  exact rO Y (dF h1) Y (rO Y (dF h1) Y (rp Y (p_pkf Y Y (dF h1) (tb (dF (p:=((97:UInt8)≤c0)∧(c0≤(122:UInt8))) (fun x=>h1 x.1)).symm)) (ra Y (rend Y Y))))
 refine AW2_ret ?_
 have z:=se H; subst z
 exact ⟨⟨rt,trivial⟩,trivial⟩
noncomputable def g_lex_digit (c0:UInt8):Option (Bool) :=
  some (decide (((48:UInt8)≤c0)∧(c0≤(57:UInt8))))
set_option maxHeartbeats 4000000 in
set_option maxRecDepth 100000 in
theorem g_lex_digit_ac {c0:UInt8} {r:Bool} (H:g_lex_digit c0=some r):ACp Tryz.prog 83 [(AV.b8 c0)] (AV.bool r):=by
 refine ACp_of (AC2_of_body (vs:=[.b r]) Tryz.func83 Y Y (lb Y) Y ?_) (fun _=>.same _)
 unfold g_lex_digit at H
 refine as2 [(0,.p (AV.b8 c0))] [] Y (sg [0] Y (ra Y (rz [(0,_)] [] Y (AW2_seq (AW2_mid (⟨[(2,.b (decide (((48:UInt8)≤c0)∧(c0≤(57:UInt8)))))],[],9⟩:TS) ?_ ?_)))))
 ·refine AW2_reg [0,1,2,3,4,5,6] Y (rm Y (rp Y (p_u8ge (a:=c0) (b:=(48:UInt8)) Y Y Y) (rm Y ?_)))
  refine (Classical.em ((48:UInt8)≤c0)).elim (fun h1=>?_) (fun h1=>?_)
  ·exact rn Y (dT h1) Y (p_move Y Y) (rn Y (dT h1) Y (p_u8le (a:=c0) (b:=(57:UInt8)) Y Y Y) (rp Y (p_pkt Y Y (dT h1) (tb ((and_l (p:=(48:UInt8)≤c0) (q:=c0≤(57:UInt8)) h1)))) (ra Y (rend Y Y))))
  exact rO Y (dF h1) Y (rO Y (dF h1) Y (rp Y (p_pkf Y Y (dF h1) (tb (dF (p:=((48:UInt8)≤c0)∧(c0≤(57:UInt8))) (fun x=>h1 x.1)).symm)) (ra Y (rend Y Y))))
 refine AW2_ret ?_
 have z:=se H; subst z
 exact ⟨⟨rt,trivial⟩,trivial⟩
noncomputable def g_lex_inName (c0:UInt8):Option (Bool) :=
  ((g_lex_small c0).bind fun r'3=>(if r'3=true then some true else (g_lex_digit c0).bind fun r'4=>(if r'4=true then some true else some (decide (c0=(95:UInt8)))))).bind fun g'5=>some g'5
set_option maxHeartbeats 4000000 in
set_option maxRecDepth 100000 in
theorem g_lex_inName_ac {c0:UInt8} {r:Bool} (H:g_lex_inName c0=some r):ACp Tryz.prog 59 [(AV.b8 c0)] (AV.bool r):=by
 refine ACp_of (AC2_of_body (vs:=[.b r]) Tryz.func59 Y Y (lb Y) Y ?_) (fun _=>.same _)
 unfold g_lex_inName at H
 refine as2 [(0,.p (AV.b8 c0))] [] Y (sg [0] Y (ra Y (rz [(0,_)] [] Y (AW2_seq (bindK H fun g'5 h7 H=>AW2_mid (⟨[(2,.b g'5)],[],13⟩:TS) ?_ ?_)))))
 ·clear H
  have H:=h7
  clear h7
  refine AW2_reg [0,1,2,3,4,5,6,7,8,9,10] Y (rm Y (bindK H fun r'3 h3 H=>rp Y (p_callp Y Y Y Tryz.func60 Y Y (g_lex_small_ac h3) ⟨Y,trivial⟩) (rm Y (em2 H (fun h4 H=>?_) (fun h4 H=>?_)))))
  ·refine rO Y h4 Y (rO Y h4 Y (rp Y (p_pkt Y Y h4 (.same _)) (rm Y (rO Y Y Y (rO Y Y Y (rp Y (p_pkt Y Y Y (.same _)) ?_))))))
   refine ra Y (rs [(2,.b true)] [] Y ?_)
   have z:=se H; subst z
   exact RunW_nil rfl
  refine rn Y (bfalse h4) Y (p_move Y Y) (bindK H fun r'4 h5 H=>rn Y (bfalse h4) Y (p_callp Y Y Y Tryz.func83 Y Y (g_lex_digit_ac h5) ⟨Y,trivial⟩) (rp Y (p_pkf Y Y (bfalse h4) (.same _)) (rm Y (em2 H (fun h6 H=>?_) (fun h6 H=>?_)))))
  ·refine rO Y h6 Y (rO Y h6 Y (rp Y (p_pkt Y Y h6 (.same _)) (ra Y (rs [(2,.b true)] [] Y ?_))))
   have z:=se H; subst z
   exact RunW_nil rfl
  refine rn Y (bfalse h6) Y (p_move Y Y) (rn Y (bfalse h6) Y (p_u8eq (a:=c0) (b:=(95:UInt8)) Y Y Y) (rp Y (p_pkf Y Y (bfalse h6) (.same _)) (ra Y (rs [(2,.b (decide (c0=(95:UInt8))))] [] Y ?_))))
  have z:=se H; subst z
  exact RunW_nil rfl
 refine AW2_ret ?_
 have z:=se H; subst z
 exact ⟨⟨rt,trivial⟩,trivial⟩
noncomputable def g_lex_great (c0:UInt8):Option (Bool) :=
  some (decide (((65:UInt8)≤c0)∧(c0≤(90:UInt8))))
set_option maxHeartbeats 4000000 in
set_option maxRecDepth 100000 in
theorem g_lex_great_ac {c0:UInt8} {r:Bool} (H:g_lex_great c0=some r):ACp Tryz.prog 61 [(AV.b8 c0)] (AV.bool r):=by
 refine ACp_of (AC2_of_body (vs:=[.b r]) Tryz.func61 Y Y (lb Y) Y ?_) (fun _=>.same _)
 unfold g_lex_great at H
 refine as2 [(0,.p (AV.b8 c0))] [] Y (sg [0] Y (ra Y (rz [(0,_)] [] Y (AW2_seq (AW2_mid (⟨[(2,.b (decide (((65:UInt8)≤c0)∧(c0≤(90:UInt8)))))],[],9⟩:TS) ?_ ?_)))))
 ·refine AW2_reg [0,1,2,3,4,5,6] Y (rm Y (rp Y (p_u8ge (a:=c0) (b:=(65:UInt8)) Y Y Y) (rm Y ?_)))
  refine (Classical.em ((65:UInt8)≤c0)).elim (fun h1=>?_) (fun h1=>?_)
  ·exact rn Y (dT h1) Y (p_move Y Y) (rn Y (dT h1) Y (p_u8le (a:=c0) (b:=(90:UInt8)) Y Y Y) (rp Y (p_pkt Y Y (dT h1) (tb ((and_l (p:=(65:UInt8)≤c0) (q:=c0≤(90:UInt8)) h1)))) (ra Y (rend Y Y))))
  exact rO Y (dF h1) Y (rO Y (dF h1) Y (rp Y (p_pkf Y Y (dF h1) (tb (dF (p:=((65:UInt8)≤c0)∧(c0≤(90:UInt8))) (fun x=>h1 x.1)).symm)) (ra Y (rend Y Y))))
 refine AW2_ret ?_
 have z:=se H; subst z
 exact ⟨⟨rt,trivial⟩,trivial⟩
noncomputable def g_math_Signbit (x0:F64):Option (Bool) :=
  some (decide (w64 (x0.toNat:Int) < (0:Int)))
set_option maxHeartbeats 4000000 in
set_option maxRecDepth 100000 in
theorem g_math_Signbit_ac {x0:F64} {r:Bool} (H:g_math_Signbit x0=some r):ACp Tryz.prog 86 [(AV.f64 x0)] (AV.bool r):=by
 refine ACp_of (AC2_of_body (vs:=[.b r]) Tryz.func86 Y Y (lb Y) Y ?_) (fun _=>.same _)
 unfold g_math_Signbit at H
 refine as2 [(0,.p (AV.f64 x0))] [] Y (sg [0] Y (ra Y (rz [(0,_)] [] Y (sg [0,1,2,3,4] Y (rm Y (rp Y (p_tobits (a:=x0) Y Y Y Tryz.func91 Y Y (by kernel_rfl) (by kernel_rfl) Y) ?_))))))
 refine rp Y (p_u64_i (a:=x0) Y U30 U2 Y) (rp Y (p_bin Y Y Y Y) (ra Y (rz [(2,.b (decide (w64 (x0.toNat:Int) < (0:Int))))] [] Y (AW2_ret ?_))))
 have z:=se H; subst z
 exact ⟨⟨rt,trivial⟩,trivial⟩
noncomputable def g_value_Check (v0:GValue):Option (Int) :=
  (if (v0.Kind < (0:Int))∨(v0.Kind > (4:Int)) then some (2:Int) else (if (v0.Text.length:Int) > (40:Int) then some (1:Int) else letO (decide ((((v0.Kind≠(4:Int))∧(v0.Text≠[]))∨((v0.Kind≠(3:Int))∧(v0.Bits≠(0:UInt64))))∨(((v0.Kind≠(2:Int))∧(v0.Kind≠(1:Int)))∧(v0.Int_≠(0:Int))))) fun t48'1=>(if t48'1=true then some (3:Int) else (show Option (Int⊕Unit) from (if v0.Kind=(1:Int) then (if (v0.Int_≠(0:Int))∧(v0.Int_≠(1:Int)) then some (.inl (3:Int)) else some (.inr ())) else (if v0.Kind=(3:Int) then ((if (fneq v0.Bits v0.Bits)=true then some true else (if (feq v0.Bits (0:F64))=true then (g_math_Signbit v0.Bits).bind fun r'4=>some r'4 else some false))).bind fun g'5=>(if g'5=true then some (.inl (3:Int)) else some (.inr ())) else (if v0.Kind=(4:Int) then (g_utf8_ValidString v0.Text).bind fun r'6=>(if (!r'6)=true then some (.inl (3:Int)) else some (.inr ())) else some (.inr ()))))).bind fun o'8=>match o'8 with | .inl y'7=>some y'7 | .inr j'2=>some (0:Int))))
set_option maxHeartbeats 4000000 in
set_option maxRecDepth 100000 in
theorem g_value_Check_ac {v0:GValue} {r:Int} (H:g_value_Check v0=some r):ACp Tryz.prog 63 [(.agg (GValue.cs v0))] (AV.int r):=by
 refine ACp_of (AC2_of_body (vs:=[.i r]) Tryz.func63 Y Y (lb Y) Y ?_) (fun _=>.same _)
 unfold g_value_Check at H
 refine as2 [(0,.g (GValue.cs v0))] [] Y (sg [0,1] Y (rq Y (MakeD.opD (n_box 1 Y Y) Y Y Y Y) (ra Y (rz [(1,.q 1 (0))] [(1,.pure (GValue.cs v0))] Y (AW2_seq (AW2_seq ?_))))))
 refine AW2_mid (⟨[(1,.q 1 (0)),(11,.b (decide ((v0.Kind < (0:Int))∨(v0.Kind > (4:Int)))))],[(1,.pure (GValue.cs v0))],83⟩:TS) ?_ ?_
 ·refine AW2_reg [0,1,2,3,4,5,6,7] Y (rf Y U32 Y in_3 Y Y (GValue.len v0) (rp Y (u_ld Y Y U3 Y Y (GValue.sub0 v0)) (rp Y (p_bin Y Y Y Y) (rm Y ?_))))
  refine (Classical.em (v0.Kind < (0:Int))).elim (fun h1=>?_) (fun h1=>?_)
  ·iterate 3 (refine rO Y (dT h1) Y ?_)
   exact rp Y (p_pkt Y Y (dT h1) (tb (dT (p:=(v0.Kind < (0:Int))∨(v0.Kind > (4:Int))) (Or.inl h1)).symm)) (rend Y Y)
  exact rn Y (dF h1) Y (u_fa Y Y U32 Y in_3 nz Y Y (nl (GValue.len v0))) (rn Y (dF h1) Y (u_ld Y Y U3 Y Y (GValue.sub0 v0)) (rn Y (dF h1) Y (p_bin Y Y Y Y) (rp Y (p_pkf Y Y (dF h1) (tb ((or_l (p:=v0.Kind < (0:Int)) (q:=v0.Kind > (4:Int)) h1)))) (rend Y Y))))
 refine if2 H Y (fun h2 H=>?_) (fun h2 H=>?_)
 ·refine sg [0] Y (ra Y (rz [(2,.i (2:Int))] [] Y (AW2_ret ?_)))
  have z:=se H; subst z
  exact ⟨⟨rt,trivial⟩,trivial⟩
 refine as2 [(1,_)] [(1,_)] Y (AW2_skip (AW2_seq (sg [0,1,2,3] Y (rf Y U32 Y in_9 Y Y (GValue.len v0) (rp Y (u_ld Y Y U9 Y Y (GValue.sub3 v0)) (rp Y (p_lent Y U9 Y) ?_))))))
 refine rp Y (p_bin Y Y Y Y) (rz [(1,_),(15,.b (decide ((v0.Text.length:Int) > (40:Int))))] [(1,_)] Y (if2 H Y (fun h3 H=>?_) (fun h3 H=>?_)))
 ·refine sg [0] Y (ra Y (rz [(2,.i (1:Int))] [] Y (AW2_ret ?_)))
  have z:=se H; subst z
  exact ⟨⟨rt,trivial⟩,trivial⟩
 refine as2 [(1,_)] [(1,_)] Y (AW2_skip (AW2_seq (AW2_seq (AW2_mid (⟨[(1,.q 1 (0)),(48,.b (decide ((((v0.Kind≠(4:Int))∧(v0.Text≠[]))∨((v0.Kind≠(3:Int))∧(v0.Bits≠(0:UInt64))))∨(((v0.Kind≠(2:Int))∧(v0.Kind≠(1:Int)))∧(v0.Int_≠(0:Int))))))],[(1,.pure (GValue.cs v0))],83⟩:TS) ?_ ?_))))
 ·refine AW2_reg [0,1,2,3,4,5,6,7,8,9,10,11,12,13,14,15,16,17,18,19,20,21,22,23,24,25,26,27,28,29,30,31,32] Y (rf Y U32 Y in_3 Y Y (GValue.len v0) (rp Y (u_ld Y Y U3 Y Y (GValue.sub0 v0)) (rp Y (p_ine Y Y Y) (rm Y ?_))))
  refine (Classical.em (v0.Kind≠(4:Int))).elim (fun h4=>?_) (fun h4=>?_)
  ·refine rn Y (dT h4) Y (u_fa Y Y U32 Y in_9 nz Y Y (nl (GValue.len v0))) (rn Y (dT h4) Y (u_ld Y Y U9 Y Y (GValue.sub3 v0)) (rn Y (dT h4) Y (p_sne Y Y Y) (rp Y (p_pkt Y Y (dT h4) (tb ((and_l (p:=v0.Kind≠(4:Int)) (q:=v0.Text≠[]) h4)))) (rm Y ?_))))
   refine (Classical.em (v0.Text≠[])).elim (fun h5=>?_) (fun h5=>?_)
   ·have qq1:=dT (p:=(v0.Kind≠(4:Int))∧(v0.Text≠[])) ⟨h4,h5⟩
    iterate 4 (refine rO Y qq1 Y ?_)
    iterate 3 (refine r_off2 rfl rfl rfl rfl rfl rfl ?_)
    refine rO Y qq1 Y ?_
    have qq2:=dT (p:=((v0.Kind≠(4:Int))∧(v0.Text≠[]))∨((v0.Kind≠(3:Int))∧(v0.Bits≠(0:UInt64)))) (Or.inl ⟨h4,h5⟩)
    refine rp Y (p_pkt Y Y qq1 (tb qq2.symm)) (rm Y ?_)
    iterate 4 (refine rO Y qq2 Y ?_)
    iterate 3 (refine r_off2 rfl rfl rfl rfl rfl rfl ?_)
    iterate 2 (refine rO Y qq2 Y ?_)
    iterate 3 (refine r_off2 rfl rfl rfl rfl rfl rfl ?_)
    exact rO Y qq2 Y (rp Y (p_pkt Y Y qq2 (tb (dT (p:=(((v0.Kind≠(4:Int))∧(v0.Text≠[]))∨((v0.Kind≠(3:Int))∧(v0.Bits≠(0:UInt64))))∨(((v0.Kind≠(2:Int))∧(v0.Kind≠(1:Int)))∧(v0.Int_≠(0:Int)))) (Or.inl (Or.inl ⟨h4,h5⟩))).symm)) (rend Y Y))
   have qq3:=dF (p:=(v0.Kind≠(4:Int))∧(v0.Text≠[])) (fun h=>h5 h.2)
   refine rn Y qq3 Y (u_fa Y Y U32 Y in_3 nz Y Y (nl (GValue.len v0))) (rn Y qq3 Y (u_ld Y Y U3 Y Y (GValue.sub0 v0)) (rn Y qq3 Y (p_ine Y Y Y) (rn Y qq3 Y (p_move Y Y) ?_)))
   refine (Classical.em (v0.Kind≠(3:Int))).elim (fun h6=>?_) (fun h6=>?_)
   ·refine rn Y (dT h6) Y (u_fa Y Y U32 Y in_30 nz Y Y (nl (GValue.len v0))) (rn Y (dT h6) Y (u_ld Y Y U30 Y Y (GValue.sub2 v0)) (rn Y (dT h6) Y (p_u64ne (a:=v0.Bits) (b:=(0:UInt64)) Y Y Y) (rn Y qq3 Y (p_pkt Y Y (dT h6) (tb ((and_l (p:=v0.Kind≠(3:Int)) (q:=v0.Bits≠(0:UInt64)) h6)))) (rp Y (p_pkf Y Y qq3 (tb ((or_l (p:=(v0.Kind≠(4:Int))∧(v0.Text≠[])) (q:=(v0.Kind≠(3:Int))∧(v0.Bits≠(0:UInt64))) (fun h=>h5 h.2))))) (rm Y ?_)))))
    refine (Classical.em (v0.Bits≠(0:UInt64))).elim (fun h7=>?_) (fun h7=>?_)
    ·have qq4:=dT (p:=((v0.Kind≠(4:Int))∧(v0.Text≠[]))∨((v0.Kind≠(3:Int))∧(v0.Bits≠(0:UInt64)))) (Or.inr ⟨h6,h7⟩)
     iterate 4 (refine rO Y qq4 Y ?_)
     iterate 3 (refine r_off2 rfl rfl rfl rfl rfl rfl ?_)
     iterate 2 (refine rO Y qq4 Y ?_)
     iterate 3 (refine r_off2 rfl rfl rfl rfl rfl rfl ?_)
     exact rO Y qq4 Y (rp Y (p_pkt Y Y qq4 (tb (dT (p:=(((v0.Kind≠(4:Int))∧(v0.Text≠[]))∨((v0.Kind≠(3:Int))∧(v0.Bits≠(0:UInt64))))∨(((v0.Kind≠(2:Int))∧(v0.Kind≠(1:Int)))∧(v0.Int_≠(0:Int)))) (Or.inl (Or.inr ⟨h6,h7⟩))).symm)) (rend Y Y))
    have qq5:=dF (p:=((v0.Kind≠(4:Int))∧(v0.Text≠[]))∨((v0.Kind≠(3:Int))∧(v0.Bits≠(0:UInt64)))) (not_or.2 ⟨(fun h=>h5 h.2),(fun h=>h7 h.2)⟩)
    refine rn Y qq5 Y (u_fa Y Y U32 Y in_3 nz Y Y (nl (GValue.len v0))) (rn Y qq5 Y (u_ld Y Y U3 Y Y (GValue.sub0 v0)) (rn Y qq5 Y (p_ine Y Y Y) (rn Y qq5 Y (p_move Y Y) ?_)))
    refine (Classical.em (v0.Kind≠(2:Int))).elim (fun h8=>?_) (fun h8=>?_)
    ·refine rn Y (dT h8) Y (u_fa Y Y U32 Y in_3 nz Y Y (nl (GValue.len v0))) (rn Y (dT h8) Y (u_ld Y Y U3 Y Y (GValue.sub0 v0)) (rn Y (dT h8) Y (p_ine Y Y Y) (rn Y qq5 Y (p_pkt Y Y (dT h8) (tb ((and_l (p:=v0.Kind≠(2:Int)) (q:=v0.Kind≠(1:Int)) h8)))) (rn Y qq5 Y (p_move Y Y) ?_))))
     refine (Classical.em (v0.Kind≠(1:Int))).elim (fun h9=>?_) (fun h9=>?_)
     ·have qq6:=dT (p:=(v0.Kind≠(2:Int))∧(v0.Kind≠(1:Int))) ⟨h8,h9⟩
      exact rn Y qq6 Y (u_fa Y Y U32 Y in_3 nz Y Y (nl (GValue.len v0))) (rn Y qq6 Y (u_ld Y Y U3 Y Y (GValue.sub1 v0)) (rn Y qq6 Y (p_ine Y Y Y) (rn Y qq5 Y (p_pkt Y Y qq6 (tb ((and_l (p:=(v0.Kind≠(2:Int))∧(v0.Kind≠(1:Int))) (q:=v0.Int_≠(0:Int)) ⟨h8,h9⟩)))) (rp Y (p_pkf Y Y qq5 (tb ((or_l (p:=((v0.Kind≠(4:Int))∧(v0.Text≠[]))∨((v0.Kind≠(3:Int))∧(v0.Bits≠(0:UInt64)))) (q:=((v0.Kind≠(2:Int))∧(v0.Kind≠(1:Int)))∧(v0.Int_≠(0:Int))) (not_or.2 ⟨(fun h=>h5 h.2),(fun h=>h7 h.2)⟩))))) (rend Y Y)))))
     have qq7:=dF (p:=(v0.Kind≠(2:Int))∧(v0.Kind≠(1:Int))) (fun h=>h9 h.2)
     iterate 3 (refine rO Y qq7 Y ?_)
     exact rn Y qq5 Y (p_pkf Y Y qq7 (tb (dF (p:=((v0.Kind≠(2:Int))∧(v0.Kind≠(1:Int)))∧(v0.Int_≠(0:Int))) (fun x=>(fun h=>h9 h.2) x.1)).symm)) (rp Y (p_pkf Y Y qq5 (tb ((or_l (p:=((v0.Kind≠(4:Int))∧(v0.Text≠[]))∨((v0.Kind≠(3:Int))∧(v0.Bits≠(0:UInt64)))) (q:=((v0.Kind≠(2:Int))∧(v0.Kind≠(1:Int)))∧(v0.Int_≠(0:Int))) (not_or.2 ⟨(fun h=>h5 h.2),(fun h=>h7 h.2)⟩))))) (rend Y Y))
    iterate 3 (refine rO Y (dF h8) Y ?_)
    refine rn Y qq5 Y (p_pkf Y Y (dF h8) (tb (dF (p:=(v0.Kind≠(2:Int))∧(v0.Kind≠(1:Int))) (fun x=>h8 x.1)).symm)) (rn Y qq5 Y (p_move Y Y) ?_)
    have qq8:=dF (p:=(v0.Kind≠(2:Int))∧(v0.Kind≠(1:Int))) (fun h=>h8 h.1)
    iterate 3 (refine rO Y qq8 Y ?_)
    exact rn Y qq5 Y (p_pkf Y Y qq8 (tb (dF (p:=((v0.Kind≠(2:Int))∧(v0.Kind≠(1:Int)))∧(v0.Int_≠(0:Int))) (fun x=>(fun h=>h8 h.1) x.1)).symm)) (rp Y (p_pkf Y Y qq5 (tb ((or_l (p:=((v0.Kind≠(4:Int))∧(v0.Text≠[]))∨((v0.Kind≠(3:Int))∧(v0.Bits≠(0:UInt64)))) (q:=((v0.Kind≠(2:Int))∧(v0.Kind≠(1:Int)))∧(v0.Int_≠(0:Int))) (not_or.2 ⟨(fun h=>h5 h.2),(fun h=>h7 h.2)⟩))))) (rend Y Y))
   iterate 3 (refine rO Y (dF h6) Y ?_)
   refine rn Y qq3 Y (p_pkf Y Y (dF h6) (tb (dF (p:=(v0.Kind≠(3:Int))∧(v0.Bits≠(0:UInt64))) (fun x=>h6 x.1)).symm)) (rp Y (p_pkf Y Y qq3 (tb ((or_l (p:=(v0.Kind≠(4:Int))∧(v0.Text≠[])) (q:=(v0.Kind≠(3:Int))∧(v0.Bits≠(0:UInt64))) (fun h=>h5 h.2))))) (rm Y ?_))
   have qq9:=dF (p:=((v0.Kind≠(4:Int))∧(v0.Text≠[]))∨((v0.Kind≠(3:Int))∧(v0.Bits≠(0:UInt64)))) (not_or.2 ⟨(fun h=>h5 h.2),(fun h=>h6 h.1)⟩)
   refine rn Y qq9 Y (u_fa Y Y U32 Y in_3 nz Y Y (nl (GValue.len v0))) (rn Y qq9 Y (u_ld Y Y U3 Y Y (GValue.sub0 v0)) (rn Y qq9 Y (p_ine Y Y Y) (rn Y qq9 Y (p_move Y Y) ?_)))
   refine (Classical.em (v0.Kind≠(2:Int))).elim (fun h10=>?_) (fun h10=>?_)
   ·refine rn Y (dT h10) Y (u_fa Y Y U32 Y in_3 nz Y Y (nl (GValue.len v0))) (rn Y (dT h10) Y (u_ld Y Y U3 Y Y (GValue.sub0 v0)) (rn Y (dT h10) Y (p_ine Y Y Y) (rn Y qq9 Y (p_pkt Y Y (dT h10) (tb ((and_l (p:=v0.Kind≠(2:Int)) (q:=v0.Kind≠(1:Int)) h10)))) (rn Y qq9 Y (p_move Y Y) ?_))))
    refine (Classical.em (v0.Kind≠(1:Int))).elim (fun h11=>?_) (fun h11=>?_)
    ·have qq10:=dT (p:=(v0.Kind≠(2:Int))∧(v0.Kind≠(1:Int))) ⟨h10,h11⟩
     exact rn Y qq10 Y (u_fa Y Y U32 Y in_3 nz Y Y (nl (GValue.len v0))) (rn Y qq10 Y (u_ld Y Y U3 Y Y (GValue.sub1 v0)) (rn Y qq10 Y (p_ine Y Y Y) (rn Y qq9 Y (p_pkt Y Y qq10 (tb ((and_l (p:=(v0.Kind≠(2:Int))∧(v0.Kind≠(1:Int))) (q:=v0.Int_≠(0:Int)) ⟨h10,h11⟩)))) (rp Y (p_pkf Y Y qq9 (tb ((or_l (p:=((v0.Kind≠(4:Int))∧(v0.Text≠[]))∨((v0.Kind≠(3:Int))∧(v0.Bits≠(0:UInt64)))) (q:=((v0.Kind≠(2:Int))∧(v0.Kind≠(1:Int)))∧(v0.Int_≠(0:Int))) (not_or.2 ⟨(fun h=>h5 h.2),(fun h=>h6 h.1)⟩))))) (rend Y Y)))))
    have qq11:=dF (p:=(v0.Kind≠(2:Int))∧(v0.Kind≠(1:Int))) (fun h=>h11 h.2)
    iterate 3 (refine rO Y qq11 Y ?_)
    exact rn Y qq9 Y (p_pkf Y Y qq11 (tb (dF (p:=((v0.Kind≠(2:Int))∧(v0.Kind≠(1:Int)))∧(v0.Int_≠(0:Int))) (fun x=>(fun h=>h11 h.2) x.1)).symm)) (rp Y (p_pkf Y Y qq9 (tb ((or_l (p:=((v0.Kind≠(4:Int))∧(v0.Text≠[]))∨((v0.Kind≠(3:Int))∧(v0.Bits≠(0:UInt64)))) (q:=((v0.Kind≠(2:Int))∧(v0.Kind≠(1:Int)))∧(v0.Int_≠(0:Int))) (not_or.2 ⟨(fun h=>h5 h.2),(fun h=>h6 h.1)⟩))))) (rend Y Y))
   iterate 3 (refine rO Y (dF h10) Y ?_)
   refine rn Y qq9 Y (p_pkf Y Y (dF h10) (tb (dF (p:=(v0.Kind≠(2:Int))∧(v0.Kind≠(1:Int))) (fun x=>h10 x.1)).symm)) (rn Y qq9 Y (p_move Y Y) ?_)
   have qq12:=dF (p:=(v0.Kind≠(2:Int))∧(v0.Kind≠(1:Int))) (fun h=>h10 h.1)
   iterate 3 (refine rO Y qq12 Y ?_)
   exact rn Y qq9 Y (p_pkf Y Y qq12 (tb (dF (p:=((v0.Kind≠(2:Int))∧(v0.Kind≠(1:Int)))∧(v0.Int_≠(0:Int))) (fun x=>(fun h=>h10 h.1) x.1)).symm)) (rp Y (p_pkf Y Y qq9 (tb ((or_l (p:=((v0.Kind≠(4:Int))∧(v0.Text≠[]))∨((v0.Kind≠(3:Int))∧(v0.Bits≠(0:UInt64)))) (q:=((v0.Kind≠(2:Int))∧(v0.Kind≠(1:Int)))∧(v0.Int_≠(0:Int))) (not_or.2 ⟨(fun h=>h5 h.2),(fun h=>h6 h.1)⟩))))) (rend Y Y))
  iterate 3 (refine rO Y (dF h4) Y ?_)
  refine rp Y (p_pkf Y Y (dF h4) (tb (dF (p:=(v0.Kind≠(4:Int))∧(v0.Text≠[])) (fun x=>h4 x.1)).symm)) (rm Y ?_)
  have qq13:=dF (p:=(v0.Kind≠(4:Int))∧(v0.Text≠[])) (fun h=>h4 h.1)
  refine rn Y qq13 Y (u_fa Y Y U32 Y in_3 nz Y Y (nl (GValue.len v0))) (rn Y qq13 Y (u_ld Y Y U3 Y Y (GValue.sub0 v0)) (rn Y qq13 Y (p_ine Y Y Y) (rn Y qq13 Y (p_move Y Y) ?_)))
  refine (Classical.em (v0.Kind≠(3:Int))).elim (fun h12=>?_) (fun h12=>?_)
  ·refine rn Y (dT h12) Y (u_fa Y Y U32 Y in_30 nz Y Y (nl (GValue.len v0))) (rn Y (dT h12) Y (u_ld Y Y U30 Y Y (GValue.sub2 v0)) (rn Y (dT h12) Y (p_u64ne (a:=v0.Bits) (b:=(0:UInt64)) Y Y Y) (rn Y qq13 Y (p_pkt Y Y (dT h12) (tb ((and_l (p:=v0.Kind≠(3:Int)) (q:=v0.Bits≠(0:UInt64)) h12)))) (rp Y (p_pkf Y Y qq13 (tb ((or_l (p:=(v0.Kind≠(4:Int))∧(v0.Text≠[])) (q:=(v0.Kind≠(3:Int))∧(v0.Bits≠(0:UInt64))) (fun h=>h4 h.1))))) (rm Y ?_)))))
   refine (Classical.em (v0.Bits≠(0:UInt64))).elim (fun h13=>?_) (fun h13=>?_)
   ·have qq14:=dT (p:=((v0.Kind≠(4:Int))∧(v0.Text≠[]))∨((v0.Kind≠(3:Int))∧(v0.Bits≠(0:UInt64)))) (Or.inr ⟨h12,h13⟩)
    iterate 4 (refine rO Y qq14 Y ?_)
    iterate 3 (refine r_off2 rfl rfl rfl rfl rfl rfl ?_)
    iterate 2 (refine rO Y qq14 Y ?_)
    iterate 3 (refine r_off2 rfl rfl rfl rfl rfl rfl ?_)
    exact rO Y qq14 Y (rp Y (p_pkt Y Y qq14 (tb (dT (p:=(((v0.Kind≠(4:Int))∧(v0.Text≠[]))∨((v0.Kind≠(3:Int))∧(v0.Bits≠(0:UInt64))))∨(((v0.Kind≠(2:Int))∧(v0.Kind≠(1:Int)))∧(v0.Int_≠(0:Int)))) (Or.inl (Or.inr ⟨h12,h13⟩))).symm)) (rend Y Y))
   have qq15:=dF (p:=((v0.Kind≠(4:Int))∧(v0.Text≠[]))∨((v0.Kind≠(3:Int))∧(v0.Bits≠(0:UInt64)))) (not_or.2 ⟨(fun h=>h4 h.1),(fun h=>h13 h.2)⟩)
   refine rn Y qq15 Y (u_fa Y Y U32 Y in_3 nz Y Y (nl (GValue.len v0))) (rn Y qq15 Y (u_ld Y Y U3 Y Y (GValue.sub0 v0)) (rn Y qq15 Y (p_ine Y Y Y) (rn Y qq15 Y (p_move Y Y) ?_)))
   refine (Classical.em (v0.Kind≠(2:Int))).elim (fun h14=>?_) (fun h14=>?_)
   ·refine rn Y (dT h14) Y (u_fa Y Y U32 Y in_3 nz Y Y (nl (GValue.len v0))) (rn Y (dT h14) Y (u_ld Y Y U3 Y Y (GValue.sub0 v0)) (rn Y (dT h14) Y (p_ine Y Y Y) (rn Y qq15 Y (p_pkt Y Y (dT h14) (tb ((and_l (p:=v0.Kind≠(2:Int)) (q:=v0.Kind≠(1:Int)) h14)))) (rn Y qq15 Y (p_move Y Y) ?_))))
    refine (Classical.em (v0.Kind≠(1:Int))).elim (fun h15=>?_) (fun h15=>?_)
    ·have qq16:=dT (p:=(v0.Kind≠(2:Int))∧(v0.Kind≠(1:Int))) ⟨h14,h15⟩
     exact rn Y qq16 Y (u_fa Y Y U32 Y in_3 nz Y Y (nl (GValue.len v0))) (rn Y qq16 Y (u_ld Y Y U3 Y Y (GValue.sub1 v0)) (rn Y qq16 Y (p_ine Y Y Y) (rn Y qq15 Y (p_pkt Y Y qq16 (tb ((and_l (p:=(v0.Kind≠(2:Int))∧(v0.Kind≠(1:Int))) (q:=v0.Int_≠(0:Int)) ⟨h14,h15⟩)))) (rp Y (p_pkf Y Y qq15 (tb ((or_l (p:=((v0.Kind≠(4:Int))∧(v0.Text≠[]))∨((v0.Kind≠(3:Int))∧(v0.Bits≠(0:UInt64)))) (q:=((v0.Kind≠(2:Int))∧(v0.Kind≠(1:Int)))∧(v0.Int_≠(0:Int))) (not_or.2 ⟨(fun h=>h4 h.1),(fun h=>h13 h.2)⟩))))) (rend Y Y)))))
    have qq17:=dF (p:=(v0.Kind≠(2:Int))∧(v0.Kind≠(1:Int))) (fun h=>h15 h.2)
    iterate 3 (refine rO Y qq17 Y ?_)
    exact rn Y qq15 Y (p_pkf Y Y qq17 (tb (dF (p:=((v0.Kind≠(2:Int))∧(v0.Kind≠(1:Int)))∧(v0.Int_≠(0:Int))) (fun x=>(fun h=>h15 h.2) x.1)).symm)) (rp Y (p_pkf Y Y qq15 (tb ((or_l (p:=((v0.Kind≠(4:Int))∧(v0.Text≠[]))∨((v0.Kind≠(3:Int))∧(v0.Bits≠(0:UInt64)))) (q:=((v0.Kind≠(2:Int))∧(v0.Kind≠(1:Int)))∧(v0.Int_≠(0:Int))) (not_or.2 ⟨(fun h=>h4 h.1),(fun h=>h13 h.2)⟩))))) (rend Y Y))
   iterate 3 (refine rO Y (dF h14) Y ?_)
   refine rn Y qq15 Y (p_pkf Y Y (dF h14) (tb (dF (p:=(v0.Kind≠(2:Int))∧(v0.Kind≠(1:Int))) (fun x=>h14 x.1)).symm)) (rn Y qq15 Y (p_move Y Y) ?_)
   have qq18:=dF (p:=(v0.Kind≠(2:Int))∧(v0.Kind≠(1:Int))) (fun h=>h14 h.1)
   iterate 3 (refine rO Y qq18 Y ?_)
   exact rn Y qq15 Y (p_pkf Y Y qq18 (tb (dF (p:=((v0.Kind≠(2:Int))∧(v0.Kind≠(1:Int)))∧(v0.Int_≠(0:Int))) (fun x=>(fun h=>h14 h.1) x.1)).symm)) (rp Y (p_pkf Y Y qq15 (tb ((or_l (p:=((v0.Kind≠(4:Int))∧(v0.Text≠[]))∨((v0.Kind≠(3:Int))∧(v0.Bits≠(0:UInt64)))) (q:=((v0.Kind≠(2:Int))∧(v0.Kind≠(1:Int)))∧(v0.Int_≠(0:Int))) (not_or.2 ⟨(fun h=>h4 h.1),(fun h=>h13 h.2)⟩))))) (rend Y Y))
  iterate 3 (refine rO Y (dF h12) Y ?_)
  refine rn Y qq13 Y (p_pkf Y Y (dF h12) (tb (dF (p:=(v0.Kind≠(3:Int))∧(v0.Bits≠(0:UInt64))) (fun x=>h12 x.1)).symm)) (rp Y (p_pkf Y Y qq13 (tb ((or_l (p:=(v0.Kind≠(4:Int))∧(v0.Text≠[])) (q:=(v0.Kind≠(3:Int))∧(v0.Bits≠(0:UInt64))) (fun h=>h4 h.1))))) (rm Y ?_))
  have qq19:=dF (p:=((v0.Kind≠(4:Int))∧(v0.Text≠[]))∨((v0.Kind≠(3:Int))∧(v0.Bits≠(0:UInt64)))) (not_or.2 ⟨(fun h=>h4 h.1),(fun h=>h12 h.1)⟩)
  refine rn Y qq19 Y (u_fa Y Y U32 Y in_3 nz Y Y (nl (GValue.len v0))) (rn Y qq19 Y (u_ld Y Y U3 Y Y (GValue.sub0 v0)) (rn Y qq19 Y (p_ine Y Y Y) (rn Y qq19 Y (p_move Y Y) ?_)))
  refine (Classical.em (v0.Kind≠(2:Int))).elim (fun h16=>?_) (fun h16=>?_)
  ·refine rn Y (dT h16) Y (u_fa Y Y U32 Y in_3 nz Y Y (nl (GValue.len v0))) (rn Y (dT h16) Y (u_ld Y Y U3 Y Y (GValue.sub0 v0)) (rn Y (dT h16) Y (p_ine Y Y Y) (rn Y qq19 Y (p_pkt Y Y (dT h16) (tb ((and_l (p:=v0.Kind≠(2:Int)) (q:=v0.Kind≠(1:Int)) h16)))) (rn Y qq19 Y (p_move Y Y) ?_))))
   refine (Classical.em (v0.Kind≠(1:Int))).elim (fun h17=>?_) (fun h17=>?_)
   ·have qq20:=dT (p:=(v0.Kind≠(2:Int))∧(v0.Kind≠(1:Int))) ⟨h16,h17⟩
    exact rn Y qq20 Y (u_fa Y Y U32 Y in_3 nz Y Y (nl (GValue.len v0))) (rn Y qq20 Y (u_ld Y Y U3 Y Y (GValue.sub1 v0)) (rn Y qq20 Y (p_ine Y Y Y) (rn Y qq19 Y (p_pkt Y Y qq20 (tb ((and_l (p:=(v0.Kind≠(2:Int))∧(v0.Kind≠(1:Int))) (q:=v0.Int_≠(0:Int)) ⟨h16,h17⟩)))) (rp Y (p_pkf Y Y qq19 (tb ((or_l (p:=((v0.Kind≠(4:Int))∧(v0.Text≠[]))∨((v0.Kind≠(3:Int))∧(v0.Bits≠(0:UInt64)))) (q:=((v0.Kind≠(2:Int))∧(v0.Kind≠(1:Int)))∧(v0.Int_≠(0:Int))) (not_or.2 ⟨(fun h=>h4 h.1),(fun h=>h12 h.1)⟩))))) (rend Y Y)))))
   have qq21:=dF (p:=(v0.Kind≠(2:Int))∧(v0.Kind≠(1:Int))) (fun h=>h17 h.2)
   iterate 3 (refine rO Y qq21 Y ?_)
   exact rn Y qq19 Y (p_pkf Y Y qq21 (tb (dF (p:=((v0.Kind≠(2:Int))∧(v0.Kind≠(1:Int)))∧(v0.Int_≠(0:Int))) (fun x=>(fun h=>h17 h.2) x.1)).symm)) (rp Y (p_pkf Y Y qq19 (tb ((or_l (p:=((v0.Kind≠(4:Int))∧(v0.Text≠[]))∨((v0.Kind≠(3:Int))∧(v0.Bits≠(0:UInt64)))) (q:=((v0.Kind≠(2:Int))∧(v0.Kind≠(1:Int)))∧(v0.Int_≠(0:Int))) (not_or.2 ⟨(fun h=>h4 h.1),(fun h=>h12 h.1)⟩))))) (rend Y Y))
  iterate 3 (refine rO Y (dF h16) Y ?_)
  refine rn Y qq19 Y (p_pkf Y Y (dF h16) (tb (dF (p:=(v0.Kind≠(2:Int))∧(v0.Kind≠(1:Int))) (fun x=>h16 x.1)).symm)) (rn Y qq19 Y (p_move Y Y) ?_)
  have qq22:=dF (p:=(v0.Kind≠(2:Int))∧(v0.Kind≠(1:Int))) (fun h=>h16 h.1)
  iterate 3 (refine rO Y qq22 Y ?_)
  exact rn Y qq19 Y (p_pkf Y Y qq22 (tb (dF (p:=((v0.Kind≠(2:Int))∧(v0.Kind≠(1:Int)))∧(v0.Int_≠(0:Int))) (fun x=>(fun h=>h16 h.1) x.1)).symm)) (rp Y (p_pkf Y Y qq19 (tb ((or_l (p:=((v0.Kind≠(4:Int))∧(v0.Text≠[]))∨((v0.Kind≠(3:Int))∧(v0.Bits≠(0:UInt64)))) (q:=((v0.Kind≠(2:Int))∧(v0.Kind≠(1:Int)))∧(v0.Int_≠(0:Int))) (not_or.2 ⟨(fun h=>h4 h.1),(fun h=>h12 h.1)⟩))))) (rend Y Y))
 refine gen1 (fun t48'1=>(⟨[(1,.q 1 (0)),(48,.b t48'1)],[(1,.pure (GValue.cs v0))],83⟩:TS)) H ?_
 intro t48'1 H
 refine AW2_cond Y (fun h18=>?_) (fun h18=>?_)
 ·replace H:=ite_then h18 H
  refine sg [0] Y (ra Y (rz [(2,.i (3:Int))] [] Y (AW2_ret ?_)))
  have z:=se H; subst z
  exact ⟨⟨rt,trivial⟩,trivial⟩
 replace H:=ite_else (ne_true h18) H
 refine as2 [(1,.q 1 (0))] [(1,.pure (GValue.cs v0))] Y (AW2_skip (AW2_seq (bindK H fun o'8 h19 H=>AW2_join (fun j'2:Unit=>(⟨[],[],83⟩:TS)) (fun r e s'=>e=Go.Exit.ret∧ResAll Tryz.prog s' [ResultVar.tmp 2] [.i r]∧HFits s' []) (x:=o'8) ?_ (fun j'2 hy=>?_) (fun y'7 e s' hy hs=>?_))))
 ·clear H
  have H:=h19
  clear h19
  refine sg [0,1] Y (rf Y U32 Y in_3 Y Y (GValue.len v0) (rp Y (u_ld Y Y U3 Y Y (GValue.sub0 v0)) (rz [(1,.q 1 (0)),(50,.i v0.Kind)] [(1,.pure (GValue.cs v0))] Y (AW2_block (sg [0,1] Y (rp Y (p_ieq Y Y Y) ?_))))))
  refine ra Y (rz [(1,_),(50,_),(51,.b (decide (v0.Kind=(1:Int))))] [(1,_)] Y (if2 H Y (fun h20 H=>?_) (fun h20 H=>?_)))
  ·refine AW2_seq (AW2_mid (⟨[(60,.b (decide ((v0.Int_≠(0:Int))∧(v0.Int_≠(1:Int)))))],[],83⟩:TS) ?_ ?_)
   ·refine AW2_reg [0,1,2,3,4,5,6,7] Y (rf Y U32 Y in_3 Y Y (GValue.len v0) (rp Y (u_ld Y Y U3 Y Y (GValue.sub1 v0)) (rp Y (p_ine Y Y Y) (rm Y ?_))))
    refine (Classical.em (v0.Int_≠(0:Int))).elim (fun h21=>?_) (fun h21=>?_)
    ·exact rn Y (dT h21) Y (u_fa Y Y U32 Y in_3 nz Y Y (nl (GValue.len v0))) (rn Y (dT h21) Y (u_ld Y Y U3 Y Y (GValue.sub1 v0)) (rn Y (dT h21) Y (p_ine Y Y Y) (rp Y (p_pkt Y Y (dT h21) (tb ((and_l (p:=v0.Int_≠(0:Int)) (q:=v0.Int_≠(1:Int)) h21)))) (rend Y Y))))
    iterate 3 (refine rO Y (dF h21) Y ?_)
    exact rp Y (p_pkf Y Y (dF h21) (tb (dF (p:=(v0.Int_≠(0:Int))∧(v0.Int_≠(1:Int))) (fun x=>h21 x.1)).symm)) (rend Y Y)
   refine if2 H Y (fun h22 H=>?_) (fun h22 H=>?_)
   ·refine sg [0] Y (ra Y (rz [(2,.i (3:Int))] [] Y (AW2_ret ?_)))
    have z:=se H; subst z
    exact ⟨Y,⟨rt,trivial⟩,trivial⟩
   refine as2 [] [] Y (AW2_skip ?_)
   have z:=se H; subst z
   exact ⟨Y,Y⟩
  refine sg [0,1] Y (rp Y (p_ieq Y Y Y) (ra Y (rz [(1,_),(50,_),(61,.b (decide (v0.Kind=(3:Int))))] [(1,_)] Y (if2 H Y (fun h23 H=>?_) (fun h23 H=>?_)))))
  ·refine sg [0,1,2,3] Y (rf Y U32 Y in_30 Y Y (GValue.len v0) (rp Y (u_ld Y Y U30 Y Y (GValue.sub2 v0)) (rp Y (p_frombits (a:=v0.Bits) Y Y Y Tryz.func85 Y Y (by kernel_rfl) (by kernel_rfl) Y) (ra Y (rz [(3,.p (AV.f64 v0.Bits))] [] Y (AW2_seq ?_))))))
   refine bindK H fun g'5 h28 H=>AW2_mid (⟨[(76,.b g'5)],[],83⟩:TS) ?_ ?_
   ·clear H
    have H:=h28
    clear h28
    refine AW2_reg [0,1,2,3,4,5,6,7,8,9,10] Y (rm Y (rm Y (rp Y (p_fbin (a:=v0.Bits) (b:=v0.Bits) (v:=fneq v0.Bits v0.Bits) Y Y Y Y) (rm Y (em2 H (fun h25 H=>?_) (fun h25 H=>?_))))))
    ·iterate 3 (refine rO Y h25 Y ?_)
     iterate 2 (refine r_off2 rfl rfl rfl rfl rfl rfl ?_)
     refine rO Y h25 Y (rp Y (p_pkt Y Y h25 (.same _)) (rs [(76,.b true)] [] Y ?_))
     have z:=se H; subst z
     exact RunW_nil rfl
    refine rn Y (bfalse h25) Y (p_move Y Y) (rn Y (bfalse h25) Y (p_fbin (a:=v0.Bits) (b:=(0:F64)) (v:=feq v0.Bits (0:F64)) Y Y Y Y) (rn Y (bfalse h25) Y (p_move Y Y) (em2 H (fun h26 H=>?_) (fun h26 H=>?_))))
    ·refine rn Y h26 Y (p_move Y Y) (bindK H fun r'4 h27 H=>rn Y h26 Y (p_callp Y Y Y Tryz.func86 Y Y (g_math_Signbit_ac h27) ⟨Y,trivial⟩) (rn Y (bfalse h25) Y (p_pkt Y Y h26 (.same _)) (rp Y (p_pkf Y Y (bfalse h25) (.same _)) (rs [(76,.b r'4)] [] Y ?_))))
     have z:=se H; subst z
     exact RunW_nil rfl
    iterate 2 (refine rO Y (bfalse h26) Y ?_)
    refine rn Y (bfalse h25) Y (p_pkf Y Y (bfalse h26) (.same _)) (rp Y (p_pkf Y Y (bfalse h25) (.same _)) (rs [(76,.b false)] [] Y ?_))
    have z:=se H; subst z
    exact RunW_nil rfl
   refine AW2_cond Y (fun h29=>?_) (fun h29=>?_)
   ·replace H:=ite_then h29 H
    refine sg [0] Y (ra Y (rz [(2,.i (3:Int))] [] Y (AW2_ret ?_)))
    have z:=se H; subst z
    exact ⟨Y,⟨rt,trivial⟩,trivial⟩
   replace H:=ite_else (ne_true h29) H
   refine as2 [] [] Y (AW2_skip ?_)
   have z:=se H; subst z
   exact ⟨Y,Y⟩
  refine sg [0,1] Y (rp Y (p_ieq Y Y Y) (ra Y (rz [(1,_),(77,.b (decide (v0.Kind=(4:Int))))] [(1,_)] Y (if2 H Y (fun h31 H=>?_) (fun h31 H=>?_)))))
  ·refine sg [0,1,2,3] Y (rf Y U32 Y in_9 Y Y (GValue.len v0) (rp Y (u_ld Y Y U9 Y Y (GValue.sub3 v0)) (bindK H fun r'6 h32 H=>rp Y (p_callp Y Y Y Tryz.func62 Y Y (g_utf8_ValidString_ac h32) ⟨Y,trivial⟩) (rp Y (p_not Y Y) (rz [(82,.b (!r'6))] [] Y ?_)))))
   refine AW2_cond Y (fun h33=>?_) (fun h33=>?_)
   ·replace H:=ite_then h33 H
    refine sg [0] Y (ra Y (rz [(2,.i (3:Int))] [] Y (AW2_ret ?_)))
    have z:=se H; subst z
    exact ⟨Y,⟨rt,trivial⟩,trivial⟩
   replace H:=ite_else (ne_true h33) H
   refine as2 [] [] Y (AW2_skip ?_)
   have z:=se H; subst z
   exact ⟨Y,Y⟩
  refine as2 [] [] Y (AW2_skip ?_)
  have z:=se H; subst z
  exact ⟨Y,Y⟩
 ·subst hy
  refine sg [0] Y (ra Y (rz [(2,.i (0:Int))] [] Y (AW2_ret ?_)))
  have z:=se H; subst z
  exact ⟨⟨rt,trivial⟩,trivial⟩
 subst hy
 obtain ⟨rfl,hs⟩:=hs
 have z:=se H; subst z
 exact ⟨hs.1,hs.2⟩
noncomputable def g_lex_sign (t0:List UInt8):Option (Bool) :=
  ((if t0=[40] then some (decide (t0=[40])) else (if t0=[41] then some (decide (t0=[41])) else (if t0=[44] then some (decide (t0=[44])) else (if t0=[46] then some (decide (t0=[46])) else (if t0=[61] then some (decide (t0=[61])) else (if t0=[60] then some (decide (t0=[60])) else (if t0=[62] then some (decide (t0=[62])) else (if t0=[60,61] then some (decide (t0=[60,61])) else (if t0=[62,61] then some (decide (t0=[62,61])) else (if t0=[60,62] then some (decide (t0=[60,62])) else (if t0=[43] then some (decide (t0=[43])) else (if t0=[45] then some (decide (t0=[45])) else (if t0=[42] then some (decide (t0=[42])) else (if t0=[47] then some (decide (t0=[47])) else (if t0=[124,124] then some (decide (t0=[124,124])) else some (decide (t0=[59])))))))))))))))))).bind fun j'1=>(if j'1=true then some true else some false)
set_option maxHeartbeats 4000000 in
set_option maxRecDepth 100000 in
theorem g_lex_sign_ac {t0:List UInt8} {r:Bool} (H:g_lex_sign t0=some r):ACp Tryz.prog 64 [(AV.txt t0)] (AV.bool r):=by
 refine ACp_of (AC2_of_body (vs:=[.b r]) Tryz.func64 Y Y (lb Y) Y ?_) (fun _=>.same _)
 unfold g_lex_sign at H
 refine as2 [(0,.t t0)] [] Y (sg [0] Y (ra Y (rz [(0,_)] [] Y (AW2_seq (sg [0] Y (rm Y ?_))))))
 refine rz [(3,.t t0)] [] Y (AW2_block (AW2_seq (bindK H fun j'1 h1 H=>AW2_mid (⟨[(4,.b j'1)],[],21⟩:TS) ?_ ?_)))
 ·clear H
  have H:=h1
  clear h1
  refine sg [0,1] Y (rp Y (p_seq Y Y Y) (ra Y (rz [(3,.t t0),(4,.b (decide (t0=[40])))] [] Y (if2 H Y (fun h2 H=>?_) (fun h2 H=>?_)))))
  ·refine as2 [(4,_)] [] Y (AW2_skip ?_)
   have z:=se H; subst z
   exact rfl
  refine sg [0,1] Y (rp Y (p_seq Y Y Y) (ra Y (rz [(3,_),(4,.b (decide (t0=[41])))] [] Y (if2 H Y (fun h3 H=>?_) (fun h3 H=>?_)))))
  ·refine as2 [(4,_)] [] Y (AW2_skip ?_)
   have z:=se H; subst z
   exact rfl
  refine sg [0,1] Y (rp Y (p_seq Y Y Y) (ra Y (rz [(3,_),(4,.b (decide (t0=[44])))] [] Y (if2 H Y (fun h4 H=>?_) (fun h4 H=>?_)))))
  ·refine as2 [(4,_)] [] Y (AW2_skip ?_)
   have z:=se H; subst z
   exact rfl
  refine sg [0,1] Y (rp Y (p_seq Y Y Y) (ra Y (rz [(3,_),(4,.b (decide (t0=[46])))] [] Y (if2 H Y (fun h5 H=>?_) (fun h5 H=>?_)))))
  ·refine as2 [(4,_)] [] Y (AW2_skip ?_)
   have z:=se H; subst z
   exact rfl
  refine sg [0,1] Y (rp Y (p_seq Y Y Y) (ra Y (rz [(3,_),(4,.b (decide (t0=[61])))] [] Y (if2 H Y (fun h6 H=>?_) (fun h6 H=>?_)))))
  ·refine as2 [(4,_)] [] Y (AW2_skip ?_)
   have z:=se H; subst z
   exact rfl
  refine sg [0,1] Y (rp Y (p_seq Y Y Y) (ra Y (rz [(3,_),(4,.b (decide (t0=[60])))] [] Y (if2 H Y (fun h7 H=>?_) (fun h7 H=>?_)))))
  ·refine as2 [(4,_)] [] Y (AW2_skip ?_)
   have z:=se H; subst z
   exact rfl
  refine sg [0,1] Y (rp Y (p_seq Y Y Y) (ra Y (rz [(3,_),(4,.b (decide (t0=[62])))] [] Y (if2 H Y (fun h8 H=>?_) (fun h8 H=>?_)))))
  ·refine as2 [(4,_)] [] Y (AW2_skip ?_)
   have z:=se H; subst z
   exact rfl
  refine sg [0,1] Y (rp Y (p_seq Y Y Y) (ra Y (rz [(3,_),(4,.b (decide (t0=[60,61])))] [] Y (if2 H Y (fun h9 H=>?_) (fun h9 H=>?_)))))
  ·refine as2 [(4,_)] [] Y (AW2_skip ?_)
   have z:=se H; subst z
   exact rfl
  refine sg [0,1] Y (rp Y (p_seq Y Y Y) (ra Y (rz [(3,_),(4,.b (decide (t0=[62,61])))] [] Y (if2 H Y (fun h10 H=>?_) (fun h10 H=>?_)))))
  ·refine as2 [(4,_)] [] Y (AW2_skip ?_)
   have z:=se H; subst z
   exact rfl
  refine sg [0,1] Y (rp Y (p_seq Y Y Y) (ra Y (rz [(3,_),(4,.b (decide (t0=[60,62])))] [] Y (if2 H Y (fun h11 H=>?_) (fun h11 H=>?_)))))
  ·refine as2 [(4,_)] [] Y (AW2_skip ?_)
   have z:=se H; subst z
   exact rfl
  refine sg [0,1] Y (rp Y (p_seq Y Y Y) (ra Y (rz [(3,_),(4,.b (decide (t0=[43])))] [] Y (if2 H Y (fun h12 H=>?_) (fun h12 H=>?_)))))
  ·refine as2 [(4,_)] [] Y (AW2_skip ?_)
   have z:=se H; subst z
   exact rfl
  refine sg [0,1] Y (rp Y (p_seq Y Y Y) (ra Y (rz [(3,_),(4,.b (decide (t0=[45])))] [] Y (if2 H Y (fun h13 H=>?_) (fun h13 H=>?_)))))
  ·refine as2 [(4,_)] [] Y (AW2_skip ?_)
   have z:=se H; subst z
   exact rfl
  refine sg [0,1] Y (rp Y (p_seq Y Y Y) (ra Y (rz [(3,_),(4,.b (decide (t0=[42])))] [] Y (if2 H Y (fun h14 H=>?_) (fun h14 H=>?_)))))
  ·refine as2 [(4,_)] [] Y (AW2_skip ?_)
   have z:=se H; subst z
   exact rfl
  refine sg [0,1] Y (rp Y (p_seq Y Y Y) (ra Y (rz [(3,_),(4,.b (decide (t0=[47])))] [] Y (if2 H Y (fun h15 H=>?_) (fun h15 H=>?_)))))
  ·refine as2 [(4,_)] [] Y (AW2_skip ?_)
   have z:=se H; subst z
   exact rfl
  refine sg [0,1] Y (rp Y (p_seq Y Y Y) (ra Y (rz [(3,_),(4,.b (decide (t0=[124,124])))] [] Y (if2 H Y (fun h16 H=>?_) (fun h16 H=>?_)))))
  ·refine as2 [(4,_)] [] Y (AW2_skip ?_)
   have z:=se H; subst z
   exact rfl
  refine AW2_reg [0,1] Y (rp Y (p_seq Y Y Y) (ra Y (rz [(4,.b (decide (t0=[59])))] [] Y ?_)))
  have z:=se H; subst z
  exact rfl
 refine AW2_cond Y (fun h17=>?_) (fun h17=>?_)
 ·replace H:=ite_then h17 H
  refine sg [0] Y (ra Y (rz [(2,.b true)] [] Y (AW2_ret ?_)))
  have z:=se H; subst z
  exact ⟨⟨rt,trivial⟩,trivial⟩
 replace H:=ite_else (ne_true h17) H
 refine as2 [] [] Y (AW2_skip (sg [0] Y (ra Y (rz [(2,.b false)] [] Y (AW2_ret ?_)))))
 have z:=se H; subst z
 exact ⟨⟨rt,trivial⟩,trivial⟩
noncomputable def g_lex_all_i0_l0 (s0:List UInt8):Int→Option (Int⊕(Bool⊕Unit))
  | t8_0=>(if t8_0 < (s0.length:Int) then if 0≤t8_0∧t8_0 < (s0.length:Int) then (g_lex_inName (lrd s0 t8_0.toNat)).bind fun r'1=>(if (!r'1)=true then some (.inr (.inl false)) else some (.inl (w64 (t8_0+(1:Int))))) else none else some (.inr (.inr ())))
noncomputable def g_lex_all_i0 (s0:List UInt8):Option (Bool) :=
  (loopO (g_lex_all_i0_l0 s0) (0:Int)).bind fun o'5=>match o'5 with | .inl y'6=>some y'6 | .inr (y'7)=>some (decide (s0≠[]))
set_option maxHeartbeats 4000000 in
set_option maxRecDepth 100000 in
theorem g_lex_all_i0_ac {s0:List UInt8} {r:Bool} (H:g_lex_all_i0 s0=some r):ACp Tryz.prog 58 [(AV.txt s0),.clo 59 []] (AV.bool r):=by
 refine ACp_of (AC2_of_body (vs:=[.b r]) Tryz.func58 Y Y (lb Y) Y ?_) (fun _=>.same _)
 unfold g_lex_all_i0 at H
 refine AW2_st [(0,.t s0),(1,.clo 59 [])] [] Y ⟨TLes.same _,(fun _=>.same _),trivial⟩ trivial (sg [0] Y (ra Y (RunW_st [(0,.t s0),(1,.clo 59 [])] [] Y ⟨TLes.same _,(fun _=>.same _),trivial⟩ trivial (RunW_nil (AW2_seq (sg [0,1,2] Y ?_))))))
 refine rm Y (rp Y (p_lent Y U9 Y) (rm Y (RunW_st [(0,.t s0),(1,.clo 59 []),(7,.i (s0.length:Int)),(8,.i (0:Int))] [] Y ⟨TLes.same _,(fun _=>.same _),TLes.same _,TLes.same _,trivial⟩ trivial (RunW_nil (AW2_block (AW2_st [(0,.t s0),(1,.clo 59 []),(7,.i (s0.length:Int)),(8,.i (0:Int))] [] Y ⟨TLes.same _,(fun _=>.same _),TLes.same _,TLes.same _,trivial⟩ trivial ?_))))))
 refine bindK H fun o'5 h5 H=>AW2_loopO (fun a'2:Int=>(⟨[(0,.t s0),(1,.clo 59 []),(7,.i (s0.length:Int)),(8,.i a'2)],[],20⟩:TS)) (fun (o:Bool⊕Unit) e s'=>match o with | .inl y'3=>e=Go.Exit.ret∧ResAll Tryz.prog s' [ResultVar.tmp 4] [.b y'3]∧HFits s' [] | .inr (y'4)=>e=Go.Exit.exit 0∧s'=(⟨[(0,.t s0)],[],20⟩:TS)) h5 Y (fun t8_0 x hx=>?_) (fun e s' hs=>?_)
 ·clear H
  have H:=hx
  clear hx
  unfold g_lex_all_i0_l0 at H
  refine sg [0] Y (rp Y (p_bin Y Y Y Y) (RunW_st [(0,.t s0),(1,.clo 59 []),(7,.i (s0.length:Int)),(8,.i t8_0),(9,.b (decide (t8_0 < (s0.length:Int))))] [] Y ⟨TLes.same _,(fun _=>.same _),TLes.same _,TLes.same _,TLes.same _,trivial⟩ trivial (RunW_nil (AW2_seq (if2 H Y (fun h1 H=>?_) (fun h1 H=>?_))))))
  ·refine AW2_st [(0,.t s0),(1,.clo 59 []),(7,.i (s0.length:Int)),(8,.i t8_0)] [] Y ⟨TLes.same _,(fun _=>.same _),TLes.same _,TLes.same _,trivial⟩ trivial (AW2_skip (AW2_seq (AW2_block (sg [0,1] Y (rm Y (ra Y ?_))))))
   refine RunW_st [(0,.t s0),(1,.clo 59 []),(5,.i t8_0),(7,.i (s0.length:Int)),(8,.i t8_0)] [] Y ⟨TLes.same _,(fun _=>.same _),TLes.same _,TLes.same _,TLes.same _,trivial⟩ trivial (RunW_nil (sg [0,1,2,3,4,5] Y (rm Y (rm Y (rm Y (chkK H fun h2 H=>?_))))))
   refine rp Y (p_ixt Y U9 Y Y (ixe h2) (lrd_get (ixn h2))) (bindK H fun r'1 h3 H=>rp Y (p_callp Y Y Y Tryz.func59 Y Y (g_lex_inName_ac h3) ⟨Y,trivial⟩) (rp Y (p_not Y Y) (RunW_st [(0,.t s0),(1,.clo 59 []),(7,.i (s0.length:Int)),(8,.i t8_0),(16,.b (!r'1))] [] Y ⟨TLes.same _,(fun _=>.same _),TLes.same _,TLes.same _,TLes.same _,trivial⟩ trivial (RunW_nil (AW2_cond Y (fun h4=>?_) (fun h4=>?_))))))
   ·replace H:=ite_then h4 H
    refine sg [0] Y (ra Y (rz [(4,.b false)] [] Y (AW2_ret ?_)))
    have z:=se H; subst z
    exact ⟨Y,⟨rt,trivial⟩,trivial⟩
   replace H:=ite_else (ne_true h4) H
   refine AW2_st [(0,.t s0),(1,.clo 59 []),(7,.i (s0.length:Int)),(8,.i t8_0)] [] Y ⟨TLes.same _,(fun _=>.same _),TLes.same _,TLes.same _,trivial⟩ trivial (AW2_skip (AW2_reg [0,1] Y (rp Y (p_bin Y Y Y Y) (rm Y (RunW_st [(0,.t s0),(1,.clo 59 []),(7,.i (s0.length:Int)),(8,.i (w64 (t8_0+(1:Int))))] [] Y ⟨TLes.same _,(fun _=>.same _),TLes.same _,TLes.same _,trivial⟩ trivial (RunW_nil ?_))))))
   have z:=se H; subst z
   exact ⟨Y,Y⟩
  refine as2 [(0,.t s0)] [] Y (AW2_exit (thenQ2_exit ?_))
  have z:=se H; subst z
  exact ⟨Y,Y⟩
 rcases o'5 with y'6 | y'7
 ·obtain ⟨rfl,hs⟩:=hs
  refine ⟨by simp,?_⟩
  have z:=se H; subst z
  exact ⟨hs.1,hs.2⟩
 obtain ⟨rfl,rfl⟩:=hs
 refine ⟨by simp,?_⟩
 refine blockQ2_exit (sg [0,1,2] Y (rm Y (rp Y (p_sne Y Y Y) (ra Y (rz [(4,.b (decide (s0≠[])))] [] Y (AW2_ret ?_))))))
 have z:=se H; subst z
 exact ⟨⟨rt,trivial⟩,trivial⟩
noncomputable def g_lex_all_i1_l0 (s0:List UInt8):Int→Option (Int⊕(Bool⊕Unit))
  | t8_0=>(if t8_0 < (s0.length:Int) then if 0≤t8_0∧t8_0 < (s0.length:Int) then (g_lex_great (lrd s0 t8_0.toNat)).bind fun r'1=>(if (!r'1)=true then some (.inr (.inl false)) else some (.inl (w64 (t8_0+(1:Int))))) else none else some (.inr (.inr ())))
noncomputable def g_lex_all_i1 (s0:List UInt8):Option (Bool) :=
  (loopO (g_lex_all_i1_l0 s0) (0:Int)).bind fun o'5=>match o'5 with | .inl y'6=>some y'6 | .inr (y'7)=>some (decide (s0≠[]))
set_option maxHeartbeats 4000000 in
set_option maxRecDepth 100000 in
theorem g_lex_all_i1_ac {s0:List UInt8} {r:Bool} (H:g_lex_all_i1 s0=some r):ACp Tryz.prog 58 [(AV.txt s0),.clo 61 []] (AV.bool r):=by
 refine ACp_of (AC2_of_body (vs:=[.b r]) Tryz.func58 Y Y (lb Y) Y ?_) (fun _=>.same _)
 unfold g_lex_all_i1 at H
 refine AW2_st [(0,.t s0),(1,.clo 61 [])] [] Y ⟨TLes.same _,(fun _=>.same _),trivial⟩ trivial (sg [0] Y (ra Y (RunW_st [(0,.t s0),(1,.clo 61 [])] [] Y ⟨TLes.same _,(fun _=>.same _),trivial⟩ trivial (RunW_nil (AW2_seq (sg [0,1,2] Y ?_))))))
 refine rm Y (rp Y (p_lent Y U9 Y) (rm Y (RunW_st [(0,.t s0),(1,.clo 61 []),(7,.i (s0.length:Int)),(8,.i (0:Int))] [] Y ⟨TLes.same _,(fun _=>.same _),TLes.same _,TLes.same _,trivial⟩ trivial (RunW_nil (AW2_block (AW2_st [(0,.t s0),(1,.clo 61 []),(7,.i (s0.length:Int)),(8,.i (0:Int))] [] Y ⟨TLes.same _,(fun _=>.same _),TLes.same _,TLes.same _,trivial⟩ trivial ?_))))))
 refine bindK H fun o'5 h5 H=>AW2_loopO (fun a'2:Int=>(⟨[(0,.t s0),(1,.clo 61 []),(7,.i (s0.length:Int)),(8,.i a'2)],[],20⟩:TS)) (fun (o:Bool⊕Unit) e s'=>match o with | .inl y'3=>e=Go.Exit.ret∧ResAll Tryz.prog s' [ResultVar.tmp 4] [.b y'3]∧HFits s' [] | .inr (y'4)=>e=Go.Exit.exit 0∧s'=(⟨[(0,.t s0)],[],20⟩:TS)) h5 Y (fun t8_0 x hx=>?_) (fun e s' hs=>?_)
 ·clear H
  have H:=hx
  clear hx
  unfold g_lex_all_i1_l0 at H
  refine sg [0] Y (rp Y (p_bin Y Y Y Y) (RunW_st [(0,.t s0),(1,.clo 61 []),(7,.i (s0.length:Int)),(8,.i t8_0),(9,.b (decide (t8_0 < (s0.length:Int))))] [] Y ⟨TLes.same _,(fun _=>.same _),TLes.same _,TLes.same _,TLes.same _,trivial⟩ trivial (RunW_nil (AW2_seq (if2 H Y (fun h1 H=>?_) (fun h1 H=>?_))))))
  ·refine AW2_st [(0,.t s0),(1,.clo 61 []),(7,.i (s0.length:Int)),(8,.i t8_0)] [] Y ⟨TLes.same _,(fun _=>.same _),TLes.same _,TLes.same _,trivial⟩ trivial (AW2_skip (AW2_seq (AW2_block (sg [0,1] Y (rm Y (ra Y ?_))))))
   refine RunW_st [(0,.t s0),(1,.clo 61 []),(5,.i t8_0),(7,.i (s0.length:Int)),(8,.i t8_0)] [] Y ⟨TLes.same _,(fun _=>.same _),TLes.same _,TLes.same _,TLes.same _,trivial⟩ trivial (RunW_nil (sg [0,1,2,3,4,5] Y (rm Y (rm Y (rm Y (chkK H fun h2 H=>?_))))))
   refine rp Y (p_ixt Y U9 Y Y (ixe h2) (lrd_get (ixn h2))) (bindK H fun r'1 h3 H=>rp Y (p_callp Y Y Y Tryz.func61 Y Y (g_lex_great_ac h3) ⟨Y,trivial⟩) (rp Y (p_not Y Y) (RunW_st [(0,.t s0),(1,.clo 61 []),(7,.i (s0.length:Int)),(8,.i t8_0),(16,.b (!r'1))] [] Y ⟨TLes.same _,(fun _=>.same _),TLes.same _,TLes.same _,TLes.same _,trivial⟩ trivial (RunW_nil (AW2_cond Y (fun h4=>?_) (fun h4=>?_))))))
   ·replace H:=ite_then h4 H
    refine sg [0] Y (ra Y (rz [(4,.b false)] [] Y (AW2_ret ?_)))
    have z:=se H; subst z
    exact ⟨Y,⟨rt,trivial⟩,trivial⟩
   replace H:=ite_else (ne_true h4) H
   refine AW2_st [(0,.t s0),(1,.clo 61 []),(7,.i (s0.length:Int)),(8,.i t8_0)] [] Y ⟨TLes.same _,(fun _=>.same _),TLes.same _,TLes.same _,trivial⟩ trivial (AW2_skip (AW2_reg [0,1] Y (rp Y (p_bin Y Y Y Y) (rm Y (RunW_st [(0,.t s0),(1,.clo 61 []),(7,.i (s0.length:Int)),(8,.i (w64 (t8_0+(1:Int))))] [] Y ⟨TLes.same _,(fun _=>.same _),TLes.same _,TLes.same _,trivial⟩ trivial (RunW_nil ?_))))))
   have z:=se H; subst z
   exact ⟨Y,Y⟩
  refine as2 [(0,.t s0)] [] Y (AW2_exit (thenQ2_exit ?_))
  have z:=se H; subst z
  exact ⟨Y,Y⟩
 rcases o'5 with y'6 | y'7
 ·obtain ⟨rfl,hs⟩:=hs
  refine ⟨by simp,?_⟩
  have z:=se H; subst z
  exact ⟨hs.1,hs.2⟩
 obtain ⟨rfl,rfl⟩:=hs
 refine ⟨by simp,?_⟩
 refine blockQ2_exit (sg [0,1,2] Y (rm Y (rp Y (p_sne Y Y Y) (ra Y (rz [(4,.b (decide (s0≠[])))] [] Y (AW2_ret ?_))))))
 have z:=se H; subst z
 exact ⟨⟨rt,trivial⟩,trivial⟩
noncomputable def g_lex_Check (t0:GToken):Option (Int) :=
  (if (t0.Kind < (1:Int))∨(t0.Kind > (6:Int)) then some (2:Int) else letO (decide (((t0.Kind=(4:Int))∧((t0.Text.length:Int) > (40:Int)))∨(((t0.Kind=(1:Int))∨(t0.Kind=(2:Int)))∧((t0.Text.length:Int) > (8:Int))))) fun t36'1=>(if t36'1=true then some (1:Int) else letO (decide ((((t0.Kind≠(3:Int))∧(t0.Int_≠(0:Int)))∨((t0.Kind≠(5:Int))∧(t0.Bits≠(0:UInt64))))∨(((t0.Kind=(3:Int))∨(t0.Kind=(5:Int)))∧(t0.Text≠[])))) fun t69'2=>(if t69'2=true then some (3:Int) else ((if t0.Kind=(1:Int) then ((g_lex_all_i0 t0.Text).bind fun r'5=>(if r'5=true then if 0 < t0.Text.length then (g_lex_small (lrd t0.Text 0)).bind fun r'6=>some r'6 else none else some false)).bind fun g'7=>some g'7 else (if t0.Kind=(2:Int) then (g_lex_all_i1 t0.Text).bind fun r'8=>some r'8 else (if t0.Kind=(3:Int) then some (decide (t0.Int_≥(0:Int))) else (if t0.Kind=(4:Int) then (g_utf8_ValidString t0.Text).bind fun r'9=>some r'9 else (if t0.Kind=(5:Int) then (g_value_Check ({ { GValue.zero with Kind:=(3:Int) } with Bits:=t0.Bits })).bind fun r'10=>some (decide (r'10=(0:Int))) else (if t0.Kind=(6:Int) then (g_lex_sign t0.Text).bind fun r'11=>some r'11 else some true))))))).bind fun j'3=>(if (!j'3)=true then some (3:Int) else some (0:Int)))))
set_option maxHeartbeats 4000000 in
set_option maxRecDepth 100000 in
theorem g_lex_Check_ac {t0:GToken} {r:Int} (H:g_lex_Check t0=some r):ACp Tryz.prog 41 [(.agg (GToken.cs t0))] (AV.int r):=by
 refine ACp_of (AC2_of_body (vs:=[.i r]) Tryz.func41 Y Y (lb Y) Y ?_) (fun _=>.same _)
 unfold g_lex_Check at H
 refine as2 [(0,.g (GToken.cs t0))] [] Y (sg [0,1] Y (rq Y (MakeD.opD (n_box 1 Y Y) Y Y Y Y) (ra Y (rz [(1,.q 1 (0))] [(1,.pure (GToken.cs t0))] Y (AW2_seq (AW2_seq ?_))))))
 refine AW2_mid (⟨[(1,.q 1 (0)),(11,.b (decide ((t0.Kind < (1:Int))∨(t0.Kind > (6:Int)))))],[(1,.pure (GToken.cs t0))],112⟩:TS) ?_ ?_
 ·refine AW2_reg [0,1,2,3,4,5,6,7] Y (rf Y U79 Y in_3 Y Y (GToken.len t0) (rp Y (u_ld Y Y U3 Y Y (GToken.sub0 t0)) (rp Y (p_bin Y Y Y Y) (rm Y ?_))))
  refine (Classical.em (t0.Kind < (1:Int))).elim (fun h1=>?_) (fun h1=>?_)
  ·iterate 3 (refine rO Y (dT h1) Y ?_)
   exact rp Y (p_pkt Y Y (dT h1) (tb (dT (p:=(t0.Kind < (1:Int))∨(t0.Kind > (6:Int))) (Or.inl h1)).symm)) (rend Y Y)
  exact rn Y (dF h1) Y (u_fa Y Y U79 Y in_3 nz Y Y (nl (GToken.len t0))) (rn Y (dF h1) Y (u_ld Y Y U3 Y Y (GToken.sub0 t0)) (rn Y (dF h1) Y (p_bin Y Y Y Y) (rp Y (p_pkf Y Y (dF h1) (tb ((or_l (p:=t0.Kind < (1:Int)) (q:=t0.Kind > (6:Int)) h1)))) (rend Y Y))))
 refine if2 H Y (fun h2 H=>?_) (fun h2 H=>?_)
 ·refine sg [0] Y (ra Y (rz [(2,.i (2:Int))] [] Y (AW2_ret ?_)))
  have z:=se H; subst z
  exact ⟨⟨rt,trivial⟩,trivial⟩
 refine as2 [(1,_)] [(1,_)] Y (AW2_skip (AW2_seq (AW2_seq (AW2_mid (⟨[(1,.q 1 (0)),(36,.b (decide (((t0.Kind=(4:Int))∧((t0.Text.length:Int) > (40:Int)))∨(((t0.Kind=(1:Int))∨(t0.Kind=(2:Int)))∧((t0.Text.length:Int) > (8:Int))))))],[(1,.pure (GToken.cs t0))],112⟩:TS) ?_ ?_))))
 ·refine AW2_reg [0,1,2,3,4,5,6,7,8,9,10,11,12,13,14,15,16,17,18,19,20,21,22,23,24] Y (rf Y U79 Y in_3 Y Y (GToken.len t0) (rp Y (u_ld Y Y U3 Y Y (GToken.sub0 t0)) (rp Y (p_ieq Y Y Y) (rm Y ?_))))
  refine (Classical.em (t0.Kind=(4:Int))).elim (fun h3=>?_) (fun h3=>?_)
  ·refine rn Y (dT h3) Y (u_fa Y Y U79 Y in_9 nz Y Y (nl (GToken.len t0))) (rn Y (dT h3) Y (u_ld Y Y U9 Y Y (GToken.sub1 t0)) (rn Y (dT h3) Y (p_lent Y U9 Y) (rn Y (dT h3) Y (p_bin Y Y Y Y) (rp Y (p_pkt Y Y (dT h3) (tb ((and_l (p:=t0.Kind=(4:Int)) (q:=(t0.Text.length:Int) > (40:Int)) h3)))) (rm Y ?_)))))
   refine (Classical.em ((t0.Text.length:Int) > (40:Int))).elim (fun h4=>?_) (fun h4=>?_)
   ·have qq1:=dT (p:=(t0.Kind=(4:Int))∧((t0.Text.length:Int) > (40:Int))) ⟨h3,h4⟩
    iterate 4 (refine rO Y qq1 Y ?_)
    iterate 3 (refine r_off2 rfl rfl rfl rfl rfl rfl ?_)
    iterate 2 (refine rO Y qq1 Y ?_)
    iterate 4 (refine r_off2 rfl rfl rfl rfl rfl rfl ?_)
    exact rO Y qq1 Y (rp Y (p_pkt Y Y qq1 (tb (dT (p:=((t0.Kind=(4:Int))∧((t0.Text.length:Int) > (40:Int)))∨(((t0.Kind=(1:Int))∨(t0.Kind=(2:Int)))∧((t0.Text.length:Int) > (8:Int)))) (Or.inl ⟨h3,h4⟩)).symm)) (rend Y Y))
   have qq2:=dF (p:=(t0.Kind=(4:Int))∧((t0.Text.length:Int) > (40:Int))) (fun h=>h4 h.2)
   refine rn Y qq2 Y (u_fa Y Y U79 Y in_3 nz Y Y (nl (GToken.len t0))) (rn Y qq2 Y (u_ld Y Y U3 Y Y (GToken.sub0 t0)) (rn Y qq2 Y (p_ieq Y Y Y) (rn Y qq2 Y (p_move Y Y) ?_)))
   refine (Classical.em (t0.Kind=(1:Int))).elim (fun h5=>?_) (fun h5=>?_)
   ·iterate 3 (refine rO Y (dT h5) Y ?_)
    have qq3:=dT (p:=(t0.Kind=(1:Int))∨(t0.Kind=(2:Int))) (Or.inl h5)
    refine rn Y qq2 Y (p_pkt Y Y (dT h5) (tb qq3.symm)) (rn Y qq2 Y (p_move Y Y) (rn Y qq3 Y (u_fa Y Y U79 Y in_9 nz Y Y (nl (GToken.len t0))) (rn Y qq3 Y (u_ld Y Y U9 Y Y (GToken.sub1 t0)) (rn Y qq3 Y (p_lent Y U9 Y) (rn Y qq3 Y (p_bin Y Y Y Y) (rn Y qq2 Y (p_pkt Y Y qq3 (tb ((and_l (p:=(t0.Kind=(1:Int))∨(t0.Kind=(2:Int))) (q:=(t0.Text.length:Int) > (8:Int)) (Or.inl h5))))) ?_))))))
    exact rp Y (p_pkf Y Y qq2 (tb ((or_l (p:=(t0.Kind=(4:Int))∧((t0.Text.length:Int) > (40:Int))) (q:=((t0.Kind=(1:Int))∨(t0.Kind=(2:Int)))∧((t0.Text.length:Int) > (8:Int))) (fun h=>h4 h.2))))) (rend Y Y)
   refine rn Y (dF h5) Y (u_fa Y Y U79 Y in_3 nz Y Y (nl (GToken.len t0))) (rn Y (dF h5) Y (u_ld Y Y U3 Y Y (GToken.sub0 t0)) (rn Y (dF h5) Y (p_ieq Y Y Y) (rn Y qq2 Y (p_pkf Y Y (dF h5) (tb ((or_l (p:=t0.Kind=(1:Int)) (q:=t0.Kind=(2:Int)) h5)))) (rn Y qq2 Y (p_move Y Y) ?_))))
   refine (Classical.em (t0.Kind=(2:Int))).elim (fun h6=>?_) (fun h6=>?_)
   ·have qq4:=dT (p:=(t0.Kind=(1:Int))∨(t0.Kind=(2:Int))) (Or.inr h6)
    exact rn Y qq4 Y (u_fa Y Y U79 Y in_9 nz Y Y (nl (GToken.len t0))) (rn Y qq4 Y (u_ld Y Y U9 Y Y (GToken.sub1 t0)) (rn Y qq4 Y (p_lent Y U9 Y) (rn Y qq4 Y (p_bin Y Y Y Y) (rn Y qq2 Y (p_pkt Y Y qq4 (tb ((and_l (p:=(t0.Kind=(1:Int))∨(t0.Kind=(2:Int))) (q:=(t0.Text.length:Int) > (8:Int)) (Or.inr h6))))) (rp Y (p_pkf Y Y qq2 (tb ((or_l (p:=(t0.Kind=(4:Int))∧((t0.Text.length:Int) > (40:Int))) (q:=((t0.Kind=(1:Int))∨(t0.Kind=(2:Int)))∧((t0.Text.length:Int) > (8:Int))) (fun h=>h4 h.2))))) (rend Y Y))))))
   have qq5:=dF (p:=(t0.Kind=(1:Int))∨(t0.Kind=(2:Int))) (not_or.2 ⟨h5,h6⟩)
   iterate 4 (refine rO Y qq5 Y ?_)
   exact rn Y qq2 Y (p_pkf Y Y qq5 (tb (dF (p:=((t0.Kind=(1:Int))∨(t0.Kind=(2:Int)))∧((t0.Text.length:Int) > (8:Int))) (fun x=>(not_or.2 ⟨h5,h6⟩) x.1)).symm)) (rp Y (p_pkf Y Y qq2 (tb ((or_l (p:=(t0.Kind=(4:Int))∧((t0.Text.length:Int) > (40:Int))) (q:=((t0.Kind=(1:Int))∨(t0.Kind=(2:Int)))∧((t0.Text.length:Int) > (8:Int))) (fun h=>h4 h.2))))) (rend Y Y))
  iterate 4 (refine rO Y (dF h3) Y ?_)
  refine rp Y (p_pkf Y Y (dF h3) (tb (dF (p:=(t0.Kind=(4:Int))∧((t0.Text.length:Int) > (40:Int))) (fun x=>h3 x.1)).symm)) (rm Y ?_)
  have qq6:=dF (p:=(t0.Kind=(4:Int))∧((t0.Text.length:Int) > (40:Int))) (fun h=>h3 h.1)
  refine rn Y qq6 Y (u_fa Y Y U79 Y in_3 nz Y Y (nl (GToken.len t0))) (rn Y qq6 Y (u_ld Y Y U3 Y Y (GToken.sub0 t0)) (rn Y qq6 Y (p_ieq Y Y Y) (rn Y qq6 Y (p_move Y Y) ?_)))
  refine (Classical.em (t0.Kind=(1:Int))).elim (fun h7=>?_) (fun h7=>?_)
  ·iterate 3 (refine rO Y (dT h7) Y ?_)
   have qq7:=dT (p:=(t0.Kind=(1:Int))∨(t0.Kind=(2:Int))) (Or.inl h7)
   refine rn Y qq6 Y (p_pkt Y Y (dT h7) (tb qq7.symm)) (rn Y qq6 Y (p_move Y Y) (rn Y qq7 Y (u_fa Y Y U79 Y in_9 nz Y Y (nl (GToken.len t0))) (rn Y qq7 Y (u_ld Y Y U9 Y Y (GToken.sub1 t0)) (rn Y qq7 Y (p_lent Y U9 Y) (rn Y qq7 Y (p_bin Y Y Y Y) (rn Y qq6 Y (p_pkt Y Y qq7 (tb ((and_l (p:=(t0.Kind=(1:Int))∨(t0.Kind=(2:Int))) (q:=(t0.Text.length:Int) > (8:Int)) (Or.inl h7))))) ?_))))))
   exact rp Y (p_pkf Y Y qq6 (tb ((or_l (p:=(t0.Kind=(4:Int))∧((t0.Text.length:Int) > (40:Int))) (q:=((t0.Kind=(1:Int))∨(t0.Kind=(2:Int)))∧((t0.Text.length:Int) > (8:Int))) (fun h=>h3 h.1))))) (rend Y Y)
  refine rn Y (dF h7) Y (u_fa Y Y U79 Y in_3 nz Y Y (nl (GToken.len t0))) (rn Y (dF h7) Y (u_ld Y Y U3 Y Y (GToken.sub0 t0)) (rn Y (dF h7) Y (p_ieq Y Y Y) (rn Y qq6 Y (p_pkf Y Y (dF h7) (tb ((or_l (p:=t0.Kind=(1:Int)) (q:=t0.Kind=(2:Int)) h7)))) (rn Y qq6 Y (p_move Y Y) ?_))))
  refine (Classical.em (t0.Kind=(2:Int))).elim (fun h8=>?_) (fun h8=>?_)
  ·have qq8:=dT (p:=(t0.Kind=(1:Int))∨(t0.Kind=(2:Int))) (Or.inr h8)
   exact rn Y qq8 Y (u_fa Y Y U79 Y in_9 nz Y Y (nl (GToken.len t0))) (rn Y qq8 Y (u_ld Y Y U9 Y Y (GToken.sub1 t0)) (rn Y qq8 Y (p_lent Y U9 Y) (rn Y qq8 Y (p_bin Y Y Y Y) (rn Y qq6 Y (p_pkt Y Y qq8 (tb ((and_l (p:=(t0.Kind=(1:Int))∨(t0.Kind=(2:Int))) (q:=(t0.Text.length:Int) > (8:Int)) (Or.inr h8))))) (rp Y (p_pkf Y Y qq6 (tb ((or_l (p:=(t0.Kind=(4:Int))∧((t0.Text.length:Int) > (40:Int))) (q:=((t0.Kind=(1:Int))∨(t0.Kind=(2:Int)))∧((t0.Text.length:Int) > (8:Int))) (fun h=>h3 h.1))))) (rend Y Y))))))
  have qq9:=dF (p:=(t0.Kind=(1:Int))∨(t0.Kind=(2:Int))) (not_or.2 ⟨h7,h8⟩)
  iterate 4 (refine rO Y qq9 Y ?_)
  exact rn Y qq6 Y (p_pkf Y Y qq9 (tb (dF (p:=((t0.Kind=(1:Int))∨(t0.Kind=(2:Int)))∧((t0.Text.length:Int) > (8:Int))) (fun x=>(not_or.2 ⟨h7,h8⟩) x.1)).symm)) (rp Y (p_pkf Y Y qq6 (tb ((or_l (p:=(t0.Kind=(4:Int))∧((t0.Text.length:Int) > (40:Int))) (q:=((t0.Kind=(1:Int))∨(t0.Kind=(2:Int)))∧((t0.Text.length:Int) > (8:Int))) (fun h=>h3 h.1))))) (rend Y Y))
 refine gen1 (fun t36'1=>(⟨[(1,.q 1 (0)),(36,.b t36'1)],[(1,.pure (GToken.cs t0))],112⟩:TS)) H ?_
 intro t36'1 H
 refine AW2_cond Y (fun h9=>?_) (fun h9=>?_)
 ·replace H:=ite_then h9 H
  refine sg [0] Y (ra Y (rz [(2,.i (1:Int))] [] Y (AW2_ret ?_)))
  have z:=se H; subst z
  exact ⟨⟨rt,trivial⟩,trivial⟩
 replace H:=ite_else (ne_true h9) H
 refine as2 [(1,.q 1 (0))] [(1,.pure (GToken.cs t0))] Y (AW2_skip (AW2_seq (AW2_seq (AW2_mid (⟨[(1,.q 1 (0)),(69,.b (decide ((((t0.Kind≠(3:Int))∧(t0.Int_≠(0:Int)))∨((t0.Kind≠(5:Int))∧(t0.Bits≠(0:UInt64))))∨(((t0.Kind=(3:Int))∨(t0.Kind=(5:Int)))∧(t0.Text≠[])))))],[(1,.pure (GToken.cs t0))],112⟩:TS) ?_ ?_))))
 ·refine AW2_reg [0,1,2,3,4,5,6,7,8,9,10,11,12,13,14,15,16,17,18,19,20,21,22,23,24,25,26,27,28,29,30,31,32] Y (rf Y U79 Y in_3 Y Y (GToken.len t0) (rp Y (u_ld Y Y U3 Y Y (GToken.sub0 t0)) (rp Y (p_ine Y Y Y) (rm Y ?_))))
  refine (Classical.em (t0.Kind≠(3:Int))).elim (fun h10=>?_) (fun h10=>?_)
  ·refine rn Y (dT h10) Y (u_fa Y Y U79 Y in_3 nz Y Y (nl (GToken.len t0))) (rn Y (dT h10) Y (u_ld Y Y U3 Y Y (GToken.sub2 t0)) (rn Y (dT h10) Y (p_ine Y Y Y) (rp Y (p_pkt Y Y (dT h10) (tb ((and_l (p:=t0.Kind≠(3:Int)) (q:=t0.Int_≠(0:Int)) h10)))) (rm Y ?_))))
   refine (Classical.em (t0.Int_≠(0:Int))).elim (fun h11=>?_) (fun h11=>?_)
   ·have qq10:=dT (p:=(t0.Kind≠(3:Int))∧(t0.Int_≠(0:Int))) ⟨h10,h11⟩
    iterate 4 (refine rO Y qq10 Y ?_)
    iterate 3 (refine r_off2 rfl rfl rfl rfl rfl rfl ?_)
    refine rO Y qq10 Y ?_
    have qq11:=dT (p:=((t0.Kind≠(3:Int))∧(t0.Int_≠(0:Int)))∨((t0.Kind≠(5:Int))∧(t0.Bits≠(0:UInt64)))) (Or.inl ⟨h10,h11⟩)
    refine rp Y (p_pkt Y Y qq10 (tb qq11.symm)) (rm Y ?_)
    iterate 4 (refine rO Y qq11 Y ?_)
    iterate 3 (refine r_off2 rfl rfl rfl rfl rfl rfl ?_)
    iterate 2 (refine rO Y qq11 Y ?_)
    iterate 3 (refine r_off2 rfl rfl rfl rfl rfl rfl ?_)
    exact rO Y qq11 Y (rp Y (p_pkt Y Y qq11 (tb (dT (p:=(((t0.Kind≠(3:Int))∧(t0.Int_≠(0:Int)))∨((t0.Kind≠(5:Int))∧(t0.Bits≠(0:UInt64))))∨(((t0.Kind=(3:Int))∨(t0.Kind=(5:Int)))∧(t0.Text≠[]))) (Or.inl (Or.inl ⟨h10,h11⟩))).symm)) (rend Y Y))
   have qq12:=dF (p:=(t0.Kind≠(3:Int))∧(t0.Int_≠(0:Int))) (fun h=>h11 h.2)
   refine rn Y qq12 Y (u_fa Y Y U79 Y in_3 nz Y Y (nl (GToken.len t0))) (rn Y qq12 Y (u_ld Y Y U3 Y Y (GToken.sub0 t0)) (rn Y qq12 Y (p_ine Y Y Y) (rn Y qq12 Y (p_move Y Y) ?_)))
   refine (Classical.em (t0.Kind≠(5:Int))).elim (fun h12=>?_) (fun h12=>?_)
   ·refine rn Y (dT h12) Y (u_fa Y Y U79 Y in_30 nz Y Y (nl (GToken.len t0))) (rn Y (dT h12) Y (u_ld Y Y U30 Y Y (GToken.sub3 t0)) (rn Y (dT h12) Y (p_u64ne (a:=t0.Bits) (b:=(0:UInt64)) Y Y Y) (rn Y qq12 Y (p_pkt Y Y (dT h12) (tb ((and_l (p:=t0.Kind≠(5:Int)) (q:=t0.Bits≠(0:UInt64)) h12)))) (rp Y (p_pkf Y Y qq12 (tb ((or_l (p:=(t0.Kind≠(3:Int))∧(t0.Int_≠(0:Int))) (q:=(t0.Kind≠(5:Int))∧(t0.Bits≠(0:UInt64))) (fun h=>h11 h.2))))) (rm Y ?_)))))
    refine (Classical.em (t0.Bits≠(0:UInt64))).elim (fun h13=>?_) (fun h13=>?_)
    ·have qq13:=dT (p:=((t0.Kind≠(3:Int))∧(t0.Int_≠(0:Int)))∨((t0.Kind≠(5:Int))∧(t0.Bits≠(0:UInt64)))) (Or.inr ⟨h12,h13⟩)
     iterate 4 (refine rO Y qq13 Y ?_)
     iterate 3 (refine r_off2 rfl rfl rfl rfl rfl rfl ?_)
     iterate 2 (refine rO Y qq13 Y ?_)
     iterate 3 (refine r_off2 rfl rfl rfl rfl rfl rfl ?_)
     exact rO Y qq13 Y (rp Y (p_pkt Y Y qq13 (tb (dT (p:=(((t0.Kind≠(3:Int))∧(t0.Int_≠(0:Int)))∨((t0.Kind≠(5:Int))∧(t0.Bits≠(0:UInt64))))∨(((t0.Kind=(3:Int))∨(t0.Kind=(5:Int)))∧(t0.Text≠[]))) (Or.inl (Or.inr ⟨h12,h13⟩))).symm)) (rend Y Y))
    have qq14:=dF (p:=((t0.Kind≠(3:Int))∧(t0.Int_≠(0:Int)))∨((t0.Kind≠(5:Int))∧(t0.Bits≠(0:UInt64)))) (not_or.2 ⟨(fun h=>h11 h.2),(fun h=>h13 h.2)⟩)
    refine rn Y qq14 Y (u_fa Y Y U79 Y in_3 nz Y Y (nl (GToken.len t0))) (rn Y qq14 Y (u_ld Y Y U3 Y Y (GToken.sub0 t0)) (rn Y qq14 Y (p_ieq Y Y Y) (rn Y qq14 Y (p_move Y Y) ?_)))
    refine (Classical.em (t0.Kind=(3:Int))).elim (fun h14=>?_) (fun h14=>?_)
    ·iterate 3 (refine rO Y (dT h14) Y ?_)
     have qq15:=dT (p:=(t0.Kind=(3:Int))∨(t0.Kind=(5:Int))) (Or.inl h14)
     refine rn Y qq14 Y (p_pkt Y Y (dT h14) (tb qq15.symm)) (rn Y qq14 Y (p_move Y Y) (rn Y qq15 Y (u_fa Y Y U79 Y in_9 nz Y Y (nl (GToken.len t0))) (rn Y qq15 Y (u_ld Y Y U9 Y Y (GToken.sub1 t0)) (rn Y qq15 Y (p_sne Y Y Y) (rn Y qq14 Y (p_pkt Y Y qq15 (tb ((and_l (p:=(t0.Kind=(3:Int))∨(t0.Kind=(5:Int))) (q:=t0.Text≠[]) (Or.inl h14))))) (rp Y (p_pkf Y Y qq14 (tb ((or_l (p:=((t0.Kind≠(3:Int))∧(t0.Int_≠(0:Int)))∨((t0.Kind≠(5:Int))∧(t0.Bits≠(0:UInt64)))) (q:=((t0.Kind=(3:Int))∨(t0.Kind=(5:Int)))∧(t0.Text≠[])) (not_or.2 ⟨(fun h=>h11 h.2),(fun h=>h13 h.2)⟩))))) ?_))))))
     exact rend Y Y
    refine rn Y (dF h14) Y (u_fa Y Y U79 Y in_3 nz Y Y (nl (GToken.len t0))) (rn Y (dF h14) Y (u_ld Y Y U3 Y Y (GToken.sub0 t0)) (rn Y (dF h14) Y (p_ieq Y Y Y) (rn Y qq14 Y (p_pkf Y Y (dF h14) (tb ((or_l (p:=t0.Kind=(3:Int)) (q:=t0.Kind=(5:Int)) h14)))) (rn Y qq14 Y (p_move Y Y) ?_))))
    refine (Classical.em (t0.Kind=(5:Int))).elim (fun h15=>?_) (fun h15=>?_)
    ·have qq16:=dT (p:=(t0.Kind=(3:Int))∨(t0.Kind=(5:Int))) (Or.inr h15)
     exact rn Y qq16 Y (u_fa Y Y U79 Y in_9 nz Y Y (nl (GToken.len t0))) (rn Y qq16 Y (u_ld Y Y U9 Y Y (GToken.sub1 t0)) (rn Y qq16 Y (p_sne Y Y Y) (rn Y qq14 Y (p_pkt Y Y qq16 (tb ((and_l (p:=(t0.Kind=(3:Int))∨(t0.Kind=(5:Int))) (q:=t0.Text≠[]) (Or.inr h15))))) (rp Y (p_pkf Y Y qq14 (tb ((or_l (p:=((t0.Kind≠(3:Int))∧(t0.Int_≠(0:Int)))∨((t0.Kind≠(5:Int))∧(t0.Bits≠(0:UInt64)))) (q:=((t0.Kind=(3:Int))∨(t0.Kind=(5:Int)))∧(t0.Text≠[])) (not_or.2 ⟨(fun h=>h11 h.2),(fun h=>h13 h.2)⟩))))) (rend Y Y)))))
    have qq17:=dF (p:=(t0.Kind=(3:Int))∨(t0.Kind=(5:Int))) (not_or.2 ⟨h14,h15⟩)
    iterate 3 (refine rO Y qq17 Y ?_)
    exact rn Y qq14 Y (p_pkf Y Y qq17 (tb (dF (p:=((t0.Kind=(3:Int))∨(t0.Kind=(5:Int)))∧(t0.Text≠[])) (fun x=>(not_or.2 ⟨h14,h15⟩) x.1)).symm)) (rp Y (p_pkf Y Y qq14 (tb ((or_l (p:=((t0.Kind≠(3:Int))∧(t0.Int_≠(0:Int)))∨((t0.Kind≠(5:Int))∧(t0.Bits≠(0:UInt64)))) (q:=((t0.Kind=(3:Int))∨(t0.Kind=(5:Int)))∧(t0.Text≠[])) (not_or.2 ⟨(fun h=>h11 h.2),(fun h=>h13 h.2)⟩))))) (rend Y Y))
   iterate 3 (refine rO Y (dF h12) Y ?_)
   refine rn Y qq12 Y (p_pkf Y Y (dF h12) (tb (dF (p:=(t0.Kind≠(5:Int))∧(t0.Bits≠(0:UInt64))) (fun x=>h12 x.1)).symm)) (rp Y (p_pkf Y Y qq12 (tb ((or_l (p:=(t0.Kind≠(3:Int))∧(t0.Int_≠(0:Int))) (q:=(t0.Kind≠(5:Int))∧(t0.Bits≠(0:UInt64))) (fun h=>h11 h.2))))) (rm Y ?_))
   have qq18:=dF (p:=((t0.Kind≠(3:Int))∧(t0.Int_≠(0:Int)))∨((t0.Kind≠(5:Int))∧(t0.Bits≠(0:UInt64)))) (not_or.2 ⟨(fun h=>h11 h.2),(fun h=>h12 h.1)⟩)
   refine rn Y qq18 Y (u_fa Y Y U79 Y in_3 nz Y Y (nl (GToken.len t0))) (rn Y qq18 Y (u_ld Y Y U3 Y Y (GToken.sub0 t0)) (rn Y qq18 Y (p_ieq Y Y Y) (rn Y qq18 Y (p_move Y Y) ?_)))
   refine (Classical.em (t0.Kind=(3:Int))).elim (fun h16=>?_) (fun h16=>?_)
   ·iterate 3 (refine rO Y (dT h16) Y ?_)
    have qq19:=dT (p:=(t0.Kind=(3:Int))∨(t0.Kind=(5:Int))) (Or.inl h16)
    refine rn Y qq18 Y (p_pkt Y Y (dT h16) (tb qq19.symm)) (rn Y qq18 Y (p_move Y Y) (rn Y qq19 Y (u_fa Y Y U79 Y in_9 nz Y Y (nl (GToken.len t0))) (rn Y qq19 Y (u_ld Y Y U9 Y Y (GToken.sub1 t0)) (rn Y qq19 Y (p_sne Y Y Y) (rn Y qq18 Y (p_pkt Y Y qq19 (tb ((and_l (p:=(t0.Kind=(3:Int))∨(t0.Kind=(5:Int))) (q:=t0.Text≠[]) (Or.inl h16))))) (rp Y (p_pkf Y Y qq18 (tb ((or_l (p:=((t0.Kind≠(3:Int))∧(t0.Int_≠(0:Int)))∨((t0.Kind≠(5:Int))∧(t0.Bits≠(0:UInt64)))) (q:=((t0.Kind=(3:Int))∨(t0.Kind=(5:Int)))∧(t0.Text≠[])) (not_or.2 ⟨(fun h=>h11 h.2),(fun h=>h12 h.1)⟩))))) ?_))))))
    exact rend Y Y
   refine rn Y (dF h16) Y (u_fa Y Y U79 Y in_3 nz Y Y (nl (GToken.len t0))) (rn Y (dF h16) Y (u_ld Y Y U3 Y Y (GToken.sub0 t0)) (rn Y (dF h16) Y (p_ieq Y Y Y) (rn Y qq18 Y (p_pkf Y Y (dF h16) (tb ((or_l (p:=t0.Kind=(3:Int)) (q:=t0.Kind=(5:Int)) h16)))) (rn Y qq18 Y (p_move Y Y) ?_))))
   refine (Classical.em (t0.Kind=(5:Int))).elim (fun h17=>?_) (fun h17=>?_)
   ·have qq20:=dT (p:=(t0.Kind=(3:Int))∨(t0.Kind=(5:Int))) (Or.inr h17)
    exact rn Y qq20 Y (u_fa Y Y U79 Y in_9 nz Y Y (nl (GToken.len t0))) (rn Y qq20 Y (u_ld Y Y U9 Y Y (GToken.sub1 t0)) (rn Y qq20 Y (p_sne Y Y Y) (rn Y qq18 Y (p_pkt Y Y qq20 (tb ((and_l (p:=(t0.Kind=(3:Int))∨(t0.Kind=(5:Int))) (q:=t0.Text≠[]) (Or.inr h17))))) (rp Y (p_pkf Y Y qq18 (tb ((or_l (p:=((t0.Kind≠(3:Int))∧(t0.Int_≠(0:Int)))∨((t0.Kind≠(5:Int))∧(t0.Bits≠(0:UInt64)))) (q:=((t0.Kind=(3:Int))∨(t0.Kind=(5:Int)))∧(t0.Text≠[])) (not_or.2 ⟨(fun h=>h11 h.2),(fun h=>h12 h.1)⟩))))) (rend Y Y)))))
   have qq21:=dF (p:=(t0.Kind=(3:Int))∨(t0.Kind=(5:Int))) (not_or.2 ⟨h16,h17⟩)
   iterate 3 (refine rO Y qq21 Y ?_)
   exact rn Y qq18 Y (p_pkf Y Y qq21 (tb (dF (p:=((t0.Kind=(3:Int))∨(t0.Kind=(5:Int)))∧(t0.Text≠[])) (fun x=>(not_or.2 ⟨h16,h17⟩) x.1)).symm)) (rp Y (p_pkf Y Y qq18 (tb ((or_l (p:=((t0.Kind≠(3:Int))∧(t0.Int_≠(0:Int)))∨((t0.Kind≠(5:Int))∧(t0.Bits≠(0:UInt64)))) (q:=((t0.Kind=(3:Int))∨(t0.Kind=(5:Int)))∧(t0.Text≠[])) (not_or.2 ⟨(fun h=>h11 h.2),(fun h=>h12 h.1)⟩))))) (rend Y Y))
  iterate 3 (refine rO Y (dF h10) Y ?_)
  refine rp Y (p_pkf Y Y (dF h10) (tb (dF (p:=(t0.Kind≠(3:Int))∧(t0.Int_≠(0:Int))) (fun x=>h10 x.1)).symm)) (rm Y ?_)
  have qq22:=dF (p:=(t0.Kind≠(3:Int))∧(t0.Int_≠(0:Int))) (fun h=>h10 h.1)
  refine rn Y qq22 Y (u_fa Y Y U79 Y in_3 nz Y Y (nl (GToken.len t0))) (rn Y qq22 Y (u_ld Y Y U3 Y Y (GToken.sub0 t0)) (rn Y qq22 Y (p_ine Y Y Y) (rn Y qq22 Y (p_move Y Y) ?_)))
  refine (Classical.em (t0.Kind≠(5:Int))).elim (fun h18=>?_) (fun h18=>?_)
  ·refine rn Y (dT h18) Y (u_fa Y Y U79 Y in_30 nz Y Y (nl (GToken.len t0))) (rn Y (dT h18) Y (u_ld Y Y U30 Y Y (GToken.sub3 t0)) (rn Y (dT h18) Y (p_u64ne (a:=t0.Bits) (b:=(0:UInt64)) Y Y Y) (rn Y qq22 Y (p_pkt Y Y (dT h18) (tb ((and_l (p:=t0.Kind≠(5:Int)) (q:=t0.Bits≠(0:UInt64)) h18)))) (rp Y (p_pkf Y Y qq22 (tb ((or_l (p:=(t0.Kind≠(3:Int))∧(t0.Int_≠(0:Int))) (q:=(t0.Kind≠(5:Int))∧(t0.Bits≠(0:UInt64))) (fun h=>h10 h.1))))) (rm Y ?_)))))
   refine (Classical.em (t0.Bits≠(0:UInt64))).elim (fun h19=>?_) (fun h19=>?_)
   ·have qq23:=dT (p:=((t0.Kind≠(3:Int))∧(t0.Int_≠(0:Int)))∨((t0.Kind≠(5:Int))∧(t0.Bits≠(0:UInt64)))) (Or.inr ⟨h18,h19⟩)
    iterate 4 (refine rO Y qq23 Y ?_)
    iterate 3 (refine r_off2 rfl rfl rfl rfl rfl rfl ?_)
    iterate 2 (refine rO Y qq23 Y ?_)
    iterate 3 (refine r_off2 rfl rfl rfl rfl rfl rfl ?_)
    exact rO Y qq23 Y (rp Y (p_pkt Y Y qq23 (tb (dT (p:=(((t0.Kind≠(3:Int))∧(t0.Int_≠(0:Int)))∨((t0.Kind≠(5:Int))∧(t0.Bits≠(0:UInt64))))∨(((t0.Kind=(3:Int))∨(t0.Kind=(5:Int)))∧(t0.Text≠[]))) (Or.inl (Or.inr ⟨h18,h19⟩))).symm)) (rend Y Y))
   have qq24:=dF (p:=((t0.Kind≠(3:Int))∧(t0.Int_≠(0:Int)))∨((t0.Kind≠(5:Int))∧(t0.Bits≠(0:UInt64)))) (not_or.2 ⟨(fun h=>h10 h.1),(fun h=>h19 h.2)⟩)
   refine rn Y qq24 Y (u_fa Y Y U79 Y in_3 nz Y Y (nl (GToken.len t0))) (rn Y qq24 Y (u_ld Y Y U3 Y Y (GToken.sub0 t0)) (rn Y qq24 Y (p_ieq Y Y Y) (rn Y qq24 Y (p_move Y Y) ?_)))
   refine (Classical.em (t0.Kind=(3:Int))).elim (fun h20=>?_) (fun h20=>?_)
   ·iterate 3 (refine rO Y (dT h20) Y ?_)
    have qq25:=dT (p:=(t0.Kind=(3:Int))∨(t0.Kind=(5:Int))) (Or.inl h20)
    refine rn Y qq24 Y (p_pkt Y Y (dT h20) (tb qq25.symm)) (rn Y qq24 Y (p_move Y Y) (rn Y qq25 Y (u_fa Y Y U79 Y in_9 nz Y Y (nl (GToken.len t0))) (rn Y qq25 Y (u_ld Y Y U9 Y Y (GToken.sub1 t0)) (rn Y qq25 Y (p_sne Y Y Y) (rn Y qq24 Y (p_pkt Y Y qq25 (tb ((and_l (p:=(t0.Kind=(3:Int))∨(t0.Kind=(5:Int))) (q:=t0.Text≠[]) (Or.inl h20))))) (rp Y (p_pkf Y Y qq24 (tb ((or_l (p:=((t0.Kind≠(3:Int))∧(t0.Int_≠(0:Int)))∨((t0.Kind≠(5:Int))∧(t0.Bits≠(0:UInt64)))) (q:=((t0.Kind=(3:Int))∨(t0.Kind=(5:Int)))∧(t0.Text≠[])) (not_or.2 ⟨(fun h=>h10 h.1),(fun h=>h19 h.2)⟩))))) ?_))))))
    exact rend Y Y
   refine rn Y (dF h20) Y (u_fa Y Y U79 Y in_3 nz Y Y (nl (GToken.len t0))) (rn Y (dF h20) Y (u_ld Y Y U3 Y Y (GToken.sub0 t0)) (rn Y (dF h20) Y (p_ieq Y Y Y) (rn Y qq24 Y (p_pkf Y Y (dF h20) (tb ((or_l (p:=t0.Kind=(3:Int)) (q:=t0.Kind=(5:Int)) h20)))) (rn Y qq24 Y (p_move Y Y) ?_))))
   refine (Classical.em (t0.Kind=(5:Int))).elim (fun h21=>?_) (fun h21=>?_)
   ·have qq26:=dT (p:=(t0.Kind=(3:Int))∨(t0.Kind=(5:Int))) (Or.inr h21)
    exact rn Y qq26 Y (u_fa Y Y U79 Y in_9 nz Y Y (nl (GToken.len t0))) (rn Y qq26 Y (u_ld Y Y U9 Y Y (GToken.sub1 t0)) (rn Y qq26 Y (p_sne Y Y Y) (rn Y qq24 Y (p_pkt Y Y qq26 (tb ((and_l (p:=(t0.Kind=(3:Int))∨(t0.Kind=(5:Int))) (q:=t0.Text≠[]) (Or.inr h21))))) (rp Y (p_pkf Y Y qq24 (tb ((or_l (p:=((t0.Kind≠(3:Int))∧(t0.Int_≠(0:Int)))∨((t0.Kind≠(5:Int))∧(t0.Bits≠(0:UInt64)))) (q:=((t0.Kind=(3:Int))∨(t0.Kind=(5:Int)))∧(t0.Text≠[])) (not_or.2 ⟨(fun h=>h10 h.1),(fun h=>h19 h.2)⟩))))) (rend Y Y)))))
   have qq27:=dF (p:=(t0.Kind=(3:Int))∨(t0.Kind=(5:Int))) (not_or.2 ⟨h20,h21⟩)
   iterate 3 (refine rO Y qq27 Y ?_)
   exact rn Y qq24 Y (p_pkf Y Y qq27 (tb (dF (p:=((t0.Kind=(3:Int))∨(t0.Kind=(5:Int)))∧(t0.Text≠[])) (fun x=>(not_or.2 ⟨h20,h21⟩) x.1)).symm)) (rp Y (p_pkf Y Y qq24 (tb ((or_l (p:=((t0.Kind≠(3:Int))∧(t0.Int_≠(0:Int)))∨((t0.Kind≠(5:Int))∧(t0.Bits≠(0:UInt64)))) (q:=((t0.Kind=(3:Int))∨(t0.Kind=(5:Int)))∧(t0.Text≠[])) (not_or.2 ⟨(fun h=>h10 h.1),(fun h=>h19 h.2)⟩))))) (rend Y Y))
  iterate 3 (refine rO Y (dF h18) Y ?_)
  refine rn Y qq22 Y (p_pkf Y Y (dF h18) (tb (dF (p:=(t0.Kind≠(5:Int))∧(t0.Bits≠(0:UInt64))) (fun x=>h18 x.1)).symm)) (rp Y (p_pkf Y Y qq22 (tb ((or_l (p:=(t0.Kind≠(3:Int))∧(t0.Int_≠(0:Int))) (q:=(t0.Kind≠(5:Int))∧(t0.Bits≠(0:UInt64))) (fun h=>h10 h.1))))) (rm Y ?_))
  have qq28:=dF (p:=((t0.Kind≠(3:Int))∧(t0.Int_≠(0:Int)))∨((t0.Kind≠(5:Int))∧(t0.Bits≠(0:UInt64)))) (not_or.2 ⟨(fun h=>h10 h.1),(fun h=>h18 h.1)⟩)
  refine rn Y qq28 Y (u_fa Y Y U79 Y in_3 nz Y Y (nl (GToken.len t0))) (rn Y qq28 Y (u_ld Y Y U3 Y Y (GToken.sub0 t0)) (rn Y qq28 Y (p_ieq Y Y Y) (rn Y qq28 Y (p_move Y Y) ?_)))
  refine (Classical.em (t0.Kind=(3:Int))).elim (fun h22=>?_) (fun h22=>?_)
  ·iterate 3 (refine rO Y (dT h22) Y ?_)
   have qq29:=dT (p:=(t0.Kind=(3:Int))∨(t0.Kind=(5:Int))) (Or.inl h22)
   refine rn Y qq28 Y (p_pkt Y Y (dT h22) (tb qq29.symm)) (rn Y qq28 Y (p_move Y Y) (rn Y qq29 Y (u_fa Y Y U79 Y in_9 nz Y Y (nl (GToken.len t0))) (rn Y qq29 Y (u_ld Y Y U9 Y Y (GToken.sub1 t0)) (rn Y qq29 Y (p_sne Y Y Y) (rn Y qq28 Y (p_pkt Y Y qq29 (tb ((and_l (p:=(t0.Kind=(3:Int))∨(t0.Kind=(5:Int))) (q:=t0.Text≠[]) (Or.inl h22))))) (rp Y (p_pkf Y Y qq28 (tb ((or_l (p:=((t0.Kind≠(3:Int))∧(t0.Int_≠(0:Int)))∨((t0.Kind≠(5:Int))∧(t0.Bits≠(0:UInt64)))) (q:=((t0.Kind=(3:Int))∨(t0.Kind=(5:Int)))∧(t0.Text≠[])) (not_or.2 ⟨(fun h=>h10 h.1),(fun h=>h18 h.1)⟩))))) ?_))))))
   exact rend Y Y
  refine rn Y (dF h22) Y (u_fa Y Y U79 Y in_3 nz Y Y (nl (GToken.len t0))) (rn Y (dF h22) Y (u_ld Y Y U3 Y Y (GToken.sub0 t0)) (rn Y (dF h22) Y (p_ieq Y Y Y) (rn Y qq28 Y (p_pkf Y Y (dF h22) (tb ((or_l (p:=t0.Kind=(3:Int)) (q:=t0.Kind=(5:Int)) h22)))) (rn Y qq28 Y (p_move Y Y) ?_))))
  refine (Classical.em (t0.Kind=(5:Int))).elim (fun h23=>?_) (fun h23=>?_)
  ·have qq30:=dT (p:=(t0.Kind=(3:Int))∨(t0.Kind=(5:Int))) (Or.inr h23)
   exact rn Y qq30 Y (u_fa Y Y U79 Y in_9 nz Y Y (nl (GToken.len t0))) (rn Y qq30 Y (u_ld Y Y U9 Y Y (GToken.sub1 t0)) (rn Y qq30 Y (p_sne Y Y Y) (rn Y qq28 Y (p_pkt Y Y qq30 (tb ((and_l (p:=(t0.Kind=(3:Int))∨(t0.Kind=(5:Int))) (q:=t0.Text≠[]) (Or.inr h23))))) (rp Y (p_pkf Y Y qq28 (tb ((or_l (p:=((t0.Kind≠(3:Int))∧(t0.Int_≠(0:Int)))∨((t0.Kind≠(5:Int))∧(t0.Bits≠(0:UInt64)))) (q:=((t0.Kind=(3:Int))∨(t0.Kind=(5:Int)))∧(t0.Text≠[])) (not_or.2 ⟨(fun h=>h10 h.1),(fun h=>h18 h.1)⟩))))) (rend Y Y)))))
  have qq31:=dF (p:=(t0.Kind=(3:Int))∨(t0.Kind=(5:Int))) (not_or.2 ⟨h22,h23⟩)
  iterate 3 (refine rO Y qq31 Y ?_)
  exact rn Y qq28 Y (p_pkf Y Y qq31 (tb (dF (p:=((t0.Kind=(3:Int))∨(t0.Kind=(5:Int)))∧(t0.Text≠[])) (fun x=>(not_or.2 ⟨h22,h23⟩) x.1)).symm)) (rp Y (p_pkf Y Y qq28 (tb ((or_l (p:=((t0.Kind≠(3:Int))∧(t0.Int_≠(0:Int)))∨((t0.Kind≠(5:Int))∧(t0.Bits≠(0:UInt64)))) (q:=((t0.Kind=(3:Int))∨(t0.Kind=(5:Int)))∧(t0.Text≠[])) (not_or.2 ⟨(fun h=>h10 h.1),(fun h=>h18 h.1)⟩))))) (rend Y Y))
 refine gen1 (fun t69'2=>(⟨[(1,.q 1 (0)),(69,.b t69'2)],[(1,.pure (GToken.cs t0))],112⟩:TS)) H ?_
 intro t69'2 H
 refine AW2_cond Y (fun h24=>?_) (fun h24=>?_)
 ·replace H:=ite_then h24 H
  refine sg [0] Y (ra Y (rz [(2,.i (3:Int))] [] Y (AW2_ret ?_)))
  have z:=se H; subst z
  exact ⟨⟨rt,trivial⟩,trivial⟩
 replace H:=ite_else (ne_true h24) H
 refine as2 [(1,.q 1 (0))] [(1,.pure (GToken.cs t0))] Y (AW2_skip (sg [0] Y (ra Y (rz [(1,_),(3,.b true)] [(1,_)] Y (AW2_seq (bindK H fun j'3 h25 H=>?_))))))
 refine AW2_mid (⟨[(3,.b j'3)],[],112⟩:TS) ?_ ?_
 ·clear H
  have H:=h25
  clear h25
  refine sg [0,1] Y (rf Y U79 Y in_3 Y Y (GToken.len t0) (rp Y (u_ld Y Y U3 Y Y (GToken.sub0 t0)) (rz [(1,.q 1 (0)),(3,.b true),(71,.i t0.Kind)] [(1,.pure (GToken.cs t0))] Y (AW2_block (sg [0,1] Y (rp Y (p_ieq Y Y Y) ?_))))))
  refine ra Y (rz [(1,_),(3,_),(71,_),(72,.b (decide (t0.Kind=(1:Int))))] [(1,_)] Y (if2 H Y (fun h26 H=>?_) (fun h26 H=>?_)))
  ·refine bindK H fun g'7 h33 H=>AW2_mid (⟨[(3,.b g'7)],[],112⟩:TS) ?_ ?_
   ·clear H
    have H:=h33
    clear h33
    refine AW2_reg [0,1,2,3,4,5,6,7,8,9] Y (rf Y U79 Y in_9 Y Y (GToken.len t0) (rp Y (u_ld Y Y U9 Y Y (GToken.sub1 t0)) (bindK H fun r'5 h29 H=>rp Y (p_calll Y Y Y Tryz.func58 Y Y (g_lex_all_i0_ac h29) Y ⟨lend_p Y,lend_clo Y Y trivial,trivial⟩) (rm Y (em2 H (fun h30 H=>?_) (fun h30 H=>?_))))))
    ·refine rn Y h30 Y (u_fa Y Y U79 Y in_9 nz Y Y (nl (GToken.len t0))) (rn Y h30 Y (u_ld Y Y U9 Y Y (GToken.sub1 t0)) (chkK H fun h31 H=>rn Y h30 Y (p_ixt Y U9 Y Y Y (lrd_get h31)) (bindK H fun r'6 h32 H=>rn Y h30 Y (p_callp Y Y Y Tryz.func60 Y Y (g_lex_small_ac h32) ⟨Y,trivial⟩) (rp Y (p_pkt Y Y h30 (.same _)) ?_))))
     refine ra Y (rs [(3,.b r'6)] [] Y ?_)
     have z:=se H; subst z
     exact RunW_nil rfl
    iterate 4 (refine rO Y (bfalse h30) Y ?_)
    refine rp Y (p_pkf Y Y (bfalse h30) (.same _)) (ra Y (rs [(3,.b false)] [] Y ?_))
    have z:=se H; subst z
    exact RunW_nil rfl
   have z:=se H; subst z
   exact rfl
  refine sg [0,1] Y (rp Y (p_ieq Y Y Y) (ra Y (rz [(1,_),(3,_),(71,_),(83,.b (decide (t0.Kind=(2:Int))))] [(1,_)] Y (if2 H Y (fun h35 H=>?_) (fun h35 H=>?_)))))
  ·refine AW2_reg [0,1,2,3] Y (rf Y U79 Y in_9 Y Y (GToken.len t0) (rp Y (u_ld Y Y U9 Y Y (GToken.sub1 t0)) (bindK H fun r'8 h36 H=>rp Y (p_calll Y Y Y Tryz.func58 Y Y (g_lex_all_i1_ac h36) Y ⟨lend_p Y,lend_clo Y Y trivial,trivial⟩) (ra Y (rz [(3,.b r'8)] [] Y ?_)))))
   have z:=se H; subst z
   exact rfl
  refine sg [0,1] Y (rp Y (p_ieq Y Y Y) (ra Y (rz [(1,_),(3,_),(71,_),(88,.b (decide (t0.Kind=(3:Int))))] [(1,_)] Y (if2 H Y (fun h37 H=>?_) (fun h37 H=>?_)))))
  ·refine AW2_reg [0,1,2,3] Y (rf Y U79 Y in_3 Y Y (GToken.len t0) (rp Y (u_ld Y Y U3 Y Y (GToken.sub2 t0)) (rp Y (p_bin Y Y Y Y) (ra Y (rz [(3,.b (decide (t0.Int_≥(0:Int))))] [] Y ?_)))))
   have z:=se H; subst z
   exact rfl
  refine sg [0,1] Y (rp Y (p_ieq Y Y Y) (ra Y (rz [(1,_),(3,_),(71,_),(93,.b (decide (t0.Kind=(4:Int))))] [(1,_)] Y (if2 H Y (fun h38 H=>?_) (fun h38 H=>?_)))))
  ·refine AW2_reg [0,1,2,3] Y (rf Y U79 Y in_9 Y Y (GToken.len t0) (rp Y (u_ld Y Y U9 Y Y (GToken.sub1 t0)) (bindK H fun r'9 h39 H=>rp Y (p_callp Y Y Y Tryz.func62 Y Y (g_utf8_ValidString_ac h39) ⟨Y,trivial⟩) (ra Y (rz [(3,.b r'9)] [] Y ?_)))))
   have z:=se H; subst z
   exact rfl
  refine sg [0,1] Y (rp Y (p_ieq Y Y Y) (ra Y (rz [(1,_),(3,_),(71,_),(98,.b (decide (t0.Kind=(5:Int))))] [(1,_)] Y (if2 H Y (fun h40 H=>?_) (fun h40 H=>?_)))))
  ·refine AW2_reg [0,1,2,3,4,5] Y (rf Y U79 Y in_30 Y Y (GToken.len t0) (rp Y (u_ld Y Y U30 Y Y (GToken.sub3 t0)) (rp Y (u_bld Y in_32 one_32 zc_32 pl_32 Y (af_cons Y Y (GValue.upd0 GValue.zero (3:Int)) (af_cons Y Y (GValue.upd2 ((GValue.w0 GValue.zero (3:Int))) t0.Bits) Y))) (bindK H fun r'10 h41 H=>rp Y (p_callp Y Y Y Tryz.func63 Y Y (g_value_Check_ac h41) ⟨Y,trivial⟩) (rp Y (p_ieq Y Y Y) ?_)))))
   refine ra Y (rz [(3,.b (decide (r'10=(0:Int))))] [] Y ?_)
   have z:=se H; subst z
   exact rfl
  refine sg [0,1] Y (rp Y (p_ieq Y Y Y) (ra Y (rz [(1,_),(3,_),(105,.b (decide (t0.Kind=(6:Int))))] [(1,_)] Y (if2 H Y (fun h42 H=>?_) (fun h42 H=>?_)))))
  ·refine AW2_reg [0,1,2,3] Y (rf Y U79 Y in_9 Y Y (GToken.len t0) (rp Y (u_ld Y Y U9 Y Y (GToken.sub1 t0)) (bindK H fun r'11 h43 H=>rp Y (p_callp Y Y Y Tryz.func64 Y Y (g_lex_sign_ac h43) ⟨Y,trivial⟩) (ra Y (rz [(3,.b r'11)] [] Y ?_)))))
   have z:=se H; subst z
   exact rfl
  refine as2 [(3,_)] [] Y (AW2_skip ?_)
  have z:=se H; subst z
  exact rfl
 refine AW2_seq (sg [0,1] Y (rm Y (rp Y (p_not Y Y) (rz [(111,.b (!j'3))] [] Y (AW2_cond Y (fun h44=>?_) (fun h44=>?_))))))
 ·replace H:=ite_then h44 H
  refine sg [0] Y (ra Y (rz [(2,.i (3:Int))] [] Y (AW2_ret ?_)))
  have z:=se H; subst z
  exact ⟨⟨rt,trivial⟩,trivial⟩
 replace H:=ite_else (ne_true h44) H
 refine as2 [] [] Y (AW2_skip (sg [0] Y (ra Y (rz [(2,.i (0:Int))] [] Y (AW2_ret ?_)))))
 have z:=se H; subst z
 exact ⟨⟨rt,trivial⟩,trivial⟩
noncomputable def g_kinds_Columns_l1 (cols0:List GColumn) (t12_0:Int):Int→Option (Int⊕(Int⊕Unit))
  | t34_1=>(if t34_1 < ((cut cols0 (0:Int) t12_0).length:Int) then if 0≤t34_1∧t34_1 < ((cut cols0 (0:Int) t12_0).length:Int) then (if (lrd (cut cols0 (0:Int) t12_0) t34_1.toNat).Name=(lrd cols0 t12_0.toNat).Name then some (.inr (.inl (8:Int))) else some (.inl (w64 (t34_1+(1:Int))))) else none else some (.inr (.inr ())))
noncomputable def g_kinds_Columns_l0 (cols0:List GColumn):Int→Option (Int⊕(Int⊕Unit))
  | t12_0=>(if t12_0 < (cols0.length:Int) then if 0≤t12_0∧t12_0 < (cols0.length:Int) then (g_lex_Check ({ { GToken.zero with Kind:=(1:Int) } with Text:=(lrd cols0 t12_0.toNat).Name })).bind fun r'1=>(if r'1≠(0:Int) then some (.inr (.inl (3:Int))) else (if ((lrd cols0 t12_0.toNat).Kind < (1:Int))∨((lrd cols0 t12_0.toNat).Kind > (4:Int)) then some (.inr (.inl (2:Int))) else if 0≤t12_0∧t12_0≤(cols0.length:Int) then (loopO (g_kinds_Columns_l1 cols0 t12_0) (0:Int)).bind fun o'5=>match o'5 with | .inl y'6=>some (.inr (.inl y'6)) | .inr (y'7)=>some (.inl (w64 (t12_0+(1:Int)))) else none)) else none else some (.inr (.inr ())))
noncomputable def g_kinds_Columns (cols0:List GColumn):Option (Int) :=
  (if (cols0.length:Int) > (5:Int) then some (1:Int) else (loopO (g_kinds_Columns_l0 cols0) (0:Int)).bind fun o'11=>match o'11 with | .inl y'12=>some y'12 | .inr (y'13)=>some (0:Int))
set_option maxHeartbeats 4000000 in
set_option maxRecDepth 100000 in
theorem g_kinds_Columns_ac {cols0:List GColumn} {r:Int} (H:g_kinds_Columns cols0=some r):ACp Tryz.prog 28 [(GColumn.ls cols0)] (AV.int r):=by
 refine ACp_of (AC2_of_body (vs:=[.i r]) Tryz.func28 Y Y (lb Y) Y ?_) (fun _=>.same _)
 unfold g_kinds_Columns at H
 refine as2 [(0,.p (GColumn.ls cols0))] [] Y (sg [0] Y (ra Y (rz [(0,_)] [] Y (AW2_seq (sg [0,1,2] Y (rm Y ?_))))))
 refine rp Y (p_lenl Y U22 Y Y) (rp Y (p_bin Y Y Y Y) (rz [(0,_),(9,.b (decide ((cols0.length:Int) > (5:Int))))] [] Y (if2 H Y (fun h1 H=>?_) (fun h1 H=>?_))))
 ·refine sg [0] Y (ra Y (rz [(2,.i (1:Int))] [] Y (AW2_ret ?_)))
  have z:=se H; subst z
  exact ⟨⟨rt,trivial⟩,trivial⟩
 refine as2 [(0,_)] [] Y (AW2_skip (AW2_seq (sg [0,1,2] Y (rm Y (rp Y (p_lenl Y U22 Y Y) (rm Y ?_))))))
 refine rz [(0,_),(10,.p (GColumn.ls cols0)),(11,.i (cols0.length:Int)),(12,.i (0:Int))] [] Y (AW2_block (as2 [(0,_),(10,_),(11,_),(12,_)] [] Y (bindK H fun o'11 h13 H=>AW2_loopO (fun a'8:Int=>(⟨[(0,.p (GColumn.ls cols0)),(10,.p (GColumn.ls cols0)),(11,.i (cols0.length:Int)),(12,.i a'8)],[],45⟩:TS)) (fun (o:Int⊕Unit) e s'=>match o with | .inl y'9=>e=Go.Exit.ret∧ResAll Tryz.prog s' [ResultVar.tmp 2] [.i y'9]∧HFits s' [] | .inr (y'10)=>e=Go.Exit.exit 0∧s'=(⟨[],[],45⟩:TS)) h13 Y (fun t12_0 x hx=>?_) (fun e s' hs=>?_))))
 ·clear H
  have H:=hx
  clear hx
  unfold g_kinds_Columns_l0 at H
  refine sg [0] Y (rp Y (p_bin Y Y Y Y) (rz [(0,.p (GColumn.ls cols0)),(10,.p (GColumn.ls cols0)),(11,.i (cols0.length:Int)),(12,.i t12_0),(13,.b (decide (t12_0 < (cols0.length:Int))))] [] Y (AW2_seq (if2 H Y (fun h2 H=>?_) (fun h2 H=>?_)))))
  ·refine as2 [(0,_),(10,_),(11,_),(12,_)] [] Y (AW2_skip (AW2_seq (AW2_block (sg [0,1,2,3,4,5] Y (rm Y (chkK H fun h3 H=>?_))))))
   refine rp Y (u_ixl Y Y U22 in_63 Y Y (ixe h3) (ixn h3) (fne (fun x=>(GColumn.len x)) (by decide) (ixn h3))) (rp Y (u_lda Y Y U63 Y in_63 Y np (Sub.fm default (fun x=>(GColumn.len x)) (ixn h3)) (GColumn.len (lrd cols0 t12_0.toNat))) (rq Y (MakeD.opD (u_alloc 4 Y in_63 one_63 zc_63) Y Y Y Y) (ra Y (rq Y (u_sw Y Y Y Y Y in_63 (GColumn.len (lrd cols0 t12_0.toNat)) (GColumn.len GColumn.zero) Y) (rz [(0,_),(3,.i t12_0),(4,.q 4 (0)),(10,_),(11,_),(12,_)] [(4,.pure (GColumn.cs (lrd cols0 t12_0.toNat)))] Y (AW2_seq ?_))))))
   refine sg [0,1,2,3,4] Y (rf Y U63 Y in_9 Y Y (GColumn.len (lrd cols0 t12_0.toNat)) (rp Y (u_ld Y Y U9 Y Y (GColumn.sub0 (lrd cols0 t12_0.toNat))) (rp Y (u_bld Y in_79 one_79 zc_79 pl_79 Y (af_cons Y Y (GToken.upd0 GToken.zero (1:Int)) (af_cons Y Y (GToken.upd1 ((GToken.w0 GToken.zero (1:Int))) ((lrd cols0 t12_0.toNat).Name)) Y))) (bindK H fun r'1 h4 H=>rp Y (p_callp Y Y Y Tryz.func41 Y Y (g_lex_Check_ac h4) ⟨Y,trivial⟩) (rp Y (p_ine Y Y Y) ?_)))))
   refine rz [(0,_),(3,_),(4,_),(10,_),(11,_),(12,_),(21,.b (decide (r'1≠(0:Int))))] [(4,_)] Y (if2 H Y (fun h5 H=>?_) (fun h5 H=>?_))
   ·refine sg [0] Y (ra Y (rz [(2,.i (3:Int))] [] Y (AW2_ret ?_)))
    have z:=se H; subst z
    exact ⟨Y,⟨rt,trivial⟩,trivial⟩
   refine as2 [(0,_),(3,_),(4,_),(10,_),(11,_),(12,_)] [(4,_)] Y (AW2_skip (AW2_seq (AW2_seq (AW2_mid (⟨[(0,.p (GColumn.ls cols0)),(3,.i t12_0),(4,.q 4 (0)),(10,.p (GColumn.ls cols0)),(11,.i (cols0.length:Int)),(12,.i t12_0),(29,.b (decide (((lrd cols0 t12_0.toNat).Kind < (1:Int))∨((lrd cols0 t12_0.toNat).Kind > (4:Int)))))],[(4,.pure (GColumn.cs (lrd cols0 t12_0.toNat)))],45⟩:TS) ?_ ?_))))
   ·refine AW2_reg [0,1,2,3,4,5,6,7] Y (rf Y U63 Y in_3 Y Y (GColumn.len (lrd cols0 t12_0.toNat)) (rp Y (u_ld Y Y U3 Y Y (GColumn.sub1 (lrd cols0 t12_0.toNat))) (rp Y (p_bin Y Y Y Y) (rm Y ?_))))
    refine (Classical.em ((lrd cols0 t12_0.toNat).Kind < (1:Int))).elim (fun h6=>?_) (fun h6=>?_)
    ·exact rO Y (dT h6) Y (rO Y (dT h6) Y (rO Y (dT h6) Y (rp Y (p_pkt Y Y (dT h6) (tb (dT (p:=((lrd cols0 t12_0.toNat).Kind < (1:Int))∨((lrd cols0 t12_0.toNat).Kind > (4:Int))) (Or.inl h6)).symm)) (rend Y Y))))
    exact rn Y (dF h6) Y (u_fa Y Y U63 Y in_3 nz Y Y (nl (GColumn.len (lrd cols0 t12_0.toNat)))) (rn Y (dF h6) Y (u_ld Y Y U3 Y Y (GColumn.sub1 (lrd cols0 t12_0.toNat))) (rn Y (dF h6) Y (p_bin Y Y Y Y) (rp Y (p_pkf Y Y (dF h6) (tb ((or_l (p:=(lrd cols0 t12_0.toNat).Kind < (1:Int)) (q:=(lrd cols0 t12_0.toNat).Kind > (4:Int)) h6)))) (rend Y Y))))
   refine if2 H Y (fun h7 H=>?_) (fun h7 H=>?_)
   ·refine sg [0] Y (ra Y (rz [(2,.i (2:Int))] [] Y (AW2_ret ?_)))
    have z:=se H; subst z
    exact ⟨Y,⟨rt,trivial⟩,trivial⟩
   refine as2 [(0,_),(3,_),(4,_),(10,_),(11,_),(12,_)] [(4,_)] Y (AW2_skip (sg [0,1,2,3,4] Y (rm Y (rm Y (chkK H fun h8 H=>rp Y (u_cutl (g:=(fun l=>l.flatMap GColumn.cs)) (a:=(0:Int)) (b:=t12_0) Y Y U22 in_63 Y bT_zero (bT_i (Int.le_trans (show 0≤(0:Int)∧(0:Int)≤t12_0∧t12_0≤(cols0.length:Int) from ⟨Int.le_refl _,h8.1,h8.2⟩).1 (show 0≤(0:Int)∧(0:Int)≤t12_0∧t12_0≤(cols0.length:Int) from ⟨Int.le_refl _,h8.1,h8.2⟩).2.1) Y) (.inl Y) (show 0≤(0:Int)∧(0:Int)≤t12_0∧t12_0≤(cols0.length:Int) from ⟨Int.le_refl _,h8.1,h8.2⟩) (g_fm (fun x=>(GColumn.len x)))) ?_)))))
   refine rp Y (p_lenl Y U22 Y Y) (rm Y (rz [(0,_),(4,_),(10,_),(11,_),(12,_),(32,.p (GColumn.ls (cut cols0 (0:Int) t12_0))),(33,.i ((cut cols0 (0:Int) t12_0).length:Int)),(34,.i (0:Int))] [(4,_)] Y (AW2_block (as2 [(0,_),(4,_),(10,_),(11,_),(12,_),(32,_),(33,_),(34,_)] [(4,_)] Y (bindK H fun o'5 h12 H=>AW2_loopO (fun a'2:Int=>(⟨[(0,.p (GColumn.ls cols0)),(4,.q 4 (0)),(10,.p (GColumn.ls cols0)),(11,.i (cols0.length:Int)),(12,.i t12_0),(32,.p (GColumn.ls (cut cols0 (0:Int) t12_0))),(33,.i ((cut cols0 (0:Int) t12_0).length:Int)),(34,.i a'2)],[(4,.pure (GColumn.cs (lrd cols0 t12_0.toNat)))],45⟩:TS)) (fun (o:Int⊕Unit) e s'=>match o with | .inl y'3=>e=Go.Exit.ret∧ResAll Tryz.prog s' [ResultVar.tmp 2] [.i y'3]∧HFits s' [] | .inr (y'4)=>e=Go.Exit.exit 2∧s'=(⟨[(0,.p (GColumn.ls cols0)),(10,.p (GColumn.ls cols0)),(11,.i (cols0.length:Int)),(12,.i t12_0)],[],45⟩:TS)) h12 Y (fun t34_1 x hx=>?_) (fun e s' hs=>?_))))))
   ·clear H
    have H:=hx
    clear hx
    unfold g_kinds_Columns_l1 at H
    refine sg [0] Y (rp Y (p_bin Y Y Y Y) (rz [(0,.p (GColumn.ls cols0)),(4,.q 4 (0)),(10,.p (GColumn.ls cols0)),(11,.i (cols0.length:Int)),(12,.i t12_0),(32,.p (GColumn.ls (cut cols0 (0:Int) t12_0))),(33,.i ((cut cols0 (0:Int) t12_0).length:Int)),(34,.i t34_1),(35,.b (decide (t34_1 < ((cut cols0 (0:Int) t12_0).length:Int))))] [(4,.pure (GColumn.cs (lrd cols0 t12_0.toNat)))] Y (AW2_seq (if2 H Y (fun h9 H=>?_) (fun h9 H=>?_)))))
    ·refine as2 [(0,_),(4,_),(10,_),(11,_),(12,_),(32,_),(33,_),(34,_)] [(4,_)] Y (AW2_skip (AW2_seq (AW2_block (sg [0,1,2,3] Y (chkK H fun h10 H=>rp Y (u_ixl Y Y U22 in_63 Y Y (ixe h10) (ixn h10) (fne (fun x=>(GColumn.len x)) (by decide) (ixn h10))) ?_)))))
     refine rp Y (u_lda Y Y U63 Y in_63 Y np (Sub.fm default (fun x=>(GColumn.len x)) (ixn h10)) (GColumn.len (lrd (cut cols0 (0:Int) t12_0) t34_1.toNat))) (rq Y (MakeD.opD (u_alloc 6 Y in_63 one_63 zc_63) Y Y Y Y) (rq Y (u_sw Y Y Y Y Y in_63 (GColumn.len (lrd (cut cols0 (0:Int) t12_0) t34_1.toNat)) (GColumn.len GColumn.zero) Y) (rz [(0,_),(4,_),(6,.q 6 (0)),(10,_),(11,_),(12,_),(32,_),(33,_),(34,_)] [(4,.pure (GColumn.cs (lrd cols0 t12_0.toNat))),(6,.pure (GColumn.cs (lrd (cut cols0 (0:Int) t12_0) t34_1.toNat)))] Y (sg [0,1,2,3,4] Y (rf Y U63 Y in_9 Y Y (GColumn.len (lrd (cut cols0 (0:Int) t12_0) t34_1.toNat)) (rp Y (u_ld Y Y U9 Y Y (GColumn.sub0 (lrd (cut cols0 (0:Int) t12_0) t34_1.toNat))) ?_))))))
     refine rf Y U63 Y in_9 Y Y (GColumn.len (lrd cols0 t12_0.toNat)) (rp Y (u_ld Y Y U9 Y Y (GColumn.sub0 (lrd cols0 t12_0.toNat))) (rp Y (p_seq Y Y Y) (rz [(0,_),(4,_),(10,_),(11,_),(12,_),(32,_),(33,_),(34,_),(42,.b (decide ((lrd (cut cols0 (0:Int) t12_0) t34_1.toNat).Name=(lrd cols0 t12_0.toNat).Name)))] [(4,_)] Y (if2 H Y (fun h11 H=>?_) (fun h11 H=>?_)))))
     ·refine sg [0] Y (ra Y (rz [(2,.i (8:Int))] [] Y (AW2_ret ?_)))
      have z:=se H; subst z
      exact ⟨Y,⟨rt,trivial⟩,trivial⟩
     refine as2 [(0,_),(4,_),(10,_),(11,_),(12,_),(32,_),(33,_),(34,_)] [(4,_)] Y (AW2_skip (AW2_reg [0,1] Y (rp Y (p_bin Y Y Y Y) (rm Y (rz [(0,_),(4,_),(10,_),(11,_),(12,_),(32,_),(33,_),(34,.i (w64 (t34_1+(1:Int))))] [(4,_)] Y ?_)))))
     have z:=se H; subst z
     exact ⟨Y,Y⟩
    refine as2 [(0,_),(10,_),(11,_),(12,_)] [] Y (AW2_exit (thenQ2_exit ?_))
    have z:=se H; subst z
    exact ⟨Y,Y⟩
   rcases o'5 with y'6 | y'7
   ·obtain ⟨rfl,hs⟩:=hs
    refine ⟨by simp,?_⟩
    have z:=se H; subst z
    exact ⟨Y,hs.1,hs.2⟩
   obtain ⟨rfl,rfl⟩:=hs
   refine ⟨by simp,?_⟩
   refine blockQ2_exit (AW2_reg [0,1] Y (rp Y (p_bin Y Y Y Y) (rm Y (rz [(0,.p (GColumn.ls cols0)),(10,.p (GColumn.ls cols0)),(11,.i (cols0.length:Int)),(12,.i (w64 (t12_0+(1:Int))))] [] Y ?_))))
   have z:=se H; subst z
   exact ⟨Y,Y⟩
  refine as2 [] [] Y (AW2_exit (thenQ2_exit ?_))
  have z:=se H; subst z
  exact ⟨Y,Y⟩
 rcases o'11 with y'12 | y'13
 ·obtain ⟨rfl,hs⟩:=hs
  refine ⟨by simp,?_⟩
  have z:=se H; subst z
  exact ⟨hs.1,hs.2⟩
 obtain ⟨rfl,rfl⟩:=hs
 refine ⟨by simp,?_⟩
 refine blockQ2_exit (sg [0] Y (ra Y (rz [(2,.i (0:Int))] [] Y (AW2_ret ?_))))
 have z:=se H; subst z
 exact ⟨⟨rt,trivial⟩,trivial⟩
def g_kinds_fits_r14:List (List (Nat×Option Nat)):=[[(7,none)],[(44,some 0)],[(45,some 1)],[(46,some 2)],[(7,none),(47,some 3)],[(47,some 3),(48,some 4)],[(1,none),(47,some 3)],[(6,none),(47,some 3)],[(47,some 3),(50,some 6),(51,some 7)],[(47,some 3),(52,some 8)],[(47,some 3),(53,some 9)]]
def g_kinds_fits_r14c:List (List Nat):=[[],[0],[0,1],[0,1,2],[0,1,2,3],[0,1,2,3,4],[0,1,2,3],[0,1,2,3],[0,1,2,3,6,7],[0,1,2,3,6,7,8],[0,1,2,3,6,7,8,9],[0,1,2,3,4,5,6,7,8,9,10],[0,1,2,3,4,5,6,7,8,9,10,11],[0,1,2,3,4,5,6,7,8,9,10,11,12]]
noncomputable def g_kinds_fits_l0 (row0:List GValue) (cols1:List GColumn):Int→Option (Int⊕(Int⊕Unit))
  | t21_0=>(if t21_0 < (row0.length:Int) then if 0≤t21_0∧t21_0 < (row0.length:Int) then (g_value_Check (lrd row0 t21_0.toNat)).bind fun r'2=>(if r'2≠(0:Int) then some (.inr (.inl r'2)) else ((if (lrd row0 t21_0.toNat).Kind=(0:Int) then if 0≤t21_0∧t21_0 < (cols1.length:Int) then some (!((lrd cols1 t21_0.toNat).Null)) else none else some false)).bind fun g'3=>(if g'3=true then some (.inr (.inl (12:Int))) else ((if (lrd row0 t21_0.toNat).Kind≠(0:Int) then if 0≤t21_0∧t21_0 < (cols1.length:Int) then some (decide ((lrd row0 t21_0.toNat).Kind≠(lrd cols1 t21_0.toNat).Kind)) else none else some false)).bind fun g'4=>(if g'4=true then some (.inr (.inl (2:Int))) else some (.inl (w64 (t21_0+(1:Int))))))) else none else some (.inr (.inr ())))
noncomputable def g_kinds_fits (row0:List GValue) (cols1:List GColumn):Option (Int) :=
  (g_kinds_Columns cols1).bind fun r'1=>(if r'1≠(0:Int) then some r'1 else (if (row0.length:Int)≠(cols1.length:Int) then some (1:Int) else (loopO (g_kinds_fits_l0 row0 cols1) (0:Int)).bind fun o'8=>match o'8 with | .inl y'9=>some y'9 | .inr (y'10)=>some (0:Int)))
set_option maxHeartbeats 4000000 in
set_option maxRecDepth 100000 in
theorem g_kinds_fits_ac {row0:List GValue} {cols1:List GColumn} {r:Int} (H:g_kinds_fits row0 cols1=some r):ACp Tryz.prog 44 [(GValue.ls row0),(GColumn.ls cols1)] (AV.int r):=by
 refine ACp_of (AC2_of_body (vs:=[.i r]) Tryz.func44 Y Y (lb Y) Y ?_) (fun _=>.same _)
 unfold g_kinds_fits at H
 refine as2 [(0,.p (GValue.ls row0)),(1,.p (GColumn.ls cols1))] [] Y (sg [0] Y (ra Y (rz [(0,_),(1,_)] [] Y (AW2_seq (sg [0,1,2] Y (rm Y ?_))))))
 refine bindK H fun r'1 h1 H=>rp Y (p_callp Y Y Y Tryz.func28 Y Y (g_kinds_Columns_ac h1) ⟨Y,trivial⟩) (ra Y (rz [(0,_),(1,_),(5,.i r'1)] [] Y (sg [0,1] Y (rm Y (rp Y (p_ine Y Y Y) ?_)))))
 refine rz [(0,_),(1,_),(5,_),(12,.b (decide (r'1≠(0:Int))))] [] Y (if2 H Y (fun h2 H=>?_) (fun h2 H=>?_))
 ·refine sg [0,1] Y (rm Y (ra Y (rz [(4,.i r'1)] [] Y (AW2_ret ?_))))
  have z:=se H; subst z
  exact ⟨⟨rt,trivial⟩,trivial⟩
 refine as2 [(0,_),(1,_)] [] Y (AW2_skip (AW2_seq (sg [0,1,2,3,4] Y (rm Y (rp Y (p_lenl Y U23 Y Y) (rm Y ?_))))))
 refine rp Y (p_lenl Y U22 Y Y) (rp Y (p_ine Y Y Y) (rz [(0,_),(1,_),(18,.b (decide ((row0.length:Int)≠(cols1.length:Int))))] [] Y (if2 H Y (fun h3 H=>?_) (fun h3 H=>?_))))
 ·refine sg [0] Y (ra Y (rz [(4,.i (1:Int))] [] Y (AW2_ret ?_)))
  have z:=se H; subst z
  exact ⟨⟨rt,trivial⟩,trivial⟩
 refine as2 [(0,_),(1,_)] [] Y (AW2_skip (AW2_seq (sg [0,1,2] Y (rm Y (rp Y (p_lenl Y U23 Y Y) (rm Y ?_))))))
 refine rz [(1,_),(19,.p (GValue.ls row0)),(20,.i (row0.length:Int)),(21,.i (0:Int))] [] Y (AW2_block (as2 [(1,_),(19,_),(20,_),(21,_)] [] Y (bindK H fun o'8 h18 H=>AW2_loopO (fun a'5:Int=>(⟨[(1,.p (GColumn.ls cols1)),(19,.p (GValue.ls row0)),(20,.i (row0.length:Int)),(21,.i a'5)],[],58⟩:TS)) (fun (o:Int⊕Unit) e s'=>match o with | .inl y'6=>e=Go.Exit.ret∧ResAll Tryz.prog s' [ResultVar.tmp 4] [.i y'6]∧HFits s' [] | .inr (y'7)=>e=Go.Exit.exit 0∧s'=(⟨[],[],58⟩:TS)) h18 Y (fun t21_0 x hx=>?_) (fun e s' hs=>?_))))
 ·clear H
  have H:=hx
  clear hx
  unfold g_kinds_fits_l0 at H
  refine sg [0] Y (rp Y (p_bin Y Y Y Y) (rz [(1,.p (GColumn.ls cols1)),(19,.p (GValue.ls row0)),(20,.i (row0.length:Int)),(21,.i t21_0),(22,.b (decide (t21_0 < (row0.length:Int))))] [] Y (AW2_seq (if2 H Y (fun h4 H=>?_) (fun h4 H=>?_)))))
  ·refine as2 [(1,_),(19,_),(20,_),(21,_)] [] Y (AW2_skip (AW2_seq (AW2_block (sg [0,1,2,3,4,5] Y (rm Y (chkK H fun h5 H=>?_))))))
   refine rp Y (u_ixl Y Y U23 in_32 Y Y (ixe h5) (ixn h5) (fne (fun x=>(GValue.len x)) (by decide) (ixn h5))) (rp Y (u_lda Y Y U32 Y in_32 Y np (Sub.fm default (fun x=>(GValue.len x)) (ixn h5)) (GValue.len (lrd row0 t21_0.toNat))) (rq Y (MakeD.opD (u_alloc 7 Y in_32 one_32 zc_32) Y Y Y Y) (ra Y (rq Y (u_sw Y Y Y Y Y in_32 (GValue.len (lrd row0 t21_0.toNat)) (GValue.len GValue.zero) Y) (rz [(1,_),(6,.i t21_0),(7,.q 7 (0)),(19,_),(20,_),(21,_)] [(7,.pure (GValue.cs (lrd row0 t21_0.toNat)))] Y (AW2_seq ?_))))))
   refine sg [0,1,2] Y (rp Y (u_lda Y Y U32 Y in_32 Y np (Sub.refl _) (GValue.len (lrd row0 t21_0.toNat))) (bindK H fun r'2 h6 H=>rp Y (p_callp Y Y Y Tryz.func63 Y Y (g_value_Check_ac h6) ⟨Y,trivial⟩) (ra Y (rz [(1,_),(6,_),(7,_),(8,.i r'2),(19,_),(20,_),(21,_)] [(7,_)] Y (sg [0,1] Y ?_)))))
   refine rm Y (rp Y (p_ine Y Y Y) (rz [(1,_),(6,_),(7,_),(8,_),(19,_),(20,_),(21,_),(29,.b (decide (r'2≠(0:Int))))] [(7,_)] Y (if2 H Y (fun h7 H=>?_) (fun h7 H=>?_))))
   ·refine sg [0,1] Y (rm Y (ra Y (rz [(4,.i r'2)] [] Y (AW2_ret ?_))))
    have z:=se H; subst z
    exact ⟨Y,⟨rt,trivial⟩,trivial⟩
   refine as2 [(1,_),(6,_),(7,_),(19,_),(20,_),(21,_)] [(7,_)] Y (AW2_skip (AW2_block (AW2_seq (bindK H fun g'3 h11 H=>AW2_mid (⟨[(1,.p (GColumn.ls cols1)),(6,.i t21_0),(7,.q 7 (0)),(19,.p (GValue.ls row0)),(20,.i (row0.length:Int)),(21,.i t21_0),(31,.b g'3)],[(7,.pure (GValue.cs (lrd row0 t21_0.toNat)))],58⟩:TS) ?_ ?_))))
   ·clear H
    have H:=h11
    clear h11
    refine AW2_reg [0,1,2,3,4,5,6,7,8,9,10,11] Y (rf Y U32 Y in_3 Y Y (GValue.len (lrd row0 t21_0.toNat)) (rp Y (u_ld Y Y U3 Y Y (GValue.sub0 (lrd row0 t21_0.toNat))) (rp Y (p_ieq Y Y Y) (rm Y (em2 H (fun h9 H=>?_) (fun h9 H=>?_))))))
    ·refine rn Y (dT h9) Y (p_move Y Y) (rn Y (dT h9) Y (p_move Y Y) (chkK H fun h10 H=>rn Y (dT h9) Y (u_ixl Y Y U22 in_63 Y Y (ixe h10) (ixn h10) (fne (fun x=>(GColumn.len x)) (by decide) (ixn h10))) (rn Y (dT h9) Y (u_far Y Y U63 Y in_4 nz Y) (rn Y (dT h9) Y (u_ld Y Y U4 Y Y ((Sub.fm default (fun x=>(GColumn.len x)) (ixn h10)).trans (GColumn.sub2 (lrd cols1 t21_0.toNat)))) (rn Y (dT h9) Y (p_not Y Y) ?_)))))
     refine rp Y (p_pkt Y Y (dT h9) (.same _)) (ra Y (rs [(1,.p (GColumn.ls cols1)),(6,.i t21_0),(7,.q 7 (0)),(19,.p (GValue.ls row0)),(20,.i (row0.length:Int)),(21,.i t21_0),(31,.b (!((lrd cols1 t21_0.toNat).Null)))] [(7,.pure (GValue.cs (lrd row0 t21_0.toNat)))] Y ?_))
     have z:=se H; subst z
     exact RunW_nil rfl
    refine rO Y (dF h9) Y (rO Y (dF h9) Y (rO Y (dF h9) Y (rO Y (dF h9) Y (rO Y (dF h9) Y (rO Y (dF h9) Y (rp Y (p_pkf Y Y (dF h9) (.same _)) ?_))))))
    refine ra Y (rs [(1,.p (GColumn.ls cols1)),(6,.i t21_0),(7,.q 7 (0)),(19,.p (GValue.ls row0)),(20,.i (row0.length:Int)),(21,.i t21_0),(31,.b false)] [(7,.pure (GValue.cs (lrd row0 t21_0.toNat)))] Y ?_)
    have z:=se H; subst z
    exact RunW_nil rfl
   refine AW2_cond Y (fun h12=>?_) (fun h12=>?_)
   ·replace H:=ite_then h12 H
    refine sg [0] Y (ra Y (rz [(4,.i (12:Int))] [] Y (AW2_ret ?_)))
    have z:=se H; subst z
    exact ⟨Y,⟨rt,trivial⟩,trivial⟩
   replace H:=ite_else (ne_true h12) H
   refine AW2_seq (bindK H fun g'4 h15 H=>AW2_mid (⟨[(1,.p (GColumn.ls cols1)),(19,.p (GValue.ls row0)),(20,.i (row0.length:Int)),(21,.i t21_0),(43,.b g'4)],[],58⟩:TS) ?_ ?_)
   ·clear H
    have H:=h15
    clear h15
    refine em2 H (fun h13 H=>?_) (fun h13 H=>?_)
    ·refine chkK H fun h14 H=>?_
     have z:=se H; subst z
     refine AW2_ghoQ (AW2_draw 11 [11,12,13] (fun k=>([.q 7 (0+0),.i ((lrd row0 t21_0.toNat).Kind),.b (decide ((lrd row0 t21_0.toNat).Kind≠(0:Int))),.b (decide ((lrd row0 t21_0.toNat).Kind≠(0:Int))),.q 7 (0+0),.i ((lrd row0 t21_0.toNat).Kind),.p (GColumn.ls cols1),.i t21_0,.p (.rptr (cols1.flatMap GColumn.cs) (t21_0.toNat * 3)),.p (.rptr (cols1.flatMap GColumn.cs) (t21_0.toNat * 3+1)),.i ((lrd cols1 t21_0.toNat).Kind)]:List TV).getD k TV.any) (fun k=>g_kinds_fits_r14.getD k []) [(1,none),(19,none),(20,none),(21,none),(47,some 3),(49,some 5),(54,some 10)] [] (fun k=>g_kinds_fits_r14c.getD k []) mixed (by kernel_rfl) Y Y (a_op (g_x Y (x_p Y (u_fa Y Y U32 Y in_3 nz Y Y (nl (GValue.len (lrd row0 t21_0.toNat)))) Y)) (a_op (g_x Y (x_p Y (u_ld Y Y U3 Y Y (GValue.sub0 (lrd row0 t21_0.toNat))) Y)) (a_op (g_x Y (x_p Y (p_ine Y Y Y) Y)) (a_op (g_x Y (x_p Y (p_move Y Y) Y)) (a_op (g_on Y Y Y (dT h13) Y (x_p Y (u_fa Y Y U32 Y in_3 nz Y Y (nl (GValue.len (lrd row0 t21_0.toNat)))) Y)) (a_op (g_on Y Y Y (dT h13) Y (x_p Y (u_ld Y Y U3 Y Y (GValue.sub0 (lrd row0 t21_0.toNat))) Y)) (a_op (g_on Y Y Y (dT h13) Y (x_p Y (p_move Y Y) Y)) (a_op (g_on Y Y Y (dT h13) Y (x_p Y (p_move Y Y) Y)) (a_op (g_on Y Y Y (dT h13) Y (x_p Y (u_ixl Y Y U22 in_63 Y Y (ixe h14) (ixn h14) (fne (fun x=>(GColumn.len x)) (by decide) (ixn h14))) Y)) (a_op (g_on Y Y Y (dT h13) Y (x_p Y (u_far Y Y U63 Y in_3 nz Y) Y)) (a_op (g_on Y Y Y (dT h13) Y (x_p Y (u_ld Y Y U3 Y Y ((Sub.fm default (fun x=>(GColumn.len x)) (ixn h14)).trans (GColumn.sub1 (lrd cols1 t21_0.toNat)))) Y)) (a_nil)))))))))))) (t_on Y Y Y Y (dT h13) Y (PureD.opD (p_ine Y Y Y)) (t_op Y Y (PureD.opD (p_pkt Y Y (dT h13) (.same _))) (t_op Y Y (PureD.opD (p_asg Y Y)) (t_gho (Gho_st (L:=[(1,.p (GColumn.ls cols1)),(19,.p (GValue.ls row0)),(20,.i (row0.length:Int)),(21,.i t21_0),(43,.b (decide ((lrd row0 t21_0.toNat).Kind≠(lrd cols1 t21_0.toNat).Kind)))]) (H:=[]) (N:=58) Y ⟨TLes.same _,TLes.same _,TLes.same _,TLes.same _,TLes.same _,trivial⟩ trivial) ?_)))))
     exact rfl
    have z:=se H; subst z
    refine AW2_ghoQ (AW2_draw 11 [11,12,13] (fun k=>([.q 7 (0+0),.i ((lrd row0 t21_0.toNat).Kind),.b (decide ((lrd row0 t21_0.toNat).Kind≠(0:Int))),.b (decide ((lrd row0 t21_0.toNat).Kind≠(0:Int))),.p (.tup []),.p (.tup []),.p (.tup []),.p (.tup []),.p (.tup []),.p (.tup []),.p (.tup [])]:List TV).getD k TV.any) (fun k=>g_kinds_fits_r14.getD k []) [(1,none),(19,none),(20,none),(21,none),(47,some 3),(49,some 5),(54,some 10)] [] (fun k=>g_kinds_fits_r14c.getD k []) mixed (by kernel_rfl) Y Y (a_op (g_x Y (x_p Y (u_fa Y Y U32 Y in_3 nz Y Y (nl (GValue.len (lrd row0 t21_0.toNat)))) Y)) (a_op (g_x Y (x_p Y (u_ld Y Y U3 Y Y (GValue.sub0 (lrd row0 t21_0.toNat))) Y)) (a_op (g_x Y (x_p Y (p_ine Y Y Y) Y)) (a_op (g_x Y (x_p Y (p_move Y Y) Y)) (a_op (g_off Y Y Y Y Y (dF h13) Y Y) (a_op (g_off Y Y Y Y Y (dF h13) Y Y) (a_op (g_off Y Y Y Y Y (dF h13) Y Y) (a_op (g_off Y Y Y Y Y (dF h13) Y Y) (a_op (g_off Y Y Y Y Y (dF h13) Y Y) (a_op (g_off Y Y Y Y Y (dF h13) Y Y) (a_op (g_off Y Y Y Y Y (dF h13) Y Y) (a_nil)))))))))))) (t_off Y Y Y Y (dF h13) Y Y (t_op Y Y (PureD.opD (p_pkf Y Y (dF h13) (.same _))) (t_op Y Y (PureD.opD (p_asg Y Y)) (t_gho (Gho_st (L:=[(1,.p (GColumn.ls cols1)),(19,.p (GValue.ls row0)),(20,.i (row0.length:Int)),(21,.i t21_0),(43,.b false)]) (H:=[]) (N:=58) Y ⟨TLes.same _,TLes.same _,TLes.same _,TLes.same _,TLes.same _,trivial⟩ trivial) ?_)))))
    exact rfl
   refine AW2_cond Y (fun h16=>?_) (fun h16=>?_)
   ·replace H:=ite_then h16 H
    refine sg [0] Y (ra Y (rz [(4,.i (2:Int))] [] Y (AW2_ret ?_)))
    have z:=se H; subst z
    exact ⟨Y,⟨rt,trivial⟩,trivial⟩
   replace H:=ite_else (ne_true h16) H
   refine as2 [(1,.p (GColumn.ls cols1)),(19,.p (GValue.ls row0)),(20,.i (row0.length:Int)),(21,.i t21_0)] [] Y (AW2_skip (AW2_reg [0,1] Y (rp Y (p_bin Y Y Y Y) (rm Y (rz [(1,_),(19,_),(20,_),(21,.i (w64 (t21_0+(1:Int))))] [] Y ?_)))))
   have z:=se H; subst z
   exact ⟨Y,Y⟩
  refine as2 [] [] Y (AW2_exit (thenQ2_exit ?_))
  have z:=se H; subst z
  exact ⟨Y,Y⟩
 rcases o'8 with y'9 | y'10
 ·obtain ⟨rfl,hs⟩:=hs
  refine ⟨by simp,?_⟩
  have z:=se H; subst z
  exact ⟨hs.1,hs.2⟩
 obtain ⟨rfl,rfl⟩:=hs
 refine ⟨by simp,?_⟩
 refine blockQ2_exit (sg [0] Y (ra Y (rz [(4,.i (0:Int))] [] Y (AW2_ret ?_))))
 have z:=se H; subst z
 exact ⟨⟨rt,trivial⟩,trivial⟩
noncomputable def g_kinds_Row (row0:List GValue) (cols1:List GColumn):Option (Int) :=
  (g_kinds_fits row0 cols1).bind fun r'1=>some r'1
set_option maxHeartbeats 4000000 in
set_option maxRecDepth 100000 in
theorem g_kinds_Row_ac {row0:List GValue} {cols1:List GColumn} {r:Int} (H:g_kinds_Row row0 cols1=some r):ACp Tryz.prog 30 [(GValue.ls row0),(GColumn.ls cols1)] (AV.int r):=by
 refine ACp_of (AC2_of_body (vs:=[.i r]) Tryz.func30 Y Y (lb Y) Y ?_) (fun _=>.same _)
 unfold g_kinds_Row at H
 refine as2 [(0,.p (GValue.ls row0)),(1,.p (GColumn.ls cols1))] [] Y (sg [0] Y (ra Y (rz [(0,_),(1,_)] [] Y (sg [0,1,2,3] Y (rm Y (rm Y ?_))))))
 refine bindK H fun r'1 h1 H=>rp Y (p_callp Y Y Y Tryz.func44 Y Y (g_kinds_fits_ac h1) ⟨Y,Y,trivial⟩) (ra Y (rz [(4,.i r'1)] [] Y (AW2_ret ?_)))
 have z:=se H; subst z
 exact ⟨⟨rt,trivial⟩,trivial⟩
def g_table_keys_r7:List (List (Nat×Option Nat)):=[[(4,none)],[(19,some 0)],[(20,some 1)],[(6,none),(21,some 2)],[(21,some 2),(22,some 3)],[(21,some 2),(23,some 4)],[(24,some 5)],[(6,none),(25,some 6)],[(25,some 6),(26,some 7)],[(25,some 6),(27,some 8)],[(25,some 6),(28,some 9)],[(4,none),(25,some 6)],[(25,some 6),(30,some 11)],[(25,some 6),(31,some 12)],[(25,some 6),(32,some 13)]]
def g_table_keys_r7c:List (List Nat):=[[],[0],[0,1],[0,1,2],[0,1,2,3],[0,1,2,3,4],[0,1,2,3,4,5],[0,1,2,3,4,5,6],[0,1,2,3,4,5,6,7],[0,1,2,3,4,5,6,7,8],[0,1,2,3,4,5,6,7,8,9],[0,1,2,3,4,5,6],[0,1,2,3,4,5,6,11],[0,1,2,3,4,5,6,11,12],[0,1,2,3,4,5,6,11,12,13],[0,1,2,3,4,5,6,7,8,9,10,11,12,13,14],[0,1,2,3,4,5,6,7,8,9,10,11,12,13,14,15]]
noncomputable def g_table_keys_l1 (d0:Vector GCell 4) (t8_0:Int):Int→Option (Int⊕(Int⊕Unit))
  | t15_1=>(if t15_1 < (t8_0.toNat:Int) then if 0≤t15_1∧t15_1 < (t8_0.toNat:Int) then ((if ((vrd d0 t8_0.toNat).Full)=true then (if ((vrd d0 t15_1.toNat).Full)=true then if 0 < ((vrd d0 t15_1.toNat).Row).length then if 0 < ((vrd d0 t8_0.toNat).Row).length then some (decide ((lrd ((vrd d0 t15_1.toNat).Row) 0)=(lrd ((vrd d0 t8_0.toNat).Row) 0))) else none else none else some false) else some false)).bind fun g'1=>(if g'1=true then some (.inr (.inl (8:Int))) else some (.inl (w64 (t15_1+(1:Int))))) else none else some (.inr (.inr ())))
noncomputable def g_table_keys_l0 (d0:Vector GCell 4):Int→Option (Int⊕(Int⊕Unit))
  | t8_0=>(if t8_0 < (4:Int) then if 0≤t8_0∧t8_0 < (4:Int) then if 0≤t8_0∧t8_0≤(4:Int) then (loopO (g_table_keys_l1 d0 t8_0) (0:Int)).bind fun o'5=>match o'5 with | .inl y'6=>some (.inr (.inl y'6)) | .inr (y'7)=>some (.inl (w64 (t8_0+(1:Int)))) else none else none else some (.inr (.inr ())))
noncomputable def g_table_keys (d0:Vector GCell 4):Option (Int) :=
  (loopO (g_table_keys_l0 d0) (0:Int)).bind fun o'11=>match o'11 with | .inl y'12=>some y'12 | .inr (y'13)=>some (0:Int)
set_option maxHeartbeats 4000000 in
set_option maxRecDepth 100000 in
theorem g_table_keys_ac {d0:Vector GCell 4} {r:Int} (H:g_table_keys d0=some r):ACp Tryz.prog 20 [(.agg (d0.toList.flatMap GCell.cs))] (AV.int r):=by
 refine ACp_of (AC2_of_body (vs:=[.i r]) Tryz.func20 Y Y (lb Y) Y ?_) (fun _=>.same _)
 unfold g_table_keys at H
 refine as2 [(0,.g (d0.toList.flatMap GCell.cs))] [] Y (sg [0,1] Y (rq Y (MakeD.opD (n_box 1 Y Y) Y Y Y Y) (ra Y (rz [(1,.q 1 (0))] [(1,.pure (d0.toList.flatMap GCell.cs))] Y (AW2_seq (sg [0,1] Y ?_))))))
 refine rp Y (u_lda Y Y U26 Y in_26 Y np (Sub.refl _) (vfm_len (fun x=>(GCell.len x)) d0)) (rm Y (rz [(1,_),(7,.g (d0.toList.flatMap GCell.cs)),(8,.i (0:Int))] [(1,_)] Y (AW2_block (as2 [(1,_),(7,_),(8,_)] [(1,_)] Y (bindK H fun o'11 h13 H=>AW2_loopO (fun a'8:Int=>(⟨[(1,.q 1 (0)),(7,.g (d0.toList.flatMap GCell.cs)),(8,.i a'8)],[(1,.pure (d0.toList.flatMap GCell.cs))],38⟩:TS)) (fun (o:Int⊕Unit) e s'=>match o with | .inl y'9=>e=Go.Exit.ret∧ResAll Tryz.prog s' [ResultVar.tmp 2] [.i y'9]∧HFits s' [] | .inr (y'10)=>e=Go.Exit.exit 0∧s'=(⟨[],[],38⟩:TS)) h13 Y (fun t8_0 x hx=>?_) (fun e s' hs=>?_))))))
 ·clear H
  have H:=hx
  clear hx
  unfold g_table_keys_l0 at H
  refine sg [0] Y (rp Y (p_bin Y Y Y Y) (rz [(1,.q 1 (0)),(7,.g (d0.toList.flatMap GCell.cs)),(8,.i t8_0),(9,.b (decide (t8_0 < (4:Int))))] [(1,.pure (d0.toList.flatMap GCell.cs))] Y (AW2_seq (if2 H Y (fun h1 H=>?_) (fun h1 H=>?_)))))
  ·refine as2 [(1,_),(7,_),(8,_)] [(1,_)] Y (AW2_skip (AW2_seq (AW2_block (sg [0,1,2,3,4] Y (rm Y (chkK H fun h2 H=>?_))))))
   refine rp Y (u_ixaa Y Y U26 in_25 U25 Y Y Y (ixe h2) (ixn h2) (Sub.vfm (fun x=>(GCell.len x)) (ixn h2)) (GCell.len (vrd d0 t8_0.toNat))) (rq Y (MakeD.opD (u_alloc 4 Y in_25 one_25 zc_25) Y Y Y Y) (ra Y (rq Y (u_sw Y Y Y Y Y in_25 (GCell.len (vrd d0 t8_0.toNat)) (GCell.len GCell.zero) Y) (rz [(1,_),(3,.i t8_0),(4,.q 4 (0)),(7,_),(8,_)] [(1,.pure (d0.toList.flatMap GCell.cs)),(4,.pure (GCell.cs (vrd d0 t8_0.toNat)))] Y (sg [0,1,2,3] Y (rm Y ?_))))))
   refine chkK H fun h3 H=>rp Y (u_cutah Y Y U26 in_25 Y Y (nl (vfm_len (fun x=>(GCell.len x)) d0)) (Sub.refl _) ((vfm_len (fun x=>(GCell.len x)) d0).trans (by decide)) (bT_i h3.1 Y) (toNat_le h3)) (rp Y (u_lens Y U73 Y Y Y (nl (vfm_len (fun x=>(GCell.len x)) d0))) (rm Y (rz [(1,_),(4,_),(7,_),(8,_),(13,.c (.sl 1 (0+0 * 2) t8_0.toNat 2)),(14,.i (t8_0.toNat:Int)),(15,.i (0:Int))] [(1,_),(4,_)] Y (AW2_block (as2 [(1,_),(4,_),(7,_),(8,_),(13,_),(14,_),(15,_)] [(1,_),(4,_)] Y ?_)))))
   refine bindK H fun o'5 h12 H=>AW2_loopO (fun a'2:Int=>(⟨[(1,.q 1 (0)),(4,.q 4 (0)),(7,.g (d0.toList.flatMap GCell.cs)),(8,.i t8_0),(13,.c (.sl 1 (0+0 * 2) t8_0.toNat 2)),(14,.i (t8_0.toNat:Int)),(15,.i a'2)],[(1,.pure (d0.toList.flatMap GCell.cs)),(4,.pure (GCell.cs (vrd d0 t8_0.toNat)))],38⟩:TS)) (fun (o:Int⊕Unit) e s'=>match o with | .inl y'3=>e=Go.Exit.ret∧ResAll Tryz.prog s' [ResultVar.tmp 2] [.i y'3]∧HFits s' [] | .inr (y'4)=>e=Go.Exit.exit 2∧s'=(⟨[(1,.q 1 (0)),(7,.g (d0.toList.flatMap GCell.cs)),(8,.i t8_0)],[(1,.pure (d0.toList.flatMap GCell.cs))],38⟩:TS)) h12 Y (fun t15_1 x hx=>?_) (fun e s' hs=>?_)
   ·clear H
    have H:=hx
    clear hx
    unfold g_table_keys_l1 at H
    refine sg [0] Y (rp Y (p_bin Y Y Y Y) (rz [(1,.q 1 (0)),(4,.q 4 (0)),(7,.g (d0.toList.flatMap GCell.cs)),(8,.i t8_0),(13,.c (.sl 1 (0+0 * 2) t8_0.toNat 2)),(14,.i (t8_0.toNat:Int)),(15,.i t15_1),(16,.b (decide (t15_1 < (t8_0.toNat:Int))))] [(1,.pure (d0.toList.flatMap GCell.cs)),(4,.pure (GCell.cs (vrd d0 t8_0.toNat)))] Y (AW2_seq (if2 H Y (fun h4 H=>?_) (fun h4 H=>?_)))))
    ·refine as2 [(1,_),(4,_),(7,_),(8,_),(13,_),(14,_),(15,_)] [(1,_),(4,_)] Y (AW2_skip (AW2_seq (AW2_block (sg [0,1,2,3] Y (chkK H fun h5 H=>rp Y (u_ixs Y Y U73 in_25 Y Y (nl (vfm_len (fun x=>(GCell.len x)) d0)) Y (ixe h5) (ixn h5)) ?_)))))
     refine rp Y (u_lda Y Y U25 Y in_25 Y np ((Sub.refl _).trans (Sub.vfm (fun x=>(GCell.len x)) (Nat.lt_of_lt_of_le (ixn h5) (toNat_le h3)))) (GCell.len (vrd d0 t15_1.toNat))) (rq Y (MakeD.opD (u_alloc 6 Y in_25 one_25 zc_25) Y Y Y Y) (rq Y (u_sw Y Y Y Y Y in_25 (GCell.len (vrd d0 t15_1.toNat)) (GCell.len GCell.zero) Y) (rz [(1,_),(4,_),(6,.q 6 (0)),(7,_),(8,_),(13,_),(14,_),(15,_)] [(1,.pure (d0.toList.flatMap GCell.cs)),(4,.pure (GCell.cs (vrd d0 t8_0.toNat))),(6,.pure (GCell.cs (vrd d0 t15_1.toNat)))] Y (AW2_seq (bindK H fun g'1 h10 H=>AW2_mid (⟨[(1,.q 1 (0)),(4,.q 4 (0)),(7,.g (d0.toList.flatMap GCell.cs)),(8,.i t8_0),(13,.c (.sl 1 (0+0 * 2) t8_0.toNat 2)),(14,.i (t8_0.toNat:Int)),(15,.i t15_1),(35,.b g'1)],[(1,.pure (d0.toList.flatMap GCell.cs)),(4,.pure (GCell.cs (vrd d0 t8_0.toNat)))],38⟩:TS) ?_ ?_)))))
     ·clear H
      have H:=h10
      clear h10
      refine em2 H (fun h6 H=>?_) (fun h6 H=>?_)
      ·refine em2 H (fun h7 H=>?_) (fun h7 H=>?_)
       ·refine chkK H fun h8 H=>chkK H fun h9 H=>?_
        have z:=se H; subst z
        refine AW2_ghoQ (AW2_draw 15 [15,16] (fun k=>([.q 4 (0+0),.b ((vrd d0 t8_0.toNat).Full),.b ((vrd d0 t8_0.toNat).Full),.q 6 (0+0),.b ((vrd d0 t15_1.toNat).Full),.b ((vrd d0 t15_1.toNat).Full),.b ((vrd d0 t15_1.toNat).Full),.q 6 (0+1),.p (GValue.ls ((vrd d0 t15_1.toNat).Row)),.p (.rptr (((vrd d0 t15_1.toNat).Row).flatMap GValue.cs) (0 * 4)),.g (GValue.cs (lrd ((vrd d0 t15_1.toNat).Row) 0)),.q 4 (0+1),.p (GValue.ls ((vrd d0 t8_0.toNat).Row)),.p (.rptr (((vrd d0 t8_0.toNat).Row).flatMap GValue.cs) (0 * 4)),.g (GValue.cs (lrd ((vrd d0 t8_0.toNat).Row) 0))]:List TV).getD k TV.any) (fun k=>g_table_keys_r7.getD k []) [(1,none),(4,none),(7,none),(8,none),(13,none),(14,none),(15,none),(25,some 6),(29,some 10),(33,some 14)] [] (fun k=>g_table_keys_r7c.getD k []) mixed (by kernel_rfl) Y Y (a_op (g_x Y (x_p Y (u_fa Y Y U25 Y in_4 nz Y Y (nl (GCell.len (vrd d0 t8_0.toNat)))) Y)) (a_op (g_x Y (x_p Y (u_ld Y Y U4 Y Y (GCell.sub0 (vrd d0 t8_0.toNat))) Y)) (a_op (g_x Y (x_p Y (p_move Y Y) Y)) (a_op (g_on Y Y Y h6 Y (x_p Y (u_fa Y Y U25 Y in_4 nz Y Y (nl (GCell.len (vrd d0 t15_1.toNat)))) Y)) (a_op (g_on Y Y Y h6 Y (x_p Y (u_ld Y Y U4 Y Y (GCell.sub0 (vrd d0 t15_1.toNat))) Y)) (a_op (g_x Y (x_p Y (p_pkt Y Y h6 (.same _)) Y)) (a_op (g_x Y (x_p Y (p_move Y Y) Y)) (a_op (g_on Y Y Y h7 Y (x_p Y (u_fa Y Y U25 Y in_23 nz Y Y (nl (GCell.len (vrd d0 t15_1.toNat)))) Y)) (a_op (g_on Y Y Y h7 Y (x_p Y (u_ld Y Y U23 Y Y (GCell.sub1 (vrd d0 t15_1.toNat))) Y)) (a_op (g_on Y Y Y h7 Y (x_p Y (u_ixl Y Y U23 in_32 Y Y Y h8 (fne (fun x=>(GValue.len x)) (by decide) h8)) Y)) (a_op (g_on Y Y Y h7 Y (x_p Y (u_lda Y Y U32 Y in_32 Y np (Sub.fm default (fun x=>(GValue.len x)) h8) (GValue.len (lrd ((vrd d0 t15_1.toNat).Row) 0))) Y)) (a_op (g_on Y Y Y h7 Y (x_p Y (u_fa Y Y U25 Y in_23 nz Y Y (nl (GCell.len (vrd d0 t8_0.toNat)))) Y)) (a_op (g_on Y Y Y h7 Y (x_p Y (u_ld Y Y U23 Y Y (GCell.sub1 (vrd d0 t8_0.toNat))) Y)) (a_op (g_on Y Y Y h7 Y (x_p Y (u_ixl Y Y U23 in_32 Y Y Y h9 (fne (fun x=>(GValue.len x)) (by decide) h9)) Y)) (a_op (g_on Y Y Y h7 Y (x_p Y (u_lda Y Y U32 Y in_32 Y np (Sub.fm default (fun x=>(GValue.len x)) h9) (GValue.len (lrd ((vrd d0 t8_0.toNat).Row) 0))) Y)) (a_nil)))))))))))))))) (t_on Y Y Y Y h7 Y (PureD.opD (p_eqa (a:=(lrd ((vrd d0 t15_1.toNat).Row) 0)) (b:=(lrd ((vrd d0 t8_0.toNat).Row) 0)) Y eq_32 Y (by kernel_rfl) Y Y)) (t_op Y Y (PureD.opD (p_pkt Y Y h7 (.same _))) (t_gho (Gho_st (L:=[(1,.q 1 (0)),(4,.q 4 (0)),(7,.g (d0.toList.flatMap GCell.cs)),(8,.i t8_0),(13,.c (.sl 1 (0+0 * 2) t8_0.toNat 2)),(14,.i (t8_0.toNat:Int)),(15,.i t15_1),(35,.b (decide ((lrd ((vrd d0 t15_1.toNat).Row) 0)=(lrd ((vrd d0 t8_0.toNat).Row) 0))))]) (H:=[(1,.pure (d0.toList.flatMap GCell.cs)),(4,.pure (GCell.cs (vrd d0 t8_0.toNat)))]) (N:=38) Y ⟨TLes.same _,TLes.same _,TLes.same _,TLes.same _,TLes.same _,TLes.same _,TLes.same _,TLes.same _,trivial⟩ ⟨Y,Y,trivial⟩) ?_))))
        exact rfl
       have z:=se H; subst z
       refine AW2_ghoQ (AW2_draw 15 [15,16] (fun k=>([.q 4 (0+0),.b ((vrd d0 t8_0.toNat).Full),.b ((vrd d0 t8_0.toNat).Full),.q 6 (0+0),.b ((vrd d0 t15_1.toNat).Full),.b ((vrd d0 t15_1.toNat).Full),.b ((vrd d0 t15_1.toNat).Full),.p (.tup []),.p (.tup []),.p (.tup []),.p (.tup []),.p (.tup []),.p (.tup []),.p (.tup []),.p (.tup [])]:List TV).getD k TV.any) (fun k=>g_table_keys_r7.getD k []) [(1,none),(4,none),(7,none),(8,none),(13,none),(14,none),(15,none),(25,some 6),(29,some 10),(33,some 14)] [] (fun k=>g_table_keys_r7c.getD k []) mixed (by kernel_rfl) Y Y (a_op (g_x Y (x_p Y (u_fa Y Y U25 Y in_4 nz Y Y (nl (GCell.len (vrd d0 t8_0.toNat)))) Y)) (a_op (g_x Y (x_p Y (u_ld Y Y U4 Y Y (GCell.sub0 (vrd d0 t8_0.toNat))) Y)) (a_op (g_x Y (x_p Y (p_move Y Y) Y)) (a_op (g_on Y Y Y h6 Y (x_p Y (u_fa Y Y U25 Y in_4 nz Y Y (nl (GCell.len (vrd d0 t15_1.toNat)))) Y)) (a_op (g_on Y Y Y h6 Y (x_p Y (u_ld Y Y U4 Y Y (GCell.sub0 (vrd d0 t15_1.toNat))) Y)) (a_op (g_x Y (x_p Y (p_pkt Y Y h6 (.same _)) Y)) (a_op (g_x Y (x_p Y (p_move Y Y) Y)) (a_op (g_off Y Y Y Y Y (bfalse h7) Y Y) (a_op (g_off Y Y Y Y Y (bfalse h7) Y Y) (a_op (g_off Y Y Y Y Y (bfalse h7) Y Y) (a_op (g_off Y Y Y Y Y (bfalse h7) Y Y) (a_op (g_off Y Y Y Y Y (bfalse h7) Y Y) (a_op (g_off Y Y Y Y Y (bfalse h7) Y Y) (a_op (g_off Y Y Y Y Y (bfalse h7) Y Y) (a_op (g_off Y Y Y Y Y (bfalse h7) Y Y) (a_nil)))))))))))))))) (t_off Y Y Y Y (bfalse h7) Y Y (t_op Y Y (PureD.opD (p_pkf Y Y (bfalse h7) (.same _))) (t_gho (Gho_st (L:=[(1,.q 1 (0)),(4,.q 4 (0)),(7,.g (d0.toList.flatMap GCell.cs)),(8,.i t8_0),(13,.c (.sl 1 (0+0 * 2) t8_0.toNat 2)),(14,.i (t8_0.toNat:Int)),(15,.i t15_1),(35,.b false)]) (H:=[(1,.pure (d0.toList.flatMap GCell.cs)),(4,.pure (GCell.cs (vrd d0 t8_0.toNat)))]) (N:=38) Y ⟨TLes.same _,TLes.same _,TLes.same _,TLes.same _,TLes.same _,TLes.same _,TLes.same _,TLes.same _,trivial⟩ ⟨Y,Y,trivial⟩) ?_))))
       exact rfl
      have z:=se H; subst z
      refine AW2_ghoQ (AW2_draw 15 [15,16] (fun k=>([.q 4 (0+0),.b ((vrd d0 t8_0.toNat).Full),.b ((vrd d0 t8_0.toNat).Full),.p (.tup []),.p (.tup []),.b false,.b false,.p (.tup []),.p (.tup []),.p (.tup []),.p (.tup []),.p (.tup []),.p (.tup []),.p (.tup []),.p (.tup [])]:List TV).getD k TV.any) (fun k=>g_table_keys_r7.getD k []) [(1,none),(4,none),(7,none),(8,none),(13,none),(14,none),(15,none),(25,some 6),(29,some 10),(33,some 14)] [] (fun k=>g_table_keys_r7c.getD k []) mixed (by kernel_rfl) Y Y (a_op (g_x Y (x_p Y (u_fa Y Y U25 Y in_4 nz Y Y (nl (GCell.len (vrd d0 t8_0.toNat)))) Y)) (a_op (g_x Y (x_p Y (u_ld Y Y U4 Y Y (GCell.sub0 (vrd d0 t8_0.toNat))) Y)) (a_op (g_x Y (x_p Y (p_move Y Y) Y)) (a_op (g_off Y Y Y Y Y (bfalse h6) Y Y) (a_op (g_off Y Y Y Y Y (bfalse h6) Y Y) (a_op (g_x Y (x_p Y (p_pkf Y Y (bfalse h6) (.same _)) Y)) (a_op (g_x Y (x_p Y (p_move Y Y) Y)) (a_op (g_off Y Y Y Y Y (bfalse (by decide)) Y Y) (a_op (g_off Y Y Y Y Y (bfalse (by decide)) Y Y) (a_op (g_off Y Y Y Y Y (bfalse (by decide)) Y Y) (a_op (g_off Y Y Y Y Y (bfalse (by decide)) Y Y) (a_op (g_off Y Y Y Y Y (bfalse (by decide)) Y Y) (a_op (g_off Y Y Y Y Y (bfalse (by decide)) Y Y) (a_op (g_off Y Y Y Y Y (bfalse (by decide)) Y Y) (a_op (g_off Y Y Y Y Y (bfalse (by decide)) Y Y) (a_nil)))))))))))))))) (t_off Y Y Y Y (bfalse (by decide)) Y Y (t_op Y Y (PureD.opD (p_pkf Y Y (bfalse (by decide)) (.same _))) (t_gho (Gho_st (L:=[(1,.q 1 (0)),(4,.q 4 (0)),(7,.g (d0.toList.flatMap GCell.cs)),(8,.i t8_0),(13,.c (.sl 1 (0+0 * 2) t8_0.toNat 2)),(14,.i (t8_0.toNat:Int)),(15,.i t15_1),(35,.b false)]) (H:=[(1,.pure (d0.toList.flatMap GCell.cs)),(4,.pure (GCell.cs (vrd d0 t8_0.toNat)))]) (N:=38) Y ⟨TLes.same _,TLes.same _,TLes.same _,TLes.same _,TLes.same _,TLes.same _,TLes.same _,TLes.same _,trivial⟩ ⟨Y,Y,trivial⟩) ?_))))
      exact rfl
     refine AW2_cond Y (fun h11=>?_) (fun h11=>?_)
     ·replace H:=ite_then h11 H
      refine sg [0] Y (ra Y (rz [(2,.i (8:Int))] [] Y (AW2_ret ?_)))
      have z:=se H; subst z
      exact ⟨Y,⟨rt,trivial⟩,trivial⟩
     replace H:=ite_else (ne_true h11) H
     refine as2 [(1,.q 1 (0)),(4,.q 4 (0)),(7,.g (d0.toList.flatMap GCell.cs)),(8,.i t8_0),(13,.c (.sl 1 (0+0 * 2) t8_0.toNat 2)),(14,.i (t8_0.toNat:Int)),(15,.i t15_1)] [(1,.pure (d0.toList.flatMap GCell.cs)),(4,.pure (GCell.cs (vrd d0 t8_0.toNat)))] Y (AW2_skip (AW2_reg [0,1] Y (rp Y (p_bin Y Y Y Y) (rm Y (rz [(1,_),(4,_),(7,_),(8,_),(13,_),(14,_),(15,.i (w64 (t15_1+(1:Int))))] [(1,_),(4,_)] Y ?_)))))
     have z:=se H; subst z
     exact ⟨Y,Y⟩
    refine as2 [(1,_),(7,_),(8,_)] [(1,_)] Y (AW2_exit (thenQ2_exit ?_))
    have z:=se H; subst z
    exact ⟨Y,Y⟩
   rcases o'5 with y'6 | y'7
   ·obtain ⟨rfl,hs⟩:=hs
    refine ⟨by simp,?_⟩
    have z:=se H; subst z
    exact ⟨Y,hs.1,hs.2⟩
   obtain ⟨rfl,rfl⟩:=hs
   refine ⟨by simp,?_⟩
   refine blockQ2_exit (AW2_reg [0,1] Y (rp Y (p_bin Y Y Y Y) (rm Y (rz [(1,.q 1 (0)),(7,.g (d0.toList.flatMap GCell.cs)),(8,.i (w64 (t8_0+(1:Int))))] [(1,.pure (d0.toList.flatMap GCell.cs))] Y ?_))))
   have z:=se H; subst z
   exact ⟨Y,Y⟩
  refine as2 [] [] Y (AW2_exit (thenQ2_exit ?_))
  have z:=se H; subst z
  exact ⟨Y,Y⟩
 rcases o'11 with y'12 | y'13
 ·obtain ⟨rfl,hs⟩:=hs
  refine ⟨by simp,?_⟩
  have z:=se H; subst z
  exact ⟨hs.1,hs.2⟩
 obtain ⟨rfl,rfl⟩:=hs
 refine ⟨by simp,?_⟩
 refine blockQ2_exit (sg [0] Y (ra Y (rz [(2,.i (0:Int))] [] Y (AW2_ret ?_))))
 have z:=se H; subst z
 exact ⟨⟨rt,trivial⟩,trivial⟩
noncomputable def g_table_Check_l1 (t0:GTable) (t45_0:Int):Int→Option (Int⊕(Int⊕Unit))
  | t49_1=>(if t49_1 < (4:Int) then (show Option (Int⊕Unit) from if 0≤t49_1∧t49_1 < (4:Int) then (if ((!((vrd (vrd t0.Drawers t45_0.toNat) t49_1.toNat).Full))=true)∧((((vrd (vrd t0.Drawers t45_0.toNat) t49_1.toNat).Row).length:Int) > (0:Int)) then some (.inl (3:Int)) else (if (!((vrd (vrd t0.Drawers t45_0.toNat) t49_1.toNat).Full))=true then some (.inr ()) else (g_kinds_Row ((vrd (vrd t0.Drawers t45_0.toNat) t49_1.toNat).Row) t0.Cols).bind fun r'5=>(if r'5≠(0:Int) then some (.inl r'5) else some (.inr ())))) else none).bind fun o'7=>match o'7 with | .inl y'6=>some (.inr (.inl y'6)) | .inr j'4=>some (.inl (w64 (t49_1+(1:Int)))) else some (.inr (.inr ())))
noncomputable def g_table_Check_l0 (t0:GTable):Int→Option (Int⊕(Int⊕Unit))
  | t45_0=>(if t45_0 < (2:Int) then if 0≤t45_0∧t45_0 < (2:Int) then (loopO (g_table_Check_l1 t0 t45_0) (0:Int)).bind fun o'11=>match o'11 with | .inl y'12=>some (.inr (.inl y'12)) | .inr (y'13)=>(g_table_keys (vrd t0.Drawers t45_0.toNat)).bind fun r'14=>(if r'14≠(0:Int) then some (.inr (.inl r'14)) else some (.inl (w64 (t45_0+(1:Int))))) else none else some (.inr (.inr ())))
noncomputable def g_table_Check (t0:GTable):Option (Int) :=
  (if (!t0.There)=true then some (5:Int) else (g_lex_Check ({ { GToken.zero with Kind:=(1:Int) } with Text:=t0.Name })).bind fun r'1=>(if r'1≠(0:Int) then some (3:Int) else (g_kinds_Columns t0.Cols).bind fun r'2=>(if r'2≠(0:Int) then some r'2 else ((if (t0.Cols.length:Int)=(0:Int) then some true else if 0 < t0.Cols.length then (if (lrd t0.Cols 0).Kind≠(2:Int) then some true else if 0 < t0.Cols.length then some ((lrd t0.Cols 0).Null) else none) else none)).bind fun g'3=>(if g'3=true then some (3:Int) else (loopO (g_table_Check_l0 t0) (0:Int)).bind fun o'18=>match o'18 with | .inl y'19=>some y'19 | .inr (y'20)=>some (0:Int)))))
set_option maxHeartbeats 4000000 in
set_option maxRecDepth 100000 in
theorem g_table_Check_ac {t0:GTable} {r:Int} (H:g_table_Check t0=some r):ACp Tryz.prog 25 [(.agg (GTable.cs t0))] (AV.int r):=by
 refine ACp_of (AC2_of_body (vs:=[.i r]) Tryz.func25 Y Y (lb Y) Y ?_) (fun _=>.same _)
 unfold g_table_Check at H
 refine as2 [(0,.g (GTable.cs t0))] [] Y (sg [0,1] Y (rq Y (MakeD.opD (n_box 1 Y Y) Y Y Y Y) (ra Y (rz [(1,.q 1 (0))] [(1,.pure (GTable.cs t0))] Y (AW2_seq (sg [0,1,2] Y ?_))))))
 refine rf Y U29 Y in_4 Y Y (GTable.len t0) (rp Y (u_ld Y Y U4 Y Y (GTable.sub0 t0)) (rp Y (p_not Y Y) (rz [(1,_),(12,.b (!t0.There))] [(1,_)] Y (AW2_cond Y (fun h1=>?_) (fun h1=>?_)))))
 ·replace H:=ite_then h1 H
  refine sg [0] Y (ra Y (rz [(2,.i (5:Int))] [] Y (AW2_ret ?_)))
  have z:=se H; subst z
  exact ⟨⟨rt,trivial⟩,trivial⟩
 replace H:=ite_else (ne_true h1) H
 refine as2 [(1,.q 1 (0))] [(1,.pure (GTable.cs t0))] Y (AW2_skip (AW2_seq (sg [0,1,2,3,4] Y (rf Y U29 Y in_9 Y Y (GTable.len t0) (rp Y (u_ld Y Y U9 Y Y (GTable.sub1 t0)) (rp Y (u_bld Y in_79 one_79 zc_79 pl_79 Y (af_cons Y Y (GToken.upd0 GToken.zero (1:Int)) (af_cons Y Y (GToken.upd1 ((GToken.w0 GToken.zero (1:Int))) t0.Name) Y))) ?_))))))
 refine bindK H fun r'1 h2 H=>rp Y (p_callp Y Y Y Tryz.func41 Y Y (g_lex_Check_ac h2) ⟨Y,trivial⟩) (rp Y (p_ine Y Y Y) (rz [(1,_),(17,.b (decide (r'1≠(0:Int))))] [(1,_)] Y (if2 H Y (fun h3 H=>?_) (fun h3 H=>?_))))
 ·refine sg [0] Y (ra Y (rz [(2,.i (3:Int))] [] Y (AW2_ret ?_)))
  have z:=se H; subst z
  exact ⟨⟨rt,trivial⟩,trivial⟩
 refine as2 [(1,_)] [(1,_)] Y (AW2_skip (AW2_seq (sg [0,1,2,3] Y (rf Y U29 Y in_22 Y Y (GTable.len t0) (rp Y (u_ld Y Y U22 Y Y (GTable.sub2 t0)) (bindK H fun r'2 h4 H=>?_))))))
 refine rp Y (p_callp Y Y Y Tryz.func28 Y Y (g_kinds_Columns_ac h4) ⟨Y,trivial⟩) (ra Y (rz [(1,_),(3,.i r'2)] [(1,_)] Y (sg [0,1] Y (rm Y (rp Y (p_ine Y Y Y) (rz [(1,_),(3,_),(22,.b (decide (r'2≠(0:Int))))] [(1,_)] Y ?_))))))
 refine if2 H Y (fun h5 H=>?_) (fun h5 H=>?_)
 ·refine sg [0,1] Y (rm Y (ra Y (rz [(2,.i r'2)] [] Y (AW2_ret ?_))))
  have z:=se H; subst z
  exact ⟨⟨rt,trivial⟩,trivial⟩
 refine as2 [(1,_)] [(1,_)] Y (AW2_skip (AW2_seq (AW2_seq (bindK H fun g'3 h11 H=>AW2_mid (⟨[(1,.q 1 (0)),(42,.b g'3)],[(1,.pure (GTable.cs t0))],79⟩:TS) ?_ ?_))))
 ·clear H
  have H:=h11
  clear h11
  refine AW2_reg [0,1,2,3,4,5,6,7,8,9,10,11,12,13,14,15,16,17,18] Y (rf Y U29 Y in_22 Y Y (GTable.len t0) (rp Y (u_ld Y Y U22 Y Y (GTable.sub2 t0)) (rp Y (p_lenl Y U22 Y Y) (rp Y (p_ieq Y Y Y) (rm Y (em2 H (fun h7 H=>?_) (fun h7 H=>?_)))))))
  ·iterate 6 (refine rO Y (dT h7) Y ?_)
   refine rp Y (p_pkt Y Y (dT h7) (.same _)) (rm Y ?_)
   iterate 5 (refine rO Y rfl Y ?_)
   refine rp Y (p_pkt Y Y Y (.same _)) (rs [(1,.q 1 (0)),(42,.b true)] [(1,.pure (GTable.cs t0))] Y ?_)
   have z:=se H; subst z
   exact RunW_nil rfl
  refine rn Y (dF h7) Y (u_fa Y Y U29 Y in_22 nz Y Y (nl (GTable.len t0))) (rn Y (dF h7) Y (u_ld Y Y U22 Y Y (GTable.sub2 t0)) (chkK H fun h8 H=>rn Y (dF h7) Y (u_ixl Y Y U22 in_63 Y Y Y h8 (fne (fun x=>(GColumn.len x)) (by decide) h8)) (rn Y (dF h7) Y (u_far Y Y U63 Y in_3 nz Y) (rn Y (dF h7) Y (u_ld Y Y U3 Y Y ((Sub.fm default (fun x=>(GColumn.len x)) h8).trans (GColumn.sub1 (lrd t0.Cols 0)))) (rn Y (dF h7) Y (p_ine Y Y Y) ?_)))))
  refine rp Y (p_pkf Y Y (dF h7) (.same _)) (rm Y (em2 H (fun h9 H=>?_) (fun h9 H=>?_)))
  ·iterate 5 (refine rO Y (dT h9) Y ?_)
   refine rp Y (p_pkt Y Y (dT h9) (.same _)) (rs [(1,.q 1 (0)),(42,.b true)] [(1,.pure (GTable.cs t0))] Y ?_)
   have z:=se H; subst z
   exact RunW_nil rfl
  refine rn Y (dF h9) Y (u_fa Y Y U29 Y in_22 nz Y Y (nl (GTable.len t0))) (rn Y (dF h9) Y (u_ld Y Y U22 Y Y (GTable.sub2 t0)) (chkK H fun h10 H=>rn Y (dF h9) Y (u_ixl Y Y U22 in_63 Y Y Y h10 (fne (fun x=>(GColumn.len x)) (by decide) h10)) (rn Y (dF h9) Y (u_far Y Y U63 Y in_4 nz Y) (rn Y (dF h9) Y (u_ld Y Y U4 Y Y ((Sub.fm default (fun x=>(GColumn.len x)) h10).trans (GColumn.sub2 (lrd t0.Cols 0)))) (rp Y (p_pkf Y Y (dF h9) (.same _)) ?_)))))
  refine rs [(1,.q 1 (0)),(42,.b ((lrd t0.Cols 0).Null))] [(1,.pure (GTable.cs t0))] Y ?_
  have z:=se H; subst z
  exact RunW_nil rfl
 refine AW2_cond Y (fun h12=>?_) (fun h12=>?_)
 ·replace H:=ite_then h12 H
  refine sg [0] Y (ra Y (rz [(2,.i (3:Int))] [] Y (AW2_ret ?_)))
  have z:=se H; subst z
  exact ⟨⟨rt,trivial⟩,trivial⟩
 replace H:=ite_else (ne_true h12) H
 refine as2 [(1,.q 1 (0))] [(1,.pure (GTable.cs t0))] Y (AW2_skip (AW2_seq (sg [0,1,2] Y (rf Y U29 Y in_27 Y Y (GTable.len t0) (rp Y (u_lda Y Y U27 Y in_27 Y np (GTable.sub3 t0) (vfm_len (fun x=>(vfm_len (fun x=>(GCell.len x)) x)) t0.Drawers)) (rm Y ?_))))))
 refine rz [(1,_),(44,.g (t0.Drawers.toList.flatMap (fun v:Vector GCell 4=>v.toList.flatMap GCell.cs))),(45,.i (0:Int))] [(1,_)] Y (AW2_block (as2 [(1,_),(44,_),(45,_)] [(1,_)] Y (bindK H fun o'18 h26 H=>AW2_loopO (fun a'15:Int=>(⟨[(1,.q 1 (0)),(44,.g (t0.Drawers.toList.flatMap (fun v:Vector GCell 4=>v.toList.flatMap GCell.cs))),(45,.i a'15)],[(1,.pure (GTable.cs t0))],79⟩:TS)) (fun (o:Int⊕Unit) e s'=>match o with | .inl y'16=>e=Go.Exit.ret∧ResAll Tryz.prog s' [ResultVar.tmp 2] [.i y'16]∧HFits s' [] | .inr (y'17)=>e=Go.Exit.exit 0∧s'=(⟨[],[],79⟩:TS)) h26 Y (fun t45_0 x hx=>?_) (fun e s' hs=>?_))))
 ·clear H
  have H:=hx
  clear hx
  unfold g_table_Check_l0 at H
  refine sg [0] Y (rp Y (p_bin Y Y Y Y) (rz [(1,.q 1 (0)),(44,.g (t0.Drawers.toList.flatMap (fun v:Vector GCell 4=>v.toList.flatMap GCell.cs))),(45,.i t45_0),(46,.b (decide (t45_0 < (2:Int))))] [(1,.pure (GTable.cs t0))] Y (AW2_seq (if2 H Y (fun h13 H=>?_) (fun h13 H=>?_)))))
  ·refine as2 [(1,_),(44,_),(45,_)] [(1,_)] Y (AW2_skip (AW2_seq (AW2_block (sg [0,1,2] Y (chkK H fun h14 H=>rp Y (u_ixaa Y Y U27 in_26 U26 Y Y Y (ixe h14) (ixn h14) (Sub.vfm (fun x=>(vfm_len (fun x=>(GCell.len x)) x)) (ixn h14)) (vfm_len (fun x=>(GCell.len x)) (vrd t0.Drawers t45_0.toNat))) ?_)))))
   refine rq Y (MakeD.opD (u_alloc 5 Y in_26 one_26 zc_26) Y Y Y Y) (rq Y (u_sw Y Y Y Y Y in_26 (vfm_len (fun x=>(GCell.len x)) (vrd t0.Drawers t45_0.toNat)) (vfm_len (fun x=>(GCell.len x)) (Vector.replicate 4 GCell.zero)) Y) (rz [(1,_),(5,.q 5 (0)),(44,_),(45,_)] [(1,.pure (GTable.cs t0)),(5,.pure (((vrd t0.Drawers t45_0.toNat).toList).flatMap GCell.cs))] Y (AW2_seq (sg [0,1] Y (rp Y (u_lda Y Y U26 Y in_26 Y np (Sub.refl _) (vfm_len (fun x=>(GCell.len x)) (vrd t0.Drawers t45_0.toNat))) (rm Y ?_))))))
   refine rz [(1,_),(5,_),(44,_),(45,_),(48,.g (((vrd t0.Drawers t45_0.toNat).toList).flatMap GCell.cs)),(49,.i (0:Int))] [(1,_),(5,_)] Y (AW2_block (as2 [(1,_),(5,_),(44,_),(45,_),(48,_),(49,_)] [(1,_),(5,_)] Y (bindK H fun o'11 h23 H=>AW2_loopO (fun a'8:Int=>(⟨[(1,.q 1 (0)),(5,.q 5 (0)),(44,.g (t0.Drawers.toList.flatMap (fun v:Vector GCell 4=>v.toList.flatMap GCell.cs))),(45,.i t45_0),(48,.g (((vrd t0.Drawers t45_0.toNat).toList).flatMap GCell.cs)),(49,.i a'8)],[(1,.pure (GTable.cs t0)),(5,.pure (((vrd t0.Drawers t45_0.toNat).toList).flatMap GCell.cs))],79⟩:TS)) (fun (o:Int⊕Unit) e s'=>match o with | .inl y'9=>e=Go.Exit.ret∧ResAll Tryz.prog s' [ResultVar.tmp 2] [.i y'9]∧HFits s' [] | .inr (y'10)=>e=Go.Exit.exit 2∧s'=(⟨[(1,.q 1 (0)),(5,.q 5 (0)),(44,.g (t0.Drawers.toList.flatMap (fun v:Vector GCell 4=>v.toList.flatMap GCell.cs))),(45,.i t45_0)],[(1,.pure (GTable.cs t0)),(5,.pure (((vrd t0.Drawers t45_0.toNat).toList).flatMap GCell.cs))],79⟩:TS)) h23 Y (fun t49_1 x hx=>?_) (fun e s' hs=>?_))))
   ·clear H
    have H:=hx
    clear hx
    unfold g_table_Check_l1 at H
    refine sg [0] Y (rp Y (p_bin Y Y Y Y) (rz [(1,.q 1 (0)),(5,.q 5 (0)),(44,.g (t0.Drawers.toList.flatMap (fun v:Vector GCell 4=>v.toList.flatMap GCell.cs))),(45,.i t45_0),(48,.g (((vrd t0.Drawers t45_0.toNat).toList).flatMap GCell.cs)),(49,.i t49_1),(50,.b (decide (t49_1 < (4:Int))))] [(1,.pure (GTable.cs t0)),(5,.pure (((vrd t0.Drawers t45_0.toNat).toList).flatMap GCell.cs))] Y (AW2_seq (if2 H Y (fun h15 H=>?_) (fun h15 H=>?_)))))
    ·refine as2 [(1,_),(5,_),(44,_),(45,_),(48,_),(49,_)] [(1,_),(5,_)] Y (AW2_skip (AW2_seq (bindK H fun o'7 h16 H=>AW2_join (fun j'4:Unit=>(⟨[(1,.q 1 (0)),(5,.q 5 (0)),(44,.g (t0.Drawers.toList.flatMap (fun v:Vector GCell 4=>v.toList.flatMap GCell.cs))),(45,.i t45_0),(48,.g (((vrd t0.Drawers t45_0.toNat).toList).flatMap GCell.cs)),(49,.i t49_1)],[(1,.pure (GTable.cs t0)),(5,.pure (((vrd t0.Drawers t45_0.toNat).toList).flatMap GCell.cs))],79⟩:TS)) (fun r e s'=>e=Go.Exit.ret∧ResAll Tryz.prog s' [ResultVar.tmp 2] [.i r]∧HFits s' []) (x:=o'7) ?_ (fun j'4 hy=>?_) (fun y'6 e s' hy hs=>?_))))
     ·clear H
      have H:=h16
      clear h16
      refine AW2_block (sg [0,1,2] Y (chkK H fun h17 H=>rp Y (u_ixaa Y Y U26 in_25 U25 Y Y Y (ixe h17) (ixn h17) (Sub.vfm (fun x=>(GCell.len x)) (ixn h17)) (GCell.len (vrd (vrd t0.Drawers t45_0.toNat) t49_1.toNat))) (rq Y (MakeD.opD (u_alloc 7 Y in_25 one_25 zc_25) Y Y Y Y) (rq Y (u_sw Y Y Y Y Y in_25 (GCell.len (vrd (vrd t0.Drawers t45_0.toNat) t49_1.toNat)) (GCell.len GCell.zero) Y) (rz [(1,.q 1 (0)),(5,.q 5 (0)),(7,.q 7 (0)),(44,.g (t0.Drawers.toList.flatMap (fun v:Vector GCell 4=>v.toList.flatMap GCell.cs))),(45,.i t45_0),(48,.g (((vrd t0.Drawers t45_0.toNat).toList).flatMap GCell.cs)),(49,.i t49_1)] [(1,.pure (GTable.cs t0)),(5,.pure (((vrd t0.Drawers t45_0.toNat).toList).flatMap GCell.cs)),(7,.pure (GCell.cs (vrd (vrd t0.Drawers t45_0.toNat) t49_1.toNat)))] Y ?_)))))
      refine AW2_seq (AW2_seq (AW2_mid (⟨[(1,.q 1 (0)),(5,.q 5 (0)),(7,.q 7 (0)),(44,.g (t0.Drawers.toList.flatMap (fun v:Vector GCell 4=>v.toList.flatMap GCell.cs))),(45,.i t45_0),(48,.g (((vrd t0.Drawers t45_0.toNat).toList).flatMap GCell.cs)),(49,.i t49_1),(60,.b (decide (((!((vrd (vrd t0.Drawers t45_0.toNat) t49_1.toNat).Full))=true)∧((((vrd (vrd t0.Drawers t45_0.toNat) t49_1.toNat).Row).length:Int) > (0:Int)))))],[(1,.pure (GTable.cs t0)),(5,.pure (((vrd t0.Drawers t45_0.toNat).toList).flatMap GCell.cs)),(7,.pure (GCell.cs (vrd (vrd t0.Drawers t45_0.toNat) t49_1.toNat)))],79⟩:TS) ?_ ?_))
      ·refine AW2_reg [0,1,2,3,4,5,6,7,8] Y (rf Y U25 Y in_4 Y Y (GCell.len (vrd (vrd t0.Drawers t45_0.toNat) t49_1.toNat)) (rp Y (u_ld Y Y U4 Y Y (GCell.sub0 (vrd (vrd t0.Drawers t45_0.toNat) t49_1.toNat))) (rp Y (p_not Y Y) (rm Y ?_))))
       refine (Classical.em ((!((vrd (vrd t0.Drawers t45_0.toNat) t49_1.toNat).Full))=true)).elim (fun h18=>?_) (fun h18=>?_)
       ·exact rn Y h18 Y (u_fa Y Y U25 Y in_23 nz Y Y (nl (GCell.len (vrd (vrd t0.Drawers t45_0.toNat) t49_1.toNat)))) (rn Y h18 Y (u_ld Y Y U23 Y Y (GCell.sub1 (vrd (vrd t0.Drawers t45_0.toNat) t49_1.toNat))) (rn Y h18 Y (p_lenl Y U23 Y Y) (rn Y h18 Y (p_bin Y Y Y Y) (rp Y (p_pkt Y Y h18 (tb ((and_l (p:=(!((vrd (vrd t0.Drawers t45_0.toNat) t49_1.toNat).Full))=true) (q:=(((vrd (vrd t0.Drawers t45_0.toNat) t49_1.toNat).Row).length:Int) > (0:Int)) h18)))) (rend Y Y)))))
       iterate 4 (refine rO Y (bfalse h18) Y ?_)
       exact rp Y (p_pkf Y Y (bfalse h18) (tb (dF (p:=((!((vrd (vrd t0.Drawers t45_0.toNat) t49_1.toNat).Full))=true)∧((((vrd (vrd t0.Drawers t45_0.toNat) t49_1.toNat).Row).length:Int) > (0:Int))) (fun x=>h18 x.1)).symm)) (rend Y Y)
      refine if2 H Y (fun h19 H=>?_) (fun h19 H=>?_)
      ·refine sg [0] Y (ra Y (rz [(2,.i (3:Int))] [] Y (AW2_ret ?_)))
       have z:=se H; subst z
       exact ⟨Y,⟨rt,trivial⟩,trivial⟩
      refine as2 [(1,_),(5,_),(7,_),(44,_),(45,_),(48,_),(49,_)] [(1,_),(5,_),(7,_)] Y (AW2_skip (AW2_seq (sg [0,1,2] Y (rf Y U25 Y in_4 Y Y (GCell.len (vrd (vrd t0.Drawers t45_0.toNat) t49_1.toNat)) (rp Y (u_ld Y Y U4 Y Y (GCell.sub0 (vrd (vrd t0.Drawers t45_0.toNat) t49_1.toNat))) (rp Y (p_not Y Y) ?_))))))
      refine rz [(1,_),(5,_),(7,_),(44,_),(45,_),(48,_),(49,_),(63,.b (!((vrd (vrd t0.Drawers t45_0.toNat) t49_1.toNat).Full)))] [(1,_),(5,_),(7,_)] Y (AW2_cond Y (fun h20=>?_) (fun h20=>?_))
      ·replace H:=ite_then h20 H
       refine as2 [(1,.q 1 (0)),(5,.q 5 (0)),(44,.g (t0.Drawers.toList.flatMap (fun v:Vector GCell 4=>v.toList.flatMap GCell.cs))),(45,.i t45_0),(48,.g (((vrd t0.Drawers t45_0.toNat).toList).flatMap GCell.cs)),(49,.i t49_1)] [(1,.pure (GTable.cs t0)),(5,.pure (((vrd t0.Drawers t45_0.toNat).toList).flatMap GCell.cs))] Y (AW2_exit (thenQ2_exit (blockQ2_exit ?_)))
       have z:=se H; subst z
       exact ⟨Y,Y⟩
      replace H:=ite_else (ne_true h20) H
      refine as2 [(1,.q 1 (0)),(5,.q 5 (0)),(7,.q 7 (0)),(44,.g (t0.Drawers.toList.flatMap (fun v:Vector GCell 4=>v.toList.flatMap GCell.cs))),(45,.i t45_0),(48,.g (((vrd t0.Drawers t45_0.toNat).toList).flatMap GCell.cs)),(49,.i t49_1)] [(1,.pure (GTable.cs t0)),(5,.pure (((vrd t0.Drawers t45_0.toNat).toList).flatMap GCell.cs)),(7,.pure (GCell.cs (vrd (vrd t0.Drawers t45_0.toNat) t49_1.toNat)))] Y (AW2_skip (sg [0,1,2,3,4,5] Y (rf Y U25 Y in_23 Y Y (GCell.len (vrd (vrd t0.Drawers t45_0.toNat) t49_1.toNat)) (rp Y (u_ld Y Y U23 Y Y (GCell.sub1 (vrd (vrd t0.Drawers t45_0.toNat) t49_1.toNat))) (rf Y U29 Y in_22 Y Y (GTable.len t0) (rp Y (u_ld Y Y U22 Y Y (GTable.sub2 t0)) ?_))))))
      refine bindK H fun r'5 h21 H=>rp Y (p_callp Y Y Y Tryz.func30 Y Y (g_kinds_Row_ac h21) ⟨Y,Y,trivial⟩) (ra Y (rz [(1,_),(5,_),(8,.i r'5),(44,_),(45,_),(48,_),(49,_)] [(1,_),(5,_)] Y (sg [0,1] Y (rm Y (rp Y (p_ine Y Y Y) ?_)))))
      refine rz [(1,_),(5,_),(8,_),(44,_),(45,_),(48,_),(49,_),(70,.b (decide (r'5≠(0:Int))))] [(1,_),(5,_)] Y (if2 H Y (fun h22 H=>?_) (fun h22 H=>?_))
      ·refine sg [0,1] Y (rm Y (ra Y (rz [(2,.i r'5)] [] Y (AW2_ret ?_))))
       have z:=se H; subst z
       exact ⟨Y,⟨rt,trivial⟩,trivial⟩
      refine as2 [(1,_),(5,_),(44,_),(45,_),(48,_),(49,_)] [(1,_),(5,_)] Y (AW2_skip ?_)
      have z:=se H; subst z
      exact ⟨Y,Y⟩
     ·subst hy
      refine AW2_reg [0,1] Y (rp Y (p_bin Y Y Y Y) (rm Y (rz [(1,.q 1 (0)),(5,.q 5 (0)),(44,.g (t0.Drawers.toList.flatMap (fun v:Vector GCell 4=>v.toList.flatMap GCell.cs))),(45,.i t45_0),(48,.g (((vrd t0.Drawers t45_0.toNat).toList).flatMap GCell.cs)),(49,.i (w64 (t49_1+(1:Int))))] [(1,.pure (GTable.cs t0)),(5,.pure (((vrd t0.Drawers t45_0.toNat).toList).flatMap GCell.cs))] Y ?_)))
      have z:=se H; subst z
      exact ⟨Y,Y⟩
     subst hy
     obtain ⟨rfl,hs⟩:=hs
     have z:=se H; subst z
     exact ⟨Y,hs.1,hs.2⟩
    refine as2 [(1,_),(5,_),(44,_),(45,_)] [(1,_),(5,_)] Y (AW2_exit (thenQ2_exit ?_))
    have z:=se H; subst z
    exact ⟨Y,Y⟩
   rcases o'11 with y'12 | y'13
   ·obtain ⟨rfl,hs⟩:=hs
    refine ⟨by simp,?_⟩
    have z:=se H; subst z
    exact ⟨Y,hs.1,hs.2⟩
   obtain ⟨rfl,rfl⟩:=hs
   refine ⟨by simp,?_⟩
   refine blockQ2_exit (sg [0,1,2] Y (rp Y (u_lda Y Y U26 Y in_26 Y np (Sub.refl _) (vfm_len (fun x=>(GCell.len x)) (vrd t0.Drawers t45_0.toNat))) (bindK H fun r'14 h24 H=>rp Y (p_callp Y Y Y Tryz.func20 Y Y (g_table_keys_ac h24) ⟨Y,trivial⟩) (ra Y (rz [(1,.q 1 (0)),(9,.i r'14),(44,.g (t0.Drawers.toList.flatMap (fun v:Vector GCell 4=>v.toList.flatMap GCell.cs))),(45,.i t45_0)] [(1,.pure (GTable.cs t0))] Y ?_)))))
   refine sg [0,1] Y (rm Y (rp Y (p_ine Y Y Y) (rz [(1,_),(9,_),(44,_),(45,_),(76,.b (decide (r'14≠(0:Int))))] [(1,_)] Y (if2 H Y (fun h25 H=>?_) (fun h25 H=>?_)))))
   ·refine sg [0,1] Y (rm Y (ra Y (rz [(2,.i r'14)] [] Y (AW2_ret ?_))))
    have z:=se H; subst z
    exact ⟨Y,⟨rt,trivial⟩,trivial⟩
   refine as2 [(1,_),(44,_),(45,_)] [(1,_)] Y (AW2_skip (AW2_reg [0,1] Y (rp Y (p_bin Y Y Y Y) (rm Y (rz [(1,_),(44,_),(45,.i (w64 (t45_0+(1:Int))))] [(1,_)] Y ?_)))))
   have z:=se H; subst z
   exact ⟨Y,Y⟩
  refine as2 [] [] Y (AW2_exit (thenQ2_exit ?_))
  have z:=se H; subst z
  exact ⟨Y,Y⟩
 rcases o'18 with y'19 | y'20
 ·obtain ⟨rfl,hs⟩:=hs
  refine ⟨by simp,?_⟩
  have z:=se H; subst z
  exact ⟨hs.1,hs.2⟩
 obtain ⟨rfl,rfl⟩:=hs
 refine ⟨by simp,?_⟩
 refine blockQ2_exit (sg [0] Y (ra Y (rz [(2,.i (0:Int))] [] Y (AW2_ret ?_))))
 have z:=se H; subst z
 exact ⟨⟨rt,trivial⟩,trivial⟩
noncomputable def g_table_row (r0:List GValue):Option ((List GValue)) :=
  if room (([]:List GValue).length+r0.length) 40 then some (([]:List GValue)++r0) else none
set_option maxHeartbeats 4000000 in
set_option maxRecDepth 100000 in
theorem g_table_row_ac2 {r0:List GValue} {r:(List GValue)} (H:g_table_row r0=some r):AC2 Tryz.prog 39 (pureT [(GValue.ls r0)]) [] (.c (.own 2 r.length 4)) [(2,.pure (r.flatMap GValue.cs))]:=by
 refine AC2_of_body (vs:=[.c (.own 2 r.length 4)]) Tryz.func39 Y Y (lb Y) Y ?_
 unfold g_table_row at H
 refine as2 [(0,.p (GValue.ls r0))] [] Y (sg [0] Y (rp Y (p_asgn Y) (rz [(0,_)] [] Y (sg [0,1,2,3] Y (rq Y (MakeD.opD (n_bs0 3 Y U23 in_32) Y Y Y Y) (rm Y ?_))))))
 refine chkK H fun h1 H=>rq Y (u_app [3] Y Y Y Y U23 U23 in_32 Y Y Y (fm_length (fun x=>(GValue.len x)) ([]:List GValue)) (by decide) Y (fm_length (fun x=>(GValue.len x)) r0) h1 (by decide) Y Y (fapp GValue.cs ([]:List GValue) r0) (lapp ([]:List GValue) r0)) (ra Y (rs [(2,.c (.own 3 (([]:List GValue)++r0).length 4))] [(3,.pure ((([]:List GValue)++r0).flatMap GValue.cs))] Y (RunW_gho (Gho_ren 3 2 Y Y Y Y Y) (rz [(2,.c (.own 2 (([]:List GValue)++r0).length 4))] [(2,.pure ((([]:List GValue)++r0).flatMap GValue.cs))] Y (as2 [(2,_)] [(2,_)] Y ?_)))))
 refine AW2_ret ?_
 have z:=se H; subst z
 exact ⟨⟨rt,trivial⟩,⟨Y,trivial⟩⟩
theorem g_table_row_ac {r0:List GValue} {r:(List GValue)} (H:g_table_row r0=some r):ACp Tryz.prog 39 [(GValue.ls r0)] (GValue.ls r):=ACp_pub (g_table_row_ac2 H) (fun _ _ hm=>lent_own hm rfl (fm_length (fun x=>(GValue.len x)) r) (by decide))
noncomputable def g_table_fresh_l1 (t11_0:Int):Int×GTable→Option ((Int×GTable)⊕(GTable))
  | (t14_1,t1_1)=>(if t14_1 < (4:Int) then if 0≤t11_0∧t11_0 < (2:Int) then if 0≤t14_1∧t14_1 < (4:Int) then (g_table_row ((vrd (vrd t1_1.Drawers t11_0.toNat) t14_1.toNat).Row)).bind fun r'1=>letO ({ t1_1 with Drawers:=(vwr t1_1.Drawers t11_0.toNat (vwr (vrd t1_1.Drawers t11_0.toNat) t14_1.toNat ({ (vrd (vrd t1_1.Drawers t11_0.toNat) t14_1.toNat) with Row:=r'1 }))) }) fun t1'2=>some (.inl (w64 (t14_1+(1:Int)),t1'2)) else none else none else some (.inr t1_1))
noncomputable def g_table_fresh_l0:Int×GTable→Option ((Int×GTable)⊕(GTable))
  | (t11_0,t1_0)=>(if t11_0 < (2:Int) then (loopO (g_table_fresh_l1 t11_0) ((0:Int),t1_0)).bind fun y'6=>some (.inl (w64 (t11_0+(1:Int)),y'6)) else some (.inr t1_0))
noncomputable def g_table_fresh (t0:GTable):Option (GTable) :=
  if room (([]:List GColumn).length+t0.Cols.length) 32 then (loopO (g_table_fresh_l0) ((0:Int),{ t0 with Cols:=([]:List GColumn)++t0.Cols })).bind fun y'10=>some y'10 else none
set_option maxHeartbeats 4000000 in
set_option maxRecDepth 100000 in
theorem g_table_fresh_ac {t0:GTable} {r:GTable} (H:g_table_fresh t0=some r):ACp Tryz.prog 26 [(.agg (GTable.cs t0))] (.agg (GTable.cs r)):=by
 refine ACp_of (AC2_of_body (vs:=[.g (GTable.cs r)]) Tryz.func26 Y Y (lb Y) Y ?_) (fun _=>.same _)
 unfold g_table_fresh at H
 refine as2 [(0,.g (GTable.cs t0))] [] Y (sg [0,1] Y (rq Y (MakeD.opD (n_box 1 Y Y) Y Y Y Y) (rq Y (MakeD.opD (u_alloc 2 Y in_29 one_29 zc_29) Y Y Y Y) (rz [(1,.q 1 (0)),(2,.q 2 (0))] [(1,.pure (GTable.cs t0)),(2,.pure (GTable.cs GTable.zero))] Y (sg [0,1,2,3,4,5] Y (rq Y (MakeD.opD (n_bs0 6 Y U22 in_63) Y Y Y Y) ?_))))))
 refine rf Y U29 Y in_22 Y Y (GTable.len t0) (rp Y (u_ld Y Y U22 Y Y (GTable.sub2 t0)) (chkK H fun h1 H=>rq Y (u_app [6] Y Y Y Y U22 U22 in_63 Y Y Y (fm_length (fun x=>(GColumn.len x)) ([]:List GColumn)) (by decide) Y (fm_length (fun x=>(GColumn.len x)) t0.Cols) h1 (by decide) Y Y (fapp GColumn.cs ([]:List GColumn) t0.Cols) (lapp ([]:List GColumn) t0.Cols)) (rf Y U29 Y in_22 Y Y (GTable.len t0) (RunW_gho (Gho_pubs [9] ⟨Y,trivial⟩ Y (fm_length (fun x=>(GColumn.len x)) (([]:List GColumn)++t0.Cols)) (by decide)) (rq Y (u_st Y Y Y Y Y in_22 Y (nl (GTable.len t0)) (Upd.trans (Sub.refl _) (GTable.upd2 t0 (([]:List GColumn)++t0.Cols)) (Upd.refl ((GTable.len ((GTable.w2 t0 (([]:List GColumn)++t0.Cols)))).trans (GTable.len t0).symm)))) ?_)))))
 refine rz [(1,.q 1 (0)),(2,.q 2 (0))] [(1,.pure (GTable.cs ((GTable.w2 t0 (([]:List GColumn)++t0.Cols))))),(2,.pure (GTable.cs GTable.zero))] Y (AW2_seq (sg [0] Y (rm Y (rz [(1,_),(2,_),(11,.i (0:Int))] [(1,_),(2,_)] Y (AW2_block (as2 [(1,_),(2,_),(11,_)] [(1,_),(2,_)] Y ?_))))))
 refine bindK H fun y'10 h8 H=>AW2_loopO (fun a'7:Int×GTable=>(⟨[(1,.q 1 (0)),(2,.q 2 (0)),(11,.i a'7.1)],[(1,.pure (GTable.cs a'7.2)),(2,.pure (GTable.cs GTable.zero))],33⟩:TS)) (fun (y'8:GTable) e s'=>e=Go.Exit.exit 0∧s'=(⟨[(1,.q 1 (0)),(2,.q 2 (0))],[(1,.pure (GTable.cs y'8)),(2,.pure (GTable.cs GTable.zero))],33⟩:TS)) h8 Y (fun a x hx=>?_) (fun e s' hs=>?_)
 ·clear H
  obtain ⟨t11_0,t1_0⟩:=a
  have H:=hx
  clear hx
  unfold g_table_fresh_l0 at H
  refine sg [0] Y (rp Y (p_bin Y Y Y Y) (rz [(1,.q 1 (0)),(2,.q 2 (0)),(11,.i t11_0),(12,.b (decide (t11_0 < (2:Int))))] [(1,.pure (GTable.cs t1_0)),(2,.pure (GTable.cs GTable.zero))] Y (AW2_seq (if2 H Y (fun h2 H=>?_) (fun h2 H=>?_)))))
  ·refine as2 [(1,_),(2,_),(11,_)] [(1,_),(2,_)] Y (AW2_skip (AW2_seq (AW2_block (sg [0,1] Y (rm Y (ra Y ?_))))))
   refine rz [(1,_),(2,_),(3,.i t11_0),(11,_)] [(1,_),(2,_)] Y (sg [0] Y (rm Y (rz [(1,_),(2,_),(3,_),(11,_),(14,.i (0:Int))] [(1,_),(2,_)] Y (AW2_block (as2 [(1,_),(2,_),(3,_),(11,_),(14,_)] [(1,_),(2,_)] Y (bindK H fun y'6 h7 H=>?_))))))
   refine AW2_loopO (fun a'3:Int×GTable=>(⟨[(1,.q 1 (0)),(2,.q 2 (0)),(3,.i t11_0),(11,.i t11_0),(14,.i a'3.1)],[(1,.pure (GTable.cs a'3.2)),(2,.pure (GTable.cs GTable.zero))],33⟩:TS)) (fun (y'4:GTable) e s'=>e=Go.Exit.exit 2∧s'=(⟨[(1,.q 1 (0)),(2,.q 2 (0)),(11,.i t11_0)],[(1,.pure (GTable.cs y'4)),(2,.pure (GTable.cs GTable.zero))],33⟩:TS)) h7 Y (fun a x hx=>?_) (fun e s' hs=>?_)
   ·clear H
    obtain ⟨t14_1,t1_1⟩:=a
    have H:=hx
    clear hx
    unfold g_table_fresh_l1 at H
    refine sg [0] Y (rp Y (p_bin Y Y Y Y) (rz [(1,.q 1 (0)),(2,.q 2 (0)),(3,.i t11_0),(11,.i t11_0),(14,.i t14_1),(15,.b (decide (t14_1 < (4:Int))))] [(1,.pure (GTable.cs t1_1)),(2,.pure (GTable.cs GTable.zero))] Y (AW2_seq (if2 H Y (fun h3 H=>?_) (fun h3 H=>?_)))))
    ·refine as2 [(1,_),(2,_),(3,_),(11,_),(14,_)] [(1,_),(2,_)] Y (AW2_skip (AW2_seq (AW2_block (sg [0,1] Y (rm Y (ra Y ?_))))))
     refine rz [(1,_),(2,_),(3,_),(4,.i t14_1),(11,_),(14,_)] [(1,_),(2,_)] Y (sg [0,1,2,3,4,5] Y (rm Y (rm Y (rf Y U29 Y in_27 Y Y (GTable.len t1_1) (chkK H fun h4 H=>rp Y (u_ixp Y Y U27 in_26 Y Y (nl (GTable.len t1_1)) Y (ixe h4) (ixn h4)) ?_)))))
     refine chkK H fun h5 H=>rp Y (u_ixp Y Y U26 in_25 Y Y (nl (GTable.len t1_1)) Y (ixe h5) (ixn h5)) (ra Y (rz [(1,_),(2,_),(3,_),(5,.q 1 (0+3+t11_0.toNat * 8+t14_1.toNat * 2)),(11,_),(14,_)] [(1,_),(2,_)] Y (AW2_reg [0,1,2,3,4,5,6,7,8] Y (rm Y (rm Y ?_)))))
     refine rp Y (p_nilc Y Y Y Y (fun _=>(nl (GTable.len t1_1)))) (rf Y U25 Y in_23 Y Y (GTable.len t1_1) (rp Y (u_ld Y Y U23 Y Y ((((GTable.sub3 t1_1).trans (Sub.vfm (fun x=>(vfm_len (fun x=>(GCell.len x)) x)) (ixn h4))).trans (Sub.vfm (fun x=>(GCell.len x)) (ixn h5))).trans (GCell.sub1 (vrd (vrd t1_1.Drawers t11_0.toNat) t14_1.toNat)))) (bindK H fun r'1 h6 H=>rp Y (p_callp Y Y Y Tryz.func39 Y Y (g_table_row_ac h6) ⟨Y,trivial⟩) (rp Y (p_nilc Y Y Y Y (fun _=>(nl (GTable.len t1_1)))) (rf Y U25 Y in_23 Y Y (GTable.len t1_1) ?_)))))
     refine rq Y (u_st Y Y Y Y Y in_23 Y (nl (GTable.len t1_1)) (Upd.trans (((GTable.sub3 t1_1).trans (Sub.vfm (fun x=>(vfm_len (fun x=>(GCell.len x)) x)) (ixn h4))).trans (Sub.vfm (fun x=>(GCell.len x)) (ixn h5))) (GCell.upd1 (vrd (vrd t1_1.Drawers t11_0.toNat) t14_1.toNat) r'1) (Upd.trans ((GTable.sub3 t1_1).trans (Sub.vfm (fun x=>(vfm_len (fun x=>(GCell.len x)) x)) (ixn h4))) (Upd.vfm (fun x=>(GCell.len x)) (ixn h5)) (Upd.trans (GTable.sub3 t1_1) (Upd.vfm (fun x=>(vfm_len (fun x=>(GCell.len x)) x)) (ixn h4)) (Upd.trans (Sub.refl _) (GTable.upd3 t1_1 (vwr t1_1.Drawers t11_0.toNat (vwr (vrd t1_1.Drawers t11_0.toNat) t14_1.toNat ((GCell.w1 (vrd (vrd t1_1.Drawers t11_0.toNat) t14_1.toNat) r'1))))) (Upd.refl ((GTable.len ((GTable.w3 t1_1 (vwr t1_1.Drawers t11_0.toNat (vwr (vrd t1_1.Drawers t11_0.toNat) t14_1.toNat ((GCell.w1 (vrd (vrd t1_1.Drawers t11_0.toNat) t14_1.toNat) r'1))))))).trans (GTable.len t1_1).symm))))))) (rz [(1,_),(2,_),(3,_),(11,_),(14,_)] [(1,.pure (GTable.cs ((GTable.w3 t1_1 (vwr t1_1.Drawers t11_0.toNat (vwr (vrd t1_1.Drawers t11_0.toNat) t14_1.toNat ((GCell.w1 (vrd (vrd t1_1.Drawers t11_0.toNat) t14_1.toNat) r'1)))))))),(2,.pure (GTable.cs GTable.zero))] Y (gen1 (fun t1'2=>(⟨[(1,.q 1 (0)),(2,.q 2 (0)),(3,.i t11_0),(11,.i t11_0),(14,.i t14_1)],[(1,.pure (GTable.cs t1'2)),(2,.pure (GTable.cs GTable.zero))],33⟩:TS)) H ?_))
     intro t1'2 H
     refine AW2_reg [0,1] Y (rp Y (p_bin Y Y Y Y) (rm Y (rz [(1,.q 1 (0)),(2,.q 2 (0)),(3,.i t11_0),(11,.i t11_0),(14,.i (w64 (t14_1+(1:Int))))] [(1,.pure (GTable.cs t1'2)),(2,.pure (GTable.cs GTable.zero))] Y ?_)))
     have z:=se H; subst z
     exact ⟨Y,Y⟩
    refine as2 [(1,_),(2,_),(11,_)] [(1,_),(2,_)] Y (AW2_exit (thenQ2_exit ?_))
    have z:=se H; subst z
    exact ⟨Y,Y⟩
   obtain ⟨rfl,rfl⟩:=hs
   refine ⟨by simp,?_⟩
   refine blockQ2_exit (AW2_reg [0,1] Y (rp Y (p_bin Y Y Y Y) (rm Y (rz [(1,.q 1 (0)),(2,.q 2 (0)),(11,.i (w64 (t11_0+(1:Int))))] [(1,.pure (GTable.cs y'6)),(2,.pure (GTable.cs GTable.zero))] Y ?_))))
   have z:=se H; subst z
   exact ⟨Y,Y⟩
  refine as2 [(1,_),(2,_)] [(1,_),(2,_)] Y (AW2_exit (thenQ2_exit ?_))
  have z:=se H; subst z
  exact ⟨Y,Y⟩
 obtain ⟨rfl,rfl⟩:=hs
 refine ⟨by simp,?_⟩
 refine blockQ2_exit (sg [0,1] Y (rp Y (u_lda Y Y U29 Y in_29 Y np (Sub.refl _) (GTable.len y'10)) (rq Y (u_sw Y Y Y Y Y in_29 (GTable.len y'10) (GTable.len GTable.zero) Y) (rz [(2,.q 2 (0))] [(2,.pure (GTable.cs y'10))] Y (AW2_ret ?_)))))
 have z:=se H; subst z
 exact ⟨⟨rcw U29 Y in_29 Y (GTable.len y'10),trivial⟩,trivial⟩
end Go.Proofs.YthnkbagmaljjjaaGreatDoor.VM
