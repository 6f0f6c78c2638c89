/- Words and rules that the proof uses. -/
import Derived.Test.YthnkbagmaljjjaaGreatDoorTu0
namespace Go.Proofs.YthnkbagmaljjjaaGreatDoor.VM
open Go Go.RowKit
set_option maxHeartbeats 4000000
set_option maxRecDepth 100000
abbrev U41:=@Tryz.underlying41
abbrev U58:=@Tryz.underlying58
abbrev U76:=@Tryz.underlying76
abbrev U82:=@Tryz.underlying82
abbrev U86:=@Tryz.underlying86
abbrev U105:=@Tryz.underlying105
abbrev U108:=@Tryz.underlying108
abbrev U110:=@Tryz.underlying110
abbrev U112:=@Tryz.underlying112
abbrev U114:=@Tryz.underlying114
abbrev U116:=@Tryz.underlying116
abbrev U138:=@Tryz.underlying138
structure Gkinds_sort where
  kind_:Int
  null_:Bool
deriving DecidableEq,Inhabited
def Gkinds_sort.zero:Gkinds_sort:=⟨(0:Int),false⟩
def Gkinds_sort.cs (x:Gkinds_sort):List AV:=([(AV.int x.kind_)])++([(AV.bool x.null_)])
abbrev Gkinds_sort.ls (q:List Gkinds_sort):AV:=AV.lst (q.flatMap Gkinds_sort.cs) q.length
theorem Gkinds_sort.len (x:Gkinds_sort):(Gkinds_sort.cs x).length=2:=rfl
theorem Gkinds_sort.sub0 (x:Gkinds_sort):Sub (Gkinds_sort.cs x) 0 ([(AV.int x.kind_)]):=⟨lb rfl,rfl⟩
abbrev Gkinds_sort.w0 (x:Gkinds_sort) (y:Int):Gkinds_sort:={ x with kind_:=y }
theorem Gkinds_sort.upd0 (x:Gkinds_sort) (y:Int):Upd (Gkinds_sort.cs x) 0 ([(AV.int y)]) (Gkinds_sort.cs { x with kind_:=y }):=⟨lb rfl,rfl⟩
theorem Gkinds_sort.sub1 (x:Gkinds_sort):Sub (Gkinds_sort.cs x) 1 ([(AV.bool x.null_)]):=⟨lb rfl,rfl⟩
abbrev Gkinds_sort.w1 (x:Gkinds_sort) (y:Bool):Gkinds_sort:={ x with null_:=y }
theorem Gkinds_sort.upd1 (x:Gkinds_sort) (y:Bool):Upd (Gkinds_sort.cs x) 1 ([(AV.bool y)]) (Gkinds_sort.cs { x with null_:=y }):=⟨lb rfl,rfl⟩
theorem Gkinds_sort.nl (x:Gkinds_sort):(Gkinds_sort.cs x).all noLst1=true:=nlA rfl (rfl)
structure GSet where
  Col:List UInt8
  Expr:GExpr
def GSet.zero:GSet:=⟨[],GExpr.zero⟩
instance : Inhabited GSet := ⟨GSet.zero⟩
def GSet.cs (x:GSet):List AV:=([(AV.txt x.Col)])++(GExpr.cs x.Expr)
abbrev GSet.ls (q:List GSet):AV:=AV.lst (q.flatMap GSet.cs) q.length
theorem GSet.len (x:GSet):(GSet.cs x).length=8:=by
  simp only [GSet.cs,List.length_append]
  rw [show ([(AV.txt x.Col)]).length=1 from (show ([(AV.txt x.Col)]).length=1 from rfl),show (GExpr.cs x.Expr).length=7 from (GExpr.len x.Expr)]
theorem GSet.sub0 (x:GSet):Sub (GSet.cs x) 0 ([(AV.txt x.Col)]):=Sub.head _ _
theorem GSet.sub1 (x:GSet):Sub (GSet.cs x) 1 (GExpr.cs x.Expr):=Sub.skip (k:=1) (show ([(AV.txt x.Col)]).length=1 from rfl) (Sub.refl _)
inductive Geval_thing where
  | nil_
  | sole (y0:Int) (y1:Geval_thing)
  | twin (y0:Int) (y1:Geval_thing) (y2:Geval_thing)
  | fixed (y0:GValue)
  | place (y0:Int)
  | missing
deriving DecidableEq,Inhabited
def Geval_thing.val:Geval_thing→Value
  | .nil_=>.nilIface
  | .sole y0 y1=>.iface 108 (outs (([(AV.int y0)])++([AV.sc (Geval_thing.val y1)])))
  | .twin y0 y1 y2=>.iface 110 (outs (([(AV.int y0)])++([AV.sc (Geval_thing.val y1)])++([AV.sc (Geval_thing.val y2)])))
  | .fixed y0=>.iface 112 (outs ((GValue.cs y0)))
  | .place y0=>.iface 114 (outs (([(AV.int y0)])))
  | .missing=>.iface 116 (outs ([]))
abbrev Geval_thing.av (x:Geval_thing):AV:=.sc (Geval_thing.val x)
structure Geval_sole where
  op_:Int
  a_:Geval_thing
deriving DecidableEq,Inhabited
def Geval_sole.zero:Geval_sole:=⟨(0:Int),Geval_thing.nil_⟩
def Geval_sole.cs (x:Geval_sole):List AV:=([(AV.int x.op_)])++([(Geval_thing.av x.a_)])
theorem Geval_sole.len (x:Geval_sole):(Geval_sole.cs x).length=2:=rfl
theorem Geval_sole.sub0 (x:Geval_sole):Sub (Geval_sole.cs x) 0 ([(AV.int x.op_)]):=⟨lb rfl,rfl⟩
abbrev Geval_sole.w0 (x:Geval_sole) (y:Int):Geval_sole:={ x with op_:=y }
theorem Geval_sole.upd0 (x:Geval_sole) (y:Int):Upd (Geval_sole.cs x) 0 ([(AV.int y)]) (Geval_sole.cs { x with op_:=y }):=⟨lb rfl,rfl⟩
theorem Geval_sole.sub1 (x:Geval_sole):Sub (Geval_sole.cs x) 1 ([(Geval_thing.av x.a_)]):=⟨lb rfl,rfl⟩
abbrev Geval_sole.w1 (x:Geval_sole) (y:Geval_thing):Geval_sole:={ x with a_:=y }
theorem Geval_sole.upd1 (x:Geval_sole) (y:Geval_thing):Upd (Geval_sole.cs x) 1 ([(Geval_thing.av y)]) (Geval_sole.cs { x with a_:=y }):=⟨lb rfl,rfl⟩
structure Geval_twin where
  op_:Int
  a_:Geval_thing
  b_:Geval_thing
deriving DecidableEq,Inhabited
def Geval_twin.zero:Geval_twin:=⟨(0:Int),Geval_thing.nil_,Geval_thing.nil_⟩
def Geval_twin.cs (x:Geval_twin):List AV:=([(AV.int x.op_)])++(([(Geval_thing.av x.a_)])++([(Geval_thing.av x.b_)]))
theorem Geval_twin.len (x:Geval_twin):(Geval_twin.cs x).length=3:=rfl
theorem Geval_twin.sub0 (x:Geval_twin):Sub (Geval_twin.cs x) 0 ([(AV.int x.op_)]):=⟨lb rfl,rfl⟩
abbrev Geval_twin.w0 (x:Geval_twin) (y:Int):Geval_twin:={ x with op_:=y }
theorem Geval_twin.upd0 (x:Geval_twin) (y:Int):Upd (Geval_twin.cs x) 0 ([(AV.int y)]) (Geval_twin.cs { x with op_:=y }):=⟨lb rfl,rfl⟩
theorem Geval_twin.sub1 (x:Geval_twin):Sub (Geval_twin.cs x) 1 ([(Geval_thing.av x.a_)]):=⟨lb rfl,rfl⟩
abbrev Geval_twin.w1 (x:Geval_twin) (y:Geval_thing):Geval_twin:={ x with a_:=y }
theorem Geval_twin.upd1 (x:Geval_twin) (y:Geval_thing):Upd (Geval_twin.cs x) 1 ([(Geval_thing.av y)]) (Geval_twin.cs { x with a_:=y }):=⟨lb rfl,rfl⟩
theorem Geval_twin.sub2 (x:Geval_twin):Sub (Geval_twin.cs x) 2 ([(Geval_thing.av x.b_)]):=⟨lb rfl,rfl⟩
abbrev Geval_twin.w2 (x:Geval_twin) (y:Geval_thing):Geval_twin:={ x with b_:=y }
theorem Geval_twin.upd2 (x:Geval_twin) (y:Geval_thing):Upd (Geval_twin.cs x) 2 ([(Geval_thing.av y)]) (Geval_twin.cs { x with b_:=y }):=⟨lb rfl,rfl⟩
structure Geval_fixed where
  v_:GValue
deriving DecidableEq,Inhabited
def Geval_fixed.zero:Geval_fixed:=⟨GValue.zero⟩
def Geval_fixed.cs (x:Geval_fixed):List AV:=(GValue.cs x.v_)
theorem Geval_fixed.len (x:Geval_fixed):(Geval_fixed.cs x).length=4:=rfl
theorem Geval_fixed.sub0 (x:Geval_fixed):Sub (Geval_fixed.cs x) 0 (GValue.cs x.v_):=⟨lb rfl,rfl⟩
abbrev Geval_fixed.w0 (x:Geval_fixed) (y:GValue):Geval_fixed:={ x with v_:=y }
theorem Geval_fixed.upd0 (x:Geval_fixed) (y:GValue):Upd (Geval_fixed.cs x) 0 (GValue.cs y) (Geval_fixed.cs { x with v_:=y }):=⟨lb rfl,rfl⟩
structure Geval_place where
  i_:Int
deriving DecidableEq,Inhabited
def Geval_place.zero:Geval_place:=⟨(0:Int)⟩
def Geval_place.cs (x:Geval_place):List AV:=([(AV.int x.i_)])
theorem Geval_place.len (x:Geval_place):(Geval_place.cs x).length=1:=rfl
theorem Geval_place.sub0 (x:Geval_place):Sub (Geval_place.cs x) 0 ([(AV.int x.i_)]):=⟨lb rfl,rfl⟩
abbrev Geval_place.w0 (x:Geval_place) (y:Int):Geval_place:={ x with i_:=y }
theorem Geval_place.upd0 (x:Geval_place) (y:Int):Upd (Geval_place.cs x) 0 ([(AV.int y)]) (Geval_place.cs { x with i_:=y }):=⟨lb rfl,rfl⟩
structure Geval_missing where
deriving DecidableEq,Inhabited
def Geval_missing.zero:Geval_missing:=⟨⟩
def Geval_missing.cs (x:Geval_missing):List AV:=([]:List AV)
theorem in_82:Info Tryz.prog 82 2 16 (.agg #[.int .i64 0,.bool false]):=by unfold Info; kernel_rfl
theorem one_82:(.agg #[.int .i64 0,.bool false]:Value).cells.all (·.oneCell')=true:=by kernel_rfl
theorem zc_82:((.agg #[.int .i64 0,.bool false]:Value).cells.toList.map zcell)=Gkinds_sort.cs Gkinds_sort.zero:=by rfl
theorem pl_82:placesOf Tryz.prog 82=some [(0,1),(1,1)]:=by kernel_rfl
theorem in_105:Info Tryz.prog 105 4 32 (.agg #[.int .i64 0,.bool false,.int .i64 0,.bool false]):=by unfold Info; kernel_rfl
theorem one_105:(.agg #[.int .i64 0,.bool false,.int .i64 0,.bool false]:Value).cells.all (·.oneCell')=true:=by kernel_rfl
theorem zc_105:((.agg #[.int .i64 0,.bool false,.int .i64 0,.bool false]:Value).cells.toList.map zcell)=((Vector.replicate 2 Gkinds_sort.zero).toList).flatMap Gkinds_sort.cs:=by rfl
theorem in_58:Info Tryz.prog 58 8 104 (.agg #[.string ⟨#[]⟩,.int .i64 0,.int .i64 0,.int .i64 0,.int .u64 0,.string ⟨#[]⟩,.string ⟨#[]⟩,.slice none 0 0]):=by unfold Info; kernel_rfl
theorem one_58:(.agg #[.string ⟨#[]⟩,.int .i64 0,.int .i64 0,.int .i64 0,.int .u64 0,.string ⟨#[]⟩,.string ⟨#[]⟩,.slice none 0 0]:Value).cells.all (·.oneCell')=true:=by kernel_rfl
theorem zc_58:((.agg #[.string ⟨#[]⟩,.int .i64 0,.int .i64 0,.int .i64 0,.int .u64 0,.string ⟨#[]⟩,.string ⟨#[]⟩,.slice none 0 0]:Value).cells.toList.map zcell)=GSet.cs GSet.zero:=by rfl
theorem in_108:Info Tryz.prog 108 2 24 (.agg #[.int .i64 0,.nilIface]):=by unfold Info; kernel_rfl
theorem one_108:(.agg #[.int .i64 0,.nilIface]:Value).cells.all (·.oneCell')=true:=by kernel_rfl
theorem zc_108:((.agg #[.int .i64 0,.nilIface]:Value).cells.toList.map zcell)=Geval_sole.cs Geval_sole.zero:=by rfl
theorem pl_108:placesOf Tryz.prog 108=some [(0,1),(1,1)]:=by kernel_rfl
theorem in_110:Info Tryz.prog 110 3 40 (.agg #[.int .i64 0,.nilIface,.nilIface]):=by unfold Info; kernel_rfl
theorem one_110:(.agg #[.int .i64 0,.nilIface,.nilIface]:Value).cells.all (·.oneCell')=true:=by kernel_rfl
theorem zc_110:((.agg #[.int .i64 0,.nilIface,.nilIface]:Value).cells.toList.map zcell)=Geval_twin.cs Geval_twin.zero:=by rfl
theorem pl_110:placesOf Tryz.prog 110=some [(0,1),(1,1),(2,1)]:=by kernel_rfl
theorem in_112:Info Tryz.prog 112 4 40 (.agg #[.int .i64 0,.int .i64 0,.int .u64 0,.string ⟨#[]⟩]):=by unfold Info; kernel_rfl
theorem one_112:(.agg #[.int .i64 0,.int .i64 0,.int .u64 0,.string ⟨#[]⟩]:Value).cells.all (·.oneCell')=true:=by kernel_rfl
theorem zc_112:((.agg #[.int .i64 0,.int .i64 0,.int .u64 0,.string ⟨#[]⟩]:Value).cells.toList.map zcell)=Geval_fixed.cs Geval_fixed.zero:=by rfl
theorem pl_112:placesOf Tryz.prog 112=some [(0,4)]:=by kernel_rfl
theorem in_114:Info Tryz.prog 114 1 8 (.agg #[.int .i64 0]):=by unfold Info; kernel_rfl
theorem one_114:(.agg #[.int .i64 0]:Value).cells.all (·.oneCell')=true:=by kernel_rfl
theorem zc_114:((.agg #[.int .i64 0]:Value).cells.toList.map zcell)=Geval_place.cs Geval_place.zero:=by rfl
theorem pl_114:placesOf Tryz.prog 114=some [(0,1)]:=by kernel_rfl
theorem in_116:Info Tryz.prog 116 0 0 (.agg #[]):=by unfold Info; kernel_rfl
theorem one_116:(.agg #[]:Value).cells.all (·.oneCell')=true:=by kernel_rfl
theorem zc_116:((.agg #[]:Value).cells.toList.map zcell)=Geval_missing.cs Geval_missing.zero:=by rfl
theorem pl_116:placesOf Tryz.prog 116=some []:=by kernel_rfl
theorem in_86:Info Tryz.prog 86 1 16 (.nilIface):=by unfold Info; kernel_rfl
theorem Geval_sole.scl (x:Geval_sole):(Geval_sole.cs x).all isSc=true:=by
  obtain ⟨y0,y1⟩:=x
  cases y1<;>rfl
theorem Geval_twin.scl (x:Geval_twin):(Geval_twin.cs x).all isSc=true:=by
  obtain ⟨y0,y1,y2⟩:=x
  cases y1<;>cases y2<;>rfl
theorem Geval_fixed.scl (x:Geval_fixed):(Geval_fixed.cs x).all isSc=true:=by
  obtain ⟨y0⟩:=x
  rfl
theorem Geval_place.scl (x:Geval_place):(Geval_place.cs x).all isSc=true:=by
  obtain ⟨y0⟩:=x
  rfl
theorem Geval_missing.scl (x:Geval_missing):(Geval_missing.cs x).all isSc=true:=rfl
noncomputable def g_expr_wants (op0:Int):Option (Int) :=
  ((if op0=(1:Int) then some (decide (op0=(1:Int))) else some (decide (op0=(2:Int))))).bind fun j'1=>(if j'1=true then some (0:Int) else ((if op0=(3:Int) then some (decide (op0=(3:Int))) else (if op0=(4:Int) then some (decide (op0=(4:Int))) else (if op0=(17:Int) then some (decide (op0=(17:Int))) else some (decide (op0=(18:Int))))))).bind fun j'2=>(if j'2=true then some (1:Int) else some (2:Int)))
theorem g_expr_wants_ac {op0:Int} {r:Int} (H:g_expr_wants op0=some r):ACp Tryz.prog 92 [(AV.int op0)] (AV.int r):=by
 refine ACp_of (AC2_of_body (vs:=[.i r]) Tryz.func92 Y Y (lb Y) Y ?_) (fun _=>.same _)
 unfold g_expr_wants at H
 refine as2 [0] [.i op0] [] [] Y (sg 1 Y (ra Y (rz [0] [_] [] [] Y (QS (sg 1 Y (rm Y (rz [3] [.i op0] [] [] Y (QB (QS (bindK H fun j'1 h1 H=>AW2_mid (⟨[(3,.i op0),(4,.b j'1)],[],12⟩:TS) ?_ ?_))))))))))
 ·clear H
  have H:=h1
  clear h1
  refine sg 2 Y (rp Y (pi Y) (ra Y (rz [3,4] [.i op0,.b (decide (op0=1))] [] [] Y (if2 H Y (fun h2 H=>?_) (fun h2 H=>?_)))))
  ·refine QK ?_
   have z:=se H;subst z
   exact rfl
  refine ar 2 Y (rp Y (pi Y) (ra Y (rz [3,4] [_,.b (decide (op0=2))] [] [] Y ?_)))
  have z:=se H;subst z
  exact rfl
 refine AW2_cond Y (fun h3=>?_) (fun h3=>?_)
 ·replace H:=ite_then h3 H
  refine sg 1 Y (ra Y (rz [2] [.i 0] [] [] Y (QR ?_)))
  have z:=se H;subst z
  exact ⟨⟨rt,trivial⟩,trivial⟩
 replace H:=ite_else (ne_true h3) H
 refine QS (bindK H fun j'2 h4 H=>AW2_mid (⟨[(7,.b j'2)],[],12⟩:TS) ?_ ?_)
 ·clear H
  have H:=h4
  clear h4
  refine sg 2 Y (rp Y (pi Y) (ra Y (rz [3,7] [.i op0,.b (decide (op0=3))] [] [] Y (if2 H Y (fun h5 H=>?_) (fun h5 H=>?_)))))
  ·refine as2 [7] [_] [] [] Y (QK ?_)
   have z:=se H;subst z
   exact rfl
  refine sg 2 Y (rp Y (pi Y) (ra Y (rz [3,7] [_,.b (decide (op0=4))] [] [] Y (if2 H Y (fun h6 H=>?_) (fun h6 H=>?_)))))
  ·refine as2 [7] [_] [] [] Y (QK ?_)
   have z:=se H;subst z
   exact rfl
  refine sg 2 Y (rp Y (pi Y) (ra Y (rz [3,7] [_,.b (decide (op0=17))] [] [] Y (if2 H Y (fun h7 H=>?_) (fun h7 H=>?_)))))
  ·refine as2 [7] [_] [] [] Y (QK ?_)
   have z:=se H;subst z
   exact rfl
  refine ar 2 Y (rp Y (pi Y) (ra Y (rz [7] [.b (decide (op0=18))] [] [] Y ?_)))
  have z:=se H;subst z
  exact rfl
 refine AW2_cond Y (fun h8=>?_) (fun h8=>?_)
 ·replace H:=ite_then h8 H
  refine sg 1 Y (ra Y (rz [2] [.i 1] [] [] Y (QR ?_)))
  have z:=se H;subst z
  exact ⟨⟨rt,trivial⟩,trivial⟩
 replace H:=ite_else (ne_true h8) H
 refine as2 [] [] [] [] Y (QK (sg 1 Y (ra Y (rz [2] [.i 2] [] [] Y (QR ?_)))))
 have z:=se H;subst z
 exact ⟨⟨rt,trivial⟩,trivial⟩
def g_expr_node_r3:List (List (Nat×Option Nat)):=[[(1,none)],[(11,some 0)],[(12,some 1)],[(1,none)],[(14,some 3)],[(15,some 4)]]
def g_expr_node_r3c:List (List Nat):=[[],[0],[0,1],[],[3],[3,4],[0,1,2,3,4,5]]
noncomputable def g_expr_node (e0:GExpr):Option (Int) :=
  (if (e0.Op < (1:Int))∨(e0.Op > (20:Int)) then some (2:Int) else (g_expr_wants e0.Op).bind fun r'1=>(if (e0.Args.length:Int)≠r'1 then some (3:Int) else (if ((decide (e0.Op=(2:Int)))≠(decide (e0.Name≠[])))∨((e0.Op≠(1:Int))∧(e0.Value≠GValue.zero)) then some (3:Int) else ((if e0.Op=(2:Int) then (g_lex_Check ({ { GToken.zero with Kind:=(1:Int) } with Text:=e0.Name })).bind fun r'3=>some (decide (r'3≠(0:Int))) else some false)).bind fun g'4=>(if g'4=true then some (3:Int) else ((if e0.Op=(1:Int) then (g_value_Check e0.Value).bind fun r'6=>(if r'6≠(0:Int) then some true else some (decide (e0.Value.Int_ < (0:Int)))) else some false)).bind fun g'7=>(if g'7=true then some (3:Int) else some (0:Int))))))
theorem g_expr_node_ac {e0:GExpr} {r:Int} (H:g_expr_node e0=some r):ACp Tryz.prog 87 [(.agg (GExpr.cs e0))] (AV.int r):=by
 refine ACp_of (AC2_of_body (vs:=[.i r]) Tryz.func87 Y Y (lb Y) Y ?_) (fun _=>.same _)
 unfold g_expr_node at H
 refine as2 [0] [.g (GExpr.cs e0)] [] [] Y (sg 2 Y (rq Y (bx 1 Y) (ra Y (rz [1] [.q 1 (0)] [1] [.pure (GExpr.cs e0)] Y (QS (QS (AW2_mid (⟨[(1,.q 1 (0)),(10,.b (decide ((e0.Op < 1)∨(e0.Op > 20))))],[(1,.pure (GExpr.cs e0))],61⟩:TS) ?_ ?_)))))))
 ·refine ar 8 Y (rf Y U35 Y in_3 Y Y (GExpr.len e0) (rp Y (pl U3 Y (GExpr.sub0 e0)) (rp Y (pb Y Y) (rm Y ?_))))
  refine (Classical.em (e0.Op < 1)).elim (fun h1=>?_) (fun h1=>?_)
  ·exact rO Y (dT h1) Y (rO Y (dT h1) Y (rO Y (dT h1) Y (rp Y (p_pkt Y Y (dT h1) (tb (dT (p:=(e0.Op < 1)∨(e0.Op > 20)) (Or.inl h1)).symm)) (rend Y Y))))
  exact rn Y (dF h1) Y (uf U35 Y in_3 Y (GExpr.len e0)) (rn Y (dF h1) Y (pl U3 Y (GExpr.sub0 e0)) (rn Y (dF h1) Y (pb Y Y) (rp Y (p_pkf Y Y (dF h1) (tb ((or_l (q:=e0.Op > 20) h1)))) (rend Y Y))))
 refine if2 H Y (fun h2 H=>?_) (fun h2 H=>?_)
 ·refine sg 1 Y (ra Y (rz [2] [.i 2] [] [] Y (QR ?_)))
  have z:=se H;subst z
  exact ⟨⟨rt,trivial⟩,trivial⟩
 refine as2 [1] [_] [1] [_] Y (QK (QS (QS (bindK H fun r'1 h3 H=>AW2_ghoQ (AW2_draw 6 [6] (fun k=>([.q 1 (0+6),.p (GExpr.ls e0.Args),.i (e0.Args.length:Int),.q 1 (0+0),.i e0.Op,.i r'1]:List TV).getD k TV.any) (fun k=>g_expr_node_r3.getD k []) [(1,none),(13,some 2),(16,some 5)] [] (fun k=>g_expr_node_r3c.getD k []) mixed (by kernel_rfl) Y Y (a_op (g_x Y (x_p Y (uf U35 Y in_33 Y (GExpr.len e0)) Y)) (a_op (g_x Y (x_p Y (pl U33 Y (GExpr.sub3 e0)) Y)) (a_op (g_x Y (x_p Y (p_lenl Y U33 Y Y) Y)) (a_op (g_x Y (x_p Y (uf U35 Y in_3 Y (GExpr.len e0)) Y)) (a_op (g_x Y (x_p Y (pl U3 Y (GExpr.sub0 e0)) Y)) (a_op (g_x Y (x_p Y (pc Y Tryz.func92 Y (g_expr_wants_ac h3) Y) Y)) (a_nil))))))) (t_op Y Y (PureD.opD (pn Y)) (t_gho (Gho_st (L:=[(1,.q 1 (0)),(17,.b (decide ((e0.Args.length:Int)≠r'1)))]) (H:=[(1,.pure (GExpr.cs e0))]) (N:=61) Y ⟨TLes.same _,TLes.same _,trivial⟩ ⟨Y,trivial⟩) (if2 H Y (fun h4 H=>?_) (fun h4 H=>?_)))))))))
 ·refine sg 1 Y (ra Y (rz [2] [.i 3] [] [] Y (QR ?_)))
  have z:=se H;subst z
  exact ⟨⟨rt,trivial⟩,trivial⟩
 refine as2 [1] [.q 1 (0)] [1] [.pure (GExpr.cs e0)] Y (QK (QS (QS (AW2_mid (⟨[(1,.q 1 (0)),(35,.b (decide (((decide (e0.Op=2))≠(decide (e0.Name≠[])))∨((e0.Op≠1)∧(e0.Value≠GValue.zero)))))],[(1,.pure (GExpr.cs e0))],61⟩:TS) ?_ ?_))))
 ·refine ar 18 Y (rf Y U35 Y in_3 Y Y (GExpr.len e0) (rp Y (pl U3 Y (GExpr.sub0 e0)) (rp Y (pi Y) (rf Y U35 Y in_9 Y Y (GExpr.len e0) (rp Y (pl U9 Y (GExpr.sub2 e0)) (rp Y (p_sne Y Y Y) (rp Y (p_bnep Y U4 Y Y) (rm Y ?_))))))))
  refine (Classical.em ((decide (e0.Op=2))≠(decide (e0.Name≠[])))).elim (fun h5=>?_) (fun h5=>?_)
  ·exact rO Y (dT h5) Y (rO Y (dT h5) Y (rO Y (dT h5) Y (rO Y (dT h5) Y (r_off2 Y Y Y Y Y Y (r_off2 Y Y Y Y Y Y (r_off2 Y Y Y Y Y Y (r_off2 Y Y Y Y Y Y (rO Y (dT h5) Y (rp Y (p_pkt Y Y (dT h5) (tb (dT (p:=((decide (e0.Op=2))≠(decide (e0.Name≠[])))∨((e0.Op≠1)∧(e0.Value≠GValue.zero))) (Or.inl h5)).symm)) (rend Y Y))))))))))
  refine rn Y (dF h5) Y (uf U35 Y in_3 Y (GExpr.len e0)) (rn Y (dF h5) Y (pl U3 Y (GExpr.sub0 e0)) (rn Y (dF h5) Y (pn Y) (rn Y (dF h5) Y (p_move Y Y) ?_)))
  refine (Classical.em (e0.Op≠1)).elim (fun h6=>?_) (fun h6=>?_)
  ·exact rn Y (dT h6) Y (uf U35 Y in_32 Y (GExpr.len e0)) (rn Y (dT h6) Y (pL U32 Y in_32 (GExpr.sub1 e0) (GValue.len e0.Value)) (rn Y (dT h6) Y (u_bld Y in_32 one_32 zc_32 pl_32 Y Y) (rn Y (dT h6) Y (p_nea (a:=e0.Value) (b:=GValue.zero) Y eq_32 Y (by kernel_rfl) Y Y) (rn Y (dF h5) Y (p_pkt Y Y (dT h6) (tb ((and_l (q:=e0.Value≠GValue.zero) h6)))) (rp Y (p_pkf Y Y (dF h5) (tb ((or_l (q:=(e0.Op≠1)∧(e0.Value≠GValue.zero)) h5)))) (rend Y Y))))))
  exact rO Y (dF h6) Y (rO Y (dF h6) Y (rO Y (dF h6) Y (rO Y (dF h6) Y (rn Y (dF h5) Y (p_pkf Y Y (dF h6) (tb (dF (p:=(e0.Op≠1)∧(e0.Value≠GValue.zero)) (fun x=>h6 x.1)).symm)) (rp Y (p_pkf Y Y (dF h5) (tb ((or_l (q:=(e0.Op≠1)∧(e0.Value≠GValue.zero)) h5)))) (rend Y Y))))))
 refine if2 H Y (fun h7 H=>?_) (fun h7 H=>?_)
 ·refine sg 1 Y (ra Y (rz [2] [.i 3] [] [] Y (QR ?_)))
  have z:=se H;subst z
  exact ⟨⟨rt,trivial⟩,trivial⟩
 refine as2 [1] [_] [1] [_] Y (QK (QS (QS (bindK H fun g'4 h11 H=>AW2_mid (⟨[(1,.q 1 (0)),(45,.b g'4)],[(1,.pure (GExpr.cs e0))],61⟩:TS) ?_ ?_))))
 ·clear H
  have H:=h11
  clear h11
  refine ar 10 Y (rf Y U35 Y in_3 Y Y (GExpr.len e0) (rp Y (pl U3 Y (GExpr.sub0 e0)) (rp Y (pi Y) (rm Y (em2 H (fun h9 H=>?_) (fun h9 H=>?_))))))
  ·refine rn Y (dT h9) Y (uf U35 Y in_9 Y (GExpr.len e0)) (rn Y (dT h9) Y (pl U9 Y (GExpr.sub2 e0)) (rn Y (dT h9) Y (u_bld Y in_79 one_79 zc_79 pl_79 Y (af_cons Y Y (GToken.upd0 GToken.zero 1) (af_cons Y Y (GToken.upd1 ((GToken.w0 GToken.zero 1)) e0.Name) Y))) (bindK H fun r'3 h10 H=>rn Y (dT h9) Y (pc Y Tryz.func41 Y (g_lex_Check_ac h10) Y) (rn Y (dT h9) Y (pn Y) (rp Y (p_pkt Y Y (dT h9) (.same _)) (rs [1,45] [.q 1 (0),.b (decide (r'3≠0))] [1] [.pure (GExpr.cs e0)] Y ?_))))))
   have z:=se H;subst z
   exact RunW_nil rfl
  refine rO Y (dF h9) Y (rO Y (dF h9) Y (rO Y (dF h9) Y (rO Y (dF h9) Y (rO Y (dF h9) Y (rp Y (p_pkf Y Y (dF h9) (.same _)) (rs [1,45] [.q 1 (0),.b false] [1] [.pure (GExpr.cs e0)] Y ?_))))))
  have z:=se H;subst z
  exact RunW_nil rfl
 refine AW2_cond Y (fun h12=>?_) (fun h12=>?_)
 ·replace H:=ite_then h12 H
  refine sg 1 Y (ra Y (rz [2] [.i 3] [] [] Y (QR ?_)))
  have z:=se H;subst z
  exact ⟨⟨rt,trivial⟩,trivial⟩
 replace H:=ite_else (ne_true h12) H
 refine as2 [1] [.q 1 (0)] [1] [.pure (GExpr.cs e0)] Y (QK (QS (QS (bindK H fun g'7 h17 H=>AW2_mid (⟨[(60,.b g'7)],[],61⟩:TS) ?_ ?_))))
 ·clear H
  have H:=h17
  clear h17
  refine ar 15 Y (rf Y U35 Y in_3 Y Y (GExpr.len e0) (rp Y (pl U3 Y (GExpr.sub0 e0)) (rp Y (pi Y) (rm Y (em2 H (fun h14 H=>?_) (fun h14 H=>?_))))))
  ·refine rn Y (dT h14) Y (uf U35 Y in_32 Y (GExpr.len e0)) (rn Y (dT h14) Y (pL U32 Y in_32 (GExpr.sub1 e0) (GValue.len e0.Value)) (bindK H fun r'6 h15 H=>rn Y (dT h14) Y (pc Y Tryz.func63 Y (g_value_Check_ac h15) Y) (rn Y (dT h14) Y (pn Y) (rn Y (dT h14) Y (p_move Y Y) (em2 H (fun h16 H=>?_) (fun h16 H=>?_))))))
   ·refine rO Y (dT h16) Y (rO Y (dT h16) Y (rO Y (dT h16) Y (rO Y (dT h16) Y (rn Y (dT h14) Y (p_pkt Y Y (dT h16) (.same _)) (rp Y (p_pkt Y Y (dT h14) (.same _)) (rs [60] [.b true] [] [] Y ?_))))))
    have z:=se H;subst z
    exact RunW_nil rfl
   refine rn Y (dF h16) Y (uf U35 Y in_32 Y (GExpr.len e0)) (rn Y (dF h16) Y (uf U32 Y in_3 Y (GExpr.len e0)) (rn Y (dF h16) Y (pl U3 Y ((GExpr.sub1 e0).trans (GValue.sub1 e0.Value))) (rn Y (dF h16) Y (pb Y Y) (rn Y (dT h14) Y (p_pkf Y Y (dF h16) (.same _)) (rp Y (p_pkt Y Y (dT h14) (.same _)) (rs [60] [.b (decide (e0.Value.Int_ < 0))] [] [] Y ?_))))))
   have z:=se H;subst z
   exact RunW_nil rfl
  refine rO Y (dF h14) Y (rO Y (dF h14) Y (rO Y (dF h14) Y (rO Y (dF h14) Y (rO Y (dF h14) Y (r_off2 Y Y Y Y Y Y (r_off2 Y Y Y Y Y Y (r_off2 Y Y Y Y Y Y (r_off2 Y Y Y Y Y Y (rO Y (dF h14) Y (rp Y (p_pkf Y Y (dF h14) (.same _)) (rs [60] [.b false] [] [] Y ?_)))))))))))
  have z:=se H;subst z
  exact RunW_nil rfl
 refine AW2_cond Y (fun h18=>?_) (fun h18=>?_)
 ·replace H:=ite_then h18 H
  refine sg 1 Y (ra Y (rz [2] [.i 3] [] [] Y (QR ?_)))
  have z:=se H;subst z
  exact ⟨⟨rt,trivial⟩,trivial⟩
 replace H:=ite_else (ne_true h18) H
 refine as2 [] [] [] [] Y (QK (sg 1 Y (ra Y (rz [2] [.i 0] [] [] Y (QR ?_)))))
 have z:=se H;subst z
 exact ⟨⟨rt,trivial⟩,trivial⟩
noncomputable def g_expr_nodes_l0 (e0:GExpr) (R':GExpr→Option Int):Int→Option (Int⊕(Int⊕Unit))
  | t15_0=>(if t15_0 < (e0.Args.length:Int) then if 0≤t15_0∧t15_0 < (e0.Args.length:Int) then (R' (lrd e0.Args t15_0.toNat)).bind fun r'2=>(if r'2≠(0:Int) then some (.inr (.inl r'2)) else some (.inl (w64 (t15_0+(1:Int))))) else none else some (.inr (.inr ())))
noncomputable def g_expr_nodes_b (R':GExpr→Option Int) (e0:GExpr):Option (Int) :=
  (g_expr_node e0).bind fun r'1=>(if r'1≠(0:Int) then some r'1 else (loopO (g_expr_nodes_l0 e0 R') (0:Int)).bind fun o'6=>match o'6 with | .inl y'7=>some y'7 | .inr (y'8)=>some (0:Int))
noncomputable def g_expr_nodes:Nat→GExpr→Option Int
  | 0,_=>none
  | fu+1,e0=>g_expr_nodes_b (g_expr_nodes fu) e0
theorem g_expr_nodes_ac0 {R':GExpr→Option Int} (hR:∀ {e0:GExpr} {r:Int},R' e0=some r→ACp Tryz.prog 66 [(.agg (GExpr.cs e0))] (AV.int r)) {e0:GExpr} {r:Int} (H:g_expr_nodes_b R' e0=some r):ACp Tryz.prog 66 [(.agg (GExpr.cs e0))] (AV.int r):=by
 refine ACp_of (AC2_of_body (vs:=[.i r]) Tryz.func66 Y Y (lb Y) Y ?_) (fun _=>.same _)
 unfold g_expr_nodes_b at H
 refine as2 [0] [.g (GExpr.cs e0)] [] [] Y (sg 2 Y (rq Y (bx 1 Y) (ra Y (rz [1] [.q 1 (0)] [1] [.pure (GExpr.cs e0)] Y (QS (sg 3 Y (rp Y (pL U35 Y in_35 (Sub.refl _) (GExpr.len e0)) (bindK H fun r'1 h1 H=>rp Y (pc Y Tryz.func87 Y (g_expr_node_ac h1) Y) (ra Y (rz [1,3] [_,.i r'1] [1] [_] Y (sg 2 Y (rm Y (rp Y (pn Y) (rz [1,3,10] [_,_,.b (decide (r'1≠0))] [1] [_] Y (if2 H Y (fun h2 H=>?_) (fun h2 H=>?_))))))))))))))))
 ·refine sg 2 Y (rm Y (ra Y (rz [2] [.i r'1] [] [] Y (QR ?_))))
  have z:=se H;subst z
  exact ⟨⟨rt,trivial⟩,trivial⟩
 refine as2 [1] [_] [1] [_] Y (QK (QS (sg 4 Y (rf Y U35 Y in_33 Y Y (GExpr.len e0) (rp Y (pl U33 Y (GExpr.sub3 e0)) (rp Y (p_lenl Y U33 Y Y) (rm Y (rz [13,14,15] [.p (GExpr.ls e0.Args),.i (e0.Args.length:Int),.i 0] [] [] Y (QB (as2 [13,14,15] [_,_,_] [] [] Y (bindK H fun o'6 h7 H=>AW2_loopO (fun a'3:Int=>(⟨[(13,.p (GExpr.ls e0.Args)),(14,.i (e0.Args.length:Int)),(15,.i a'3)],[],25⟩:TS)) (fun (o:Int⊕Unit) e s'=>match o with | .inl y'4=>e=Go.Exit.ret∧ResAll Tryz.prog s' [ResultVar.tmp 2] [.i y'4]∧HFits s' [] | .inr (y'5)=>e=Go.Exit.exit 0∧s'=(⟨[],[],25⟩:TS)) h7 Y (fun t15_0 x hx=>?_) (fun e s' hs=>?_))))))))))))
 ·clear H
  have H:=hx
  clear hx
  unfold g_expr_nodes_l0 at H
  refine sg 1 Y (rp Y (pb Y Y) (rz [13,14,15,16] [.p (GExpr.ls e0.Args),.i (e0.Args.length:Int),.i t15_0,.b (decide (t15_0 < (e0.Args.length:Int)))] [] [] Y (QS (if2 H Y (fun h3 H=>?_) (fun h3 H=>?_)))))
  ·refine as2 [13,14,15] [_,_,_] [] [] Y (QK (QS (QB (sg 4 Y (chkK H fun h4 H=>rp Y (u_ixl Y Y U33 in_35 Y Y (ixe h4) (ixn h4) (fne GExpr.len (by decide) (ixn h4))) (rp Y (pL U35 Y in_35 (Sub.fm default GExpr.len (ixn h4)) (GExpr.len (lrd e0.Args t15_0.toNat))) (rq Y (al 5 in_35 one_35 zc_35 Y) (rq Y (u_sw Y Y in_35 (GExpr.len (lrd e0.Args t15_0.toNat)) (GExpr.len GExpr.zero)) (rz [5,13,14,15] [.q 5 (0),_,_,_] [5] [.pure (GExpr.cs (lrd e0.Args t15_0.toNat))] Y (sg 3 Y (rp Y (pL U35 Y in_35 (Sub.refl _) (GExpr.len (lrd e0.Args t15_0.toNat))) (bindK H fun r'2 h5 H=>rp Y (pc Y Tryz.func66 Y (hR h5) Y) (ra Y (rz [6,13,14,15] [.i r'2,_,_,_] [] [] Y (sg 2 Y (rm Y (rp Y (pn Y) (rz [6,13,14,15,22] [_,_,_,_,.b (decide (r'2≠0))] [] [] Y (if2 H Y (fun h6 H=>?_) (fun h6 H=>?_))))))))))))))))))))
   ·refine sg 2 Y (rm Y (ra Y (rz [2] [.i r'2] [] [] Y (QR ?_))))
    have z:=se H;subst z
    exact ⟨Y,⟨rt,trivial⟩,trivial⟩
   refine as2 [13,14,15] [_,_,_] [] [] Y (QK (ar 2 Y (rp Y (pb Y Y) (rm Y (rz [13,14,15] [_,_,.i (w64 (t15_0+1))] [] [] Y ?_)))))
   have z:=se H;subst z
   exact ⟨Y,Y⟩
  refine as2 [] [] [] [] Y (AW2_exit (thenQ2_exit ?_))
  have z:=se H;subst z
  exact ⟨Y,Y⟩
 rcases o'6 with y'7 | y'8
 ·obtain ⟨rfl,hs⟩:=hs
  refine ⟨by simp,?_⟩
  have z:=se H;subst z
  exact ⟨hs.1,hs.2⟩
 obtain ⟨rfl,rfl⟩:=hs
 refine ⟨by simp,?_⟩
 refine blockQ2_exit (sg 1 Y (ra Y (rz [2] [.i 0] [] [] Y (QR ?_))))
 have z:=se H;subst z
 exact ⟨⟨rt,trivial⟩,trivial⟩
theorem g_expr_nodes_acN:∀ (fu:Nat) {e0:GExpr} {r:Int},g_expr_nodes fu e0=some r→ACp Tryz.prog 66 [(.agg (GExpr.cs e0))] (AV.int r)
 | 0,_,_,H=>(by cases H)
 | fu+1,_,_,H=>g_expr_nodes_ac0 (g_expr_nodes_acN fu) H
theorem g_expr_nodes_ac {e0:GExpr} {r:Int} (H:g_expr_nodes 100000 e0=some r):ACp Tryz.prog 66 [(.agg (GExpr.cs e0))] (AV.int r):=g_expr_nodes_acN 100000 H
noncomputable def g_expr_Check (e0:GExpr):Option (Int) :=
  (g_expr_size 100000 e0 (1:Int)).bind fun r'1=>(if (!r'1.2)=true then some (1:Int) else (g_expr_nodes 100000 e0).bind fun r'2=>some r'2)
theorem g_expr_Check_ac {e0:GExpr} {r:Int} (H:g_expr_Check e0=some r):ACp Tryz.prog 42 [(.agg (GExpr.cs e0))] (AV.int r):=by
 refine ACp_of (AC2_of_body (vs:=[.i r]) Tryz.func42 Y Y (lb Y) Y ?_) (fun _=>.same _)
 unfold g_expr_Check at H
 refine as2 [0] [.g (GExpr.cs e0)] [] [] Y (sg 2 Y (rq Y (bx 1 Y) (ra Y (rz [1] [.q 1 (0)] [1] [.pure (GExpr.cs e0)] Y (QS (sg 7 Y (rp Y (pL U35 Y in_35 (Sub.refl _) (GExpr.len e0)) (bindK H fun r'1 h1 H=>rp Y (pc Y Tryz.func65 Y (g_expr_size_ac h1) Y) (rm Y (rp Y (pe Y) (rp Y (pe Y) (ra Y (ra Y (rz [1,4] [_,.b r'1.2] [1] [_] Y (sg 2 Y (rm Y (rp Y (p_not Y Y) (rz [1,11] [_,.b (!r'1.2)] [1] [_] Y (AW2_cond Y (fun h2=>?_) (fun h2=>?_))))))))))))))))))))
 ·replace H:=ite_then h2 H
  refine sg 1 Y (ra Y (rz [2] [.i 1] [] [] Y (QR ?_)))
  have z:=se H;subst z
  exact ⟨⟨rt,trivial⟩,trivial⟩
 replace H:=ite_else (ne_true h2) H
 refine as2 [1] [.q 1 (0)] [1] [.pure (GExpr.cs e0)] Y (QK (sg 3 Y (rp Y (pL U35 Y in_35 (Sub.refl _) (GExpr.len e0)) (bindK H fun r'2 h3 H=>rp Y (pc Y Tryz.func66 Y (g_expr_nodes_ac h3) Y) (ra Y (rz [2] [.i r'2] [] [] Y (QR ?_)))))))
 have z:=se H;subst z
 exact ⟨⟨rt,trivial⟩,trivial⟩
noncomputable def g_kinds_sort_fits (s0:Gkinds_sort) (kind1:Int):Option (Bool) :=
  some (decide ((s0.kind_=kind1)∨(s0.kind_=(0:Int))))
theorem g_kinds_sort_fits_ac {s0:Gkinds_sort} {kind1:Int} {r:Bool} (H:g_kinds_sort_fits s0 kind1=some r):ACp Tryz.prog 89 [(.agg (Gkinds_sort.cs s0)),(AV.int kind1)] (AV.bool r):=by
 refine ACp_of (AC2_of_body (vs:=[.b r]) Tryz.func89 Y Y (lb Y) Y ?_) (fun _=>.same _)
 unfold g_kinds_sort_fits at H
 refine as2 [0,1] [.g (Gkinds_sort.cs s0),.i kind1] [] [] Y (sg 2 Y (rq Y (bx 2 Y) (ra Y (rz [1,2] [_,.q 2 (0)] [2] [.pure (Gkinds_sort.cs s0)] Y (QS (AW2_mid (⟨[(4,.b (decide ((s0.kind_=kind1)∨(s0.kind_=0))))],[],14⟩:TS) ?_ ?_))))))
 ·refine ar 10 Y (rf Y U82 Y in_3 Y Y (Gkinds_sort.len s0) (rp Y (pl U3 Y (Gkinds_sort.sub0 s0)) (rm Y (rp Y (pi Y) (rm Y ?_)))))
  refine (Classical.em (s0.kind_=kind1)).elim (fun h1=>?_) (fun h1=>?_)
  ·exact rO Y (dT h1) Y (rO Y (dT h1) Y (rO Y (dT h1) Y (rp Y (p_pkt Y Y (dT h1) (tb (dT (p:=(s0.kind_=kind1)∨(s0.kind_=0)) (Or.inl h1)).symm)) (ra Y (rend Y Y)))))
  exact rn Y (dF h1) Y (uf U82 Y in_3 Y (Gkinds_sort.len s0)) (rn Y (dF h1) Y (pl U3 Y (Gkinds_sort.sub0 s0)) (rn Y (dF h1) Y (pi Y) (rp Y (p_pkf Y Y (dF h1) (tb ((or_l (q:=s0.kind_=0) h1)))) (ra Y (rend Y Y)))))
 refine QR ?_
 have z:=se H;subst z
 exact ⟨⟨rt,trivial⟩,trivial⟩
noncomputable def g_kinds_sort_with (s0:Gkinds_sort) (t1:Gkinds_sort):Option (Gkinds_sort) :=
  ((if s0.kind_=(0:Int) then some ({ s0 with kind_:=t1.kind_ }) else some s0)).bind fun j'1=>letO ({ j'1 with null_:=(decide ((j'1.null_=true)∨(t1.null_=true))) }) fun s2'2=>some s2'2
theorem g_kinds_sort_with_ac {s0:Gkinds_sort} {t1:Gkinds_sort} {r:Gkinds_sort} (H:g_kinds_sort_with s0 t1=some r):ACp Tryz.prog 90 [(.agg (Gkinds_sort.cs s0)),(.agg (Gkinds_sort.cs t1))] (.agg (Gkinds_sort.cs r)):=by
 refine ACp_of (AC2_of_body (vs:=[.g (Gkinds_sort.cs r)]) Tryz.func90 Y Y (lb Y) Y ?_) (fun _=>.same _)
 unfold g_kinds_sort_with at H
 refine as2 [0,1] [.g (Gkinds_sort.cs s0),.g (Gkinds_sort.cs t1)] [] [] Y (sg 3 Y (rq Y (bx 2 Y) (rq Y (bx 3 Y) (rq Y (al 4 in_82 one_82 zc_82 Y) (rz [2,3,4] [.q 2 (0),.q 3 (0),.q 4 (0)] [2,3,4] [.pure (Gkinds_sort.cs s0),.pure (Gkinds_sort.cs t1),.pure (Gkinds_sort.cs Gkinds_sort.zero)] Y (QS (bindK H fun j'1 h1 H=>AW2_mid (⟨[(2,.q 2 (0)),(3,.q 3 (0)),(4,.q 4 (0))],[(2,.pure (Gkinds_sort.cs j'1)),(3,.pure (Gkinds_sort.cs t1)),(4,.pure (Gkinds_sort.cs Gkinds_sort.zero))],19⟩:TS) ?_ ?_)))))))
 ·clear H
  have H:=h1
  clear h1
  refine sg 3 Y (rf Y U82 Y in_3 Y Y (Gkinds_sort.len s0) (rp Y (pl U3 Y (Gkinds_sort.sub0 s0)) (rp Y (pi Y) (rz [2,3,4,7] [.q 2 (0),.q 3 (0),.q 4 (0),.b (decide (s0.kind_=0))] [2,3,4] [.pure (Gkinds_sort.cs s0),.pure (Gkinds_sort.cs t1),.pure (Gkinds_sort.cs Gkinds_sort.zero)] Y (if2 H Y (fun h2 H=>?_) (fun h2 H=>?_))))))
  ·refine ar 4 Y (rf Y U82 Y in_3 Y Y (Gkinds_sort.len t1) (rp Y (pl U3 Y (Gkinds_sort.sub0 t1)) (rf Y U82 Y in_3 Y Y (Gkinds_sort.len s0) (rq Y (u_st Y Y Y Y Y in_3 Y (nl (Gkinds_sort.len s0)) (Upd.trans (Sub.refl _) (Gkinds_sort.upd0 s0 t1.kind_) (Upd.refl ((Gkinds_sort.len ((Gkinds_sort.w0 s0 t1.kind_))).trans (Gkinds_sort.len s0).symm)))) (rz [2,3,4] [_,_,_] [2,3,4] [.pure (Gkinds_sort.cs ((Gkinds_sort.w0 s0 t1.kind_))),_,_] Y ?_)))))
   have z:=se H;subst z
   exact rfl
  refine as2 [2,3,4] [_,_,_] [2,3,4] [_,_,_] Y (QK ?_)
  have z:=se H;subst z
  exact rfl
 refine QS (AW2_mid (⟨[(2,.q 2 (0)),(4,.q 4 (0))],[(2,.pure (Gkinds_sort.cs ((Gkinds_sort.w1 j'1 (decide ((j'1.null_=true)∨(t1.null_=true))))))),(4,.pure (Gkinds_sort.cs Gkinds_sort.zero))],19⟩:TS) ?_ ?_)
 ·refine ar 8 Y (rf Y U82 Y in_4 Y Y (Gkinds_sort.len j'1) (rp Y (pl U4 Y (Gkinds_sort.sub1 j'1)) (rm Y ?_)))
  refine (Classical.em (j'1.null_=true)).elim (fun h3=>?_) (fun h3=>?_)
  ·exact rO Y h3 Y (rO Y h3 Y (rp Y (p_pkt Y Y h3 (tb (dT (p:=(j'1.null_=true)∨(t1.null_=true)) (Or.inl h3)).symm)) (rf Y U82 Y in_4 Y Y (Gkinds_sort.len j'1) (rq Y (u_st Y Y Y Y Y in_4 Y (nl (Gkinds_sort.len j'1)) (Upd.trans (Sub.refl _) (Gkinds_sort.upd1 j'1 (decide ((j'1.null_=true)∨(t1.null_=true)))) (Upd.refl ((Gkinds_sort.len ((Gkinds_sort.w1 j'1 (decide ((j'1.null_=true)∨(t1.null_=true)))))).trans (Gkinds_sort.len j'1).symm)))) (rend Y Y)))))
  exact rn Y (bfalse h3) Y (uf U82 Y in_4 Y (Gkinds_sort.len t1)) (rn Y (bfalse h3) Y (pl U4 Y (Gkinds_sort.sub1 t1)) (rp Y (p_pkf Y Y (bfalse h3) (tb ((bdec _).trans (or_l (q:=t1.null_=true) h3)))) (rf Y U82 Y in_4 Y Y (Gkinds_sort.len j'1) (rq Y (u_st Y Y Y Y Y in_4 Y (nl (Gkinds_sort.len j'1)) (Upd.trans (Sub.refl _) (Gkinds_sort.upd1 j'1 (decide ((j'1.null_=true)∨(t1.null_=true)))) (Upd.refl ((Gkinds_sort.len ((Gkinds_sort.w1 j'1 (decide ((j'1.null_=true)∨(t1.null_=true)))))).trans (Gkinds_sort.len j'1).symm)))) (rend Y Y)))))
 refine gen1 (fun s2'2=>(⟨[(2,.q 2 (0)),(4,.q 4 (0))],[(2,.pure (Gkinds_sort.cs s2'2)),(4,.pure (Gkinds_sort.cs Gkinds_sort.zero))],19⟩:TS)) H ?_
 intro s2'2 H
 refine sg 2 Y (rp Y (pL U82 Y in_82 (Sub.refl _) (Gkinds_sort.len s2'2)) (rq Y (u_sw Y Y in_82 (Gkinds_sort.len s2'2) (Gkinds_sort.len Gkinds_sort.zero)) (rz [4] [.q 4 (0)] [4] [.pure (Gkinds_sort.cs s2'2)] Y (QR ?_))))
 have z:=se H;subst z
 exact ⟨⟨rcw U82 Y in_82 Y (Gkinds_sort.len s2'2),trivial⟩,trivial⟩
noncomputable def g_kinds_joined_1_i0_l0 (kind0:Int) (t2:Vector Gkinds_sort 2) (t3:Int):Int×Gkinds_sort→Option ((Int×Gkinds_sort)⊕((Gkinds_sort×Int)⊕Gkinds_sort))
  | (t16_0,s8_0)=>(if t16_0 < ((List.take t3.toNat t2.toList).length:Int) then if 0≤t16_0∧t16_0 < ((List.take t3.toNat t2.toList).length:Int) then (g_kinds_sort_fits (lrd (List.take t3.toNat t2.toList) t16_0.toNat) kind0).bind fun r'1=>(if (!r'1)=true then some (.inr (.inl (Gkinds_sort.zero,(2:Int)))) else letO ({ s8_0 with null_:=(decide ((s8_0.null_=true)∨(((lrd (List.take t3.toNat t2.toList) t16_0.toNat).null_)=true))) }) fun s8'2=>some (.inl (w64 (t16_0+(1:Int)),s8'2))) else none else some (.inr (.inr s8_0)))
noncomputable def g_kinds_joined_1_i0 (kind0:Int) (gives1:Int) (t2:Vector Gkinds_sort 2) (t3:Int):Option (Gkinds_sort×Int) :=
  if 0≤t3∧t3≤(2:Int) then (loopO (g_kinds_joined_1_i0_l0 kind0 t2 t3) ((0:Int),{ Gkinds_sort.zero with kind_:=gives1 })).bind fun o'6=>match o'6 with | .inl y'7=>some y'7 | .inr (y'8)=>some (y'8,(0:Int)) else none
theorem g_kinds_joined_1_i0_ac {kind0:Int} {gives1:Int} {t2:Vector Gkinds_sort 2} {t3:Int} {r:Gkinds_sort×Int} (H:g_kinds_joined_1_i0 kind0 gives1 t2 t3=some r):ACp Tryz.prog 88 [(AV.int kind0),(AV.int gives1),.rptr (t2.toList.flatMap Gkinds_sort.cs) 0,.rptr ([(AV.int t3)]) 0] (.tup [(.agg (Gkinds_sort.cs r.1)),(AV.int r.2)]):=by
 refine ACp_of (AC2_of_body (vs:=[.g (Gkinds_sort.cs r.1),.i r.2]) Tryz.func88 Y Y (lb Y) Y ?_) (fun _=>.same _)
 unfold g_kinds_joined_1_i0 at H
 refine as2 [0,1,2,3] [.i kind0,.i gives1,.p (.rptr (t2.toList.flatMap Gkinds_sort.cs) (0)),.p (.rptr ([(AV.int t3)]) (0))] [] [] Y (sg 2 Y (rq Y (al 6 in_82 one_82 zc_82 Y) (ra Y (rz [0,1,2,3,6] [_,_,_,_,.q 6 (0)] [6] [.pure (Gkinds_sort.cs Gkinds_sort.zero)] Y (sg 4 Y (rm Y (rp Y (u_bld Y in_82 one_82 zc_82 pl_82 Y (af_cons Y Y (Gkinds_sort.upd0 Gkinds_sort.zero gives1) Y)) (rq Y (al 8 in_82 one_82 zc_82 Y) (rq Y (u_sw Y Y in_82 (Gkinds_sort.len ((Gkinds_sort.w0 Gkinds_sort.zero gives1))) (Gkinds_sort.len Gkinds_sort.zero)) (rz [0,2,3,6,8] [_,_,_,_,.q 8 (0)] [6,8] [_,.pure (Gkinds_sort.cs ((Gkinds_sort.w0 Gkinds_sort.zero gives1)))] Y (QS (sg 4 Y (rp Y (pl U3 Y (Sub.refl _)) (chkK H fun h1 H=>rp Y (u_cutar (g:=fun l=>l.flatMap Gkinds_sort.cs) (l:=t2.toList) Y Y U105 in_82 Y (Sub.refl _) (vlen _) (vfm_len Gkinds_sort.len t2) (bT_i h1.1 Y) (toNat_le h1) (g_fm Gkinds_sort.len)) (rp Y (p_lenl Y U138 Y Y) (rm Y (rz [0,6,8,14,15,16] [_,_,_,.p (Gkinds_sort.ls (List.take t3.toNat t2.toList)),.i ((List.take t3.toNat t2.toList).length:Int),.i 0] [6,8] [_,_] Y (QB (as2 [0,6,8,14,15,16] [_,_,_,_,_,_] [6,8] [_,_] Y (bindK H fun o'6 h7 H=>AW2_loopO (fun a'3:Int×Gkinds_sort=>(⟨[(0,.i kind0),(6,.q 6 (0)),(8,.q 8 (0)),(14,.p (Gkinds_sort.ls (List.take t3.toNat t2.toList))),(15,.i ((List.take t3.toNat t2.toList).length:Int)),(16,.i a'3.1)],[(6,.pure (Gkinds_sort.cs Gkinds_sort.zero)),(8,.pure (Gkinds_sort.cs a'3.2))],34⟩:TS)) (fun (o:(Gkinds_sort×Int)⊕Gkinds_sort) e s'=>match o with | .inl y'4=>e=Go.Exit.ret∧ResAll Tryz.prog s' [ResultVar.cell 6 82,ResultVar.tmp 7] [.g (Gkinds_sort.cs y'4.1),.i y'4.2]∧HFits s' [] | .inr (y'5)=>e=Go.Exit.exit 0∧s'=(⟨[(6,.q 6 (0)),(8,.q 8 (0))],[(6,.pure (Gkinds_sort.cs Gkinds_sort.zero)),(8,.pure (Gkinds_sort.cs y'5))],34⟩:TS)) h7 Y (fun a x hx=>?_) (fun e s' hs=>?_)))))))))))))))))))))
 ·clear H
  obtain ⟨t16_0,s8_0⟩:=a
  have H:=hx
  clear hx
  unfold g_kinds_joined_1_i0_l0 at H
  refine sg 1 Y (rp Y (pb Y Y) (rz [0,6,8,14,15,16,17] [.i kind0,.q 6 (0),.q 8 (0),.p (Gkinds_sort.ls (List.take t3.toNat t2.toList)),.i ((List.take t3.toNat t2.toList).length:Int),.i t16_0,.b (decide (t16_0 < ((List.take t3.toNat t2.toList).length:Int)))] [6,8] [.pure (Gkinds_sort.cs Gkinds_sort.zero),.pure (Gkinds_sort.cs s8_0)] Y (QS (if2 H Y (fun h2 H=>?_) (fun h2 H=>?_)))))
  ·refine as2 [0,6,8,14,15,16] [_,_,_,_,_,_] [6,8] [_,_] Y (QK (QS (QB (sg 4 Y (chkK H fun h3 H=>rp Y (u_ixl Y Y U138 in_82 Y Y (ixe h3) (ixn h3) (fne Gkinds_sort.len (by decide) (ixn h3))) (rp Y (pL U82 Y in_82 (Sub.fm default Gkinds_sort.len (ixn h3)) (Gkinds_sort.len (lrd (List.take t3.toNat t2.toList) t16_0.toNat))) (rq Y (al 10 in_82 one_82 zc_82 Y) (rq Y (u_sw Y Y in_82 (Gkinds_sort.len (lrd (List.take t3.toNat t2.toList) t16_0.toNat)) (Gkinds_sort.len Gkinds_sort.zero)) (rz [0,6,8,10,14,15,16] [_,_,_,.q 10 (0),_,_,_] [6,8,10] [_,_,.pure (Gkinds_sort.cs (lrd (List.take t3.toNat t2.toList) t16_0.toNat))] Y (QS (sg 4 Y (rp Y (pL U82 Y in_82 (Sub.refl _) (Gkinds_sort.len (lrd (List.take t3.toNat t2.toList) t16_0.toNat))) (rm Y (bindK H fun r'1 h4 H=>rp Y (pc Y Tryz.func89 Y (g_kinds_sort_fits_ac h4) Y) (rp Y (p_not Y Y) (rz [0,6,8,10,14,15,16,23] [_,_,_,_,_,_,_,.b (!r'1)] [6,8,10] [_,_,_] Y (AW2_cond Y (fun h5=>?_) (fun h5=>?_))))))))))))))))))
   ·replace H:=ite_then h5 H
    refine sg 3 Y (rp Y (u_bld Y in_82 one_82 zc_82 pl_82 Y Y) (rq Y (u_sw Y Y in_82 (Gkinds_sort.len Gkinds_sort.zero) (Gkinds_sort.len Gkinds_sort.zero)) (ra Y (rz [6,7] [.q 6 (0),.i 2] [6] [.pure (Gkinds_sort.cs Gkinds_sort.zero)] Y (QR ?_)))))
    have z:=se H;subst z
    exact ⟨Y,⟨rcw U82 Y in_82 Y (Gkinds_sort.len Gkinds_sort.zero),rt,trivial⟩,trivial⟩
   replace H:=ite_else (ne_true h5) H
   refine as2 [0,6,8,10,14,15,16] [.i kind0,.q 6 (0),.q 8 (0),.q 10 (0),.p (Gkinds_sort.ls (List.take t3.toNat t2.toList)),.i ((List.take t3.toNat t2.toList).length:Int),.i t16_0] [6,8,10] [.pure (Gkinds_sort.cs Gkinds_sort.zero),.pure (Gkinds_sort.cs s8_0),.pure (Gkinds_sort.cs (lrd (List.take t3.toNat t2.toList) t16_0.toNat))] Y (QK (AW2_mid (⟨[(0,.i kind0),(6,.q 6 (0)),(8,.q 8 (0)),(14,.p (Gkinds_sort.ls (List.take t3.toNat t2.toList))),(15,.i ((List.take t3.toNat t2.toList).length:Int)),(16,.i t16_0)],[(6,.pure (Gkinds_sort.cs Gkinds_sort.zero)),(8,.pure (Gkinds_sort.cs ((Gkinds_sort.w1 s8_0 (decide ((s8_0.null_=true)∨(((lrd (List.take t3.toNat t2.toList) t16_0.toNat).null_)=true)))))))],34⟩:TS) ?_ ?_))
   ·refine ar 8 Y (rf Y U82 Y in_4 Y Y (Gkinds_sort.len s8_0) (rp Y (pl U4 Y (Gkinds_sort.sub1 s8_0)) (rm Y ?_)))
    refine (Classical.em (s8_0.null_=true)).elim (fun h6=>?_) (fun h6=>?_)
    ·exact rO Y h6 Y (rO Y h6 Y (rp Y (p_pkt Y Y h6 (tb (dT (p:=(s8_0.null_=true)∨(((lrd (List.take t3.toNat t2.toList) t16_0.toNat).null_)=true)) (Or.inl h6)).symm)) (rf Y U82 Y in_4 Y Y (Gkinds_sort.len s8_0) (rq Y (u_st Y Y Y Y Y in_4 Y (nl (Gkinds_sort.len s8_0)) (Upd.trans (Sub.refl _) (Gkinds_sort.upd1 s8_0 (decide ((s8_0.null_=true)∨(((lrd (List.take t3.toNat t2.toList) t16_0.toNat).null_)=true)))) (Upd.refl ((Gkinds_sort.len ((Gkinds_sort.w1 s8_0 (decide ((s8_0.null_=true)∨(((lrd (List.take t3.toNat t2.toList) t16_0.toNat).null_)=true)))))).trans (Gkinds_sort.len s8_0).symm)))) (rend Y Y)))))
    exact rn Y (bfalse h6) Y (uf U82 Y in_4 Y (Gkinds_sort.len (lrd (List.take t3.toNat t2.toList) t16_0.toNat))) (rn Y (bfalse h6) Y (pl U4 Y (Gkinds_sort.sub1 (lrd (List.take t3.toNat t2.toList) t16_0.toNat))) (rp Y (p_pkf Y Y (bfalse h6) (tb ((bdec _).trans (or_l (q:=((lrd (List.take t3.toNat t2.toList) t16_0.toNat).null_)=true) h6)))) (rf Y U82 Y in_4 Y Y (Gkinds_sort.len s8_0) (rq Y (u_st Y Y Y Y Y in_4 Y (nl (Gkinds_sort.len s8_0)) (Upd.trans (Sub.refl _) (Gkinds_sort.upd1 s8_0 (decide ((s8_0.null_=true)∨(((lrd (List.take t3.toNat t2.toList) t16_0.toNat).null_)=true)))) (Upd.refl ((Gkinds_sort.len ((Gkinds_sort.w1 s8_0 (decide ((s8_0.null_=true)∨(((lrd (List.take t3.toNat t2.toList) t16_0.toNat).null_)=true)))))).trans (Gkinds_sort.len s8_0).symm)))) (rend Y Y)))))
   refine gen1 (fun s8'2=>(⟨[(0,.i kind0),(6,.q 6 (0)),(8,.q 8 (0)),(14,.p (Gkinds_sort.ls (List.take t3.toNat t2.toList))),(15,.i ((List.take t3.toNat t2.toList).length:Int)),(16,.i t16_0)],[(6,.pure (Gkinds_sort.cs Gkinds_sort.zero)),(8,.pure (Gkinds_sort.cs s8'2))],34⟩:TS)) H ?_
   intro s8'2 H
   refine ar 2 Y (rp Y (pb Y Y) (rm Y (rz [0,6,8,14,15,16] [.i kind0,.q 6 (0),.q 8 (0),.p (Gkinds_sort.ls (List.take t3.toNat t2.toList)),.i ((List.take t3.toNat t2.toList).length:Int),.i (w64 (t16_0+1))] [6,8] [.pure (Gkinds_sort.cs Gkinds_sort.zero),.pure (Gkinds_sort.cs s8'2)] Y ?_)))
   have z:=se H;subst z
   exact ⟨Y,Y⟩
  refine as2 [6,8] [_,_] [6,8] [_,_] Y (AW2_exit (thenQ2_exit ?_))
  have z:=se H;subst z
  exact ⟨Y,Y⟩
 rcases o'6 with y'7 | y'8
 ·obtain ⟨rfl,hs⟩:=hs
  refine ⟨by simp,?_⟩
  have z:=se H;subst z
  exact ⟨hs.1,hs.2⟩
 obtain ⟨rfl,rfl⟩:=hs
 refine ⟨by simp,?_⟩
 refine blockQ2_exit (sg 3 Y (rp Y (pL U82 Y in_82 (Sub.refl _) (Gkinds_sort.len y'8)) (rq Y (u_sw Y Y in_82 (Gkinds_sort.len y'8) (Gkinds_sort.len Gkinds_sort.zero)) (ra Y (rz [6,7] [.q 6 (0),.i 0] [6] [.pure (Gkinds_sort.cs y'8)] Y (QR ?_))))))
 have z:=se H;subst z
 exact ⟨⟨rcw U82 Y in_82 Y (Gkinds_sort.len y'8),rt,trivial⟩,trivial⟩
noncomputable def g_kinds_joined (op0:Int) (n1:Int) (l2:Vector Gkinds_sort 2):Option (Gkinds_sort×Int) :=
  ((if op0=(3:Int) then some (decide (op0=(3:Int))) else (if op0=(5:Int) then some (decide (op0=(5:Int))) else (if op0=(6:Int) then some (decide (op0=(6:Int))) else (if op0=(7:Int) then some (decide (op0=(7:Int))) else some (decide (op0=(8:Int)))))))).bind fun j'1=>(if j'1=true then (g_kinds_joined_1_i0 (2:Int) (2:Int) l2 n1).bind fun r'2=>some (r'2.1,r'2.2) else ((if op0=(4:Int) then some (decide (op0=(4:Int))) else (if op0=(15:Int) then some (decide (op0=(15:Int))) else some (decide (op0=(16:Int)))))).bind fun j'3=>(if j'3=true then (g_kinds_joined_1_i0 (1:Int) (1:Int) l2 n1).bind fun r'4=>some (r'4.1,r'4.2) else (if op0=(18:Int) then (g_kinds_joined_1_i0 (4:Int) (2:Int) l2 n1).bind fun r'5=>some (r'5.1,r'5.2) else (if op0=(19:Int) then (g_kinds_joined_1_i0 (4:Int) (4:Int) l2 n1).bind fun r'6=>some (r'6.1,r'6.2) else (if op0=(17:Int) then some ({ { Gkinds_sort.zero with kind_:=(1:Int) } with null_:=false },(0:Int)) else (g_kinds_sort_with (vrd l2 0) (vrd l2 1)).bind fun r'7=>((g_kinds_sort_fits (vrd l2 0) r'7.kind_).bind fun r'10=>(if (!r'10)=true then some true else (g_kinds_sort_fits (vrd l2 1) r'7.kind_).bind fun r'11=>some (!r'11))).bind fun g'12=>(if g'12=true then some (Gkinds_sort.zero,(2:Int)) else (if op0=(20:Int) then letO ({ { Gkinds_sort.zero with kind_:=r'7.kind_ } with null_:=(decide ((((vrd l2 0).null_)=true)∧(((vrd l2 1).null_)=true))) }) fun t6'13=>some (t6'13,(0:Int)) else letO ({ { Gkinds_sort.zero with kind_:=(1:Int) } with null_:=r'7.null_ }) fun t6'14=>some (t6'14,(0:Int)))))))))
theorem g_kinds_joined_ac {op0:Int} {n1:Int} {l2:Vector Gkinds_sort 2} {r:Gkinds_sort×Int} (H:g_kinds_joined op0 n1 l2=some r):ACp Tryz.prog 67 [(AV.int op0),(AV.int n1),(.agg (l2.toList.flatMap Gkinds_sort.cs))] (.tup [(.agg (Gkinds_sort.cs r.1)),(AV.int r.2)]):=by
 refine ACp_of (AC2_of_body (vs:=[.g (Gkinds_sort.cs r.1),.i r.2]) Tryz.func67 Y Y (lb Y) Y ?_) (fun _=>.same _)
 unfold g_kinds_joined at H
 refine as2 [0,1,2] [.i op0,.i n1,.g (l2.toList.flatMap Gkinds_sort.cs)] [] [] Y (sg 4 Y (rq Y (bx 4 Y) (rq Y (bx 5 Y) (rq Y (al 6 in_82 one_82 zc_82 Y) (ra Y (rz [0,4,5,6] [_,.q 4 (0),.q 5 (0),.q 6 (0)] [4,5,6] [.pure ([(AV.int n1)]),.pure (l2.toList.flatMap Gkinds_sort.cs),.pure (Gkinds_sort.cs Gkinds_sort.zero)] Y (sg 2 Y (rp Y (p_mkfn (caps:=[(.ptr 5 (0)),(.ptr 4 (0))]) Y ⟨⟨Y,Y⟩,⟨Y,Y⟩,trivial⟩) (ra Y (RunW_st [(0,.i op0),(5,.q 5 (0)),(6,.q 6 (0)),(8,.clo 88 [(.ptr 5 (0)),(.ptr 4 (0))])] [(4,.pure ([(AV.int n1)])),(5,.pure (l2.toList.flatMap Gkinds_sort.cs)),(6,.pure (Gkinds_sort.cs Gkinds_sort.zero))] Y ⟨TLes.same _,TLes.same _,TLes.same _,(fun _=>.same _),trivial⟩ ⟨Y,Y,Y,trivial⟩ (RunW_nil (QS (sg 1 Y (rm Y (RunW_st [(0,.i op0),(5,.q 5 (0)),(6,.q 6 (0)),(8,.clo 88 [(.ptr 5 (0)),(.ptr 4 (0))]),(11,.i op0)] [(4,.pure ([(AV.int n1)])),(5,.pure (l2.toList.flatMap Gkinds_sort.cs)),(6,.pure (Gkinds_sort.cs Gkinds_sort.zero))] Y ⟨TLes.same _,TLes.same _,TLes.same _,(fun _=>.same _),TLes.same _,trivial⟩ ⟨Y,Y,Y,trivial⟩ (RunW_nil (QB (QS (bindK H fun j'1 h1 H=>AW2_mid (⟨[(0,.i op0),(5,.q 5 (0)),(6,.q 6 (0)),(8,.clo 88 [(.ptr 5 (0)),(.ptr 4 (0))]),(11,.i op0),(12,.b j'1)],[(4,.pure ([(AV.int n1)])),(5,.pure (l2.toList.flatMap Gkinds_sort.cs)),(6,.pure (Gkinds_sort.cs Gkinds_sort.zero))],81⟩:TS) ?_ ?_)))))))))))))))))))
 ·clear H
  have H:=h1
  clear h1
  refine sg 2 Y (rp Y (pi Y) (ra Y (RunW_st [(0,.i op0),(5,.q 5 (0)),(6,.q 6 (0)),(8,.clo 88 [(.ptr 5 (0)),(.ptr 4 (0))]),(11,.i op0),(12,.b (decide (op0=3)))] [(4,.pure ([(AV.int n1)])),(5,.pure (l2.toList.flatMap Gkinds_sort.cs)),(6,.pure (Gkinds_sort.cs Gkinds_sort.zero))] Y ⟨TLes.same _,TLes.same _,TLes.same _,(fun _=>.same _),TLes.same _,TLes.same _,trivial⟩ ⟨Y,Y,Y,trivial⟩ (RunW_nil (if2 H Y (fun h2 H=>?_) (fun h2 H=>?_))))))
  ·refine QK ?_
   have z:=se H;subst z
   exact rfl
  refine sg 2 Y (rp Y (pi Y) (ra Y (RunW_st [(0,.i op0),(5,.q 5 (0)),(6,.q 6 (0)),(8,.clo 88 [(.ptr 5 (0)),(.ptr 4 (0))]),(11,.i op0),(12,.b (decide (op0=5)))] [(4,.pure ([(AV.int n1)])),(5,.pure (l2.toList.flatMap Gkinds_sort.cs)),(6,.pure (Gkinds_sort.cs Gkinds_sort.zero))] Y ⟨TLes.same _,TLes.same _,TLes.same _,(fun _=>.same _),TLes.same _,TLes.same _,trivial⟩ ⟨Y,Y,Y,trivial⟩ (RunW_nil (if2 H Y (fun h3 H=>?_) (fun h3 H=>?_))))))
  ·refine QK ?_
   have z:=se H;subst z
   exact rfl
  refine sg 2 Y (rp Y (pi Y) (ra Y (RunW_st [(0,.i op0),(5,.q 5 (0)),(6,.q 6 (0)),(8,.clo 88 [(.ptr 5 (0)),(.ptr 4 (0))]),(11,.i op0),(12,.b (decide (op0=6)))] [(4,.pure ([(AV.int n1)])),(5,.pure (l2.toList.flatMap Gkinds_sort.cs)),(6,.pure (Gkinds_sort.cs Gkinds_sort.zero))] Y ⟨TLes.same _,TLes.same _,TLes.same _,(fun _=>.same _),TLes.same _,TLes.same _,trivial⟩ ⟨Y,Y,Y,trivial⟩ (RunW_nil (if2 H Y (fun h4 H=>?_) (fun h4 H=>?_))))))
  ·refine QK ?_
   have z:=se H;subst z
   exact rfl
  refine sg 2 Y (rp Y (pi Y) (ra Y (RunW_st [(0,.i op0),(5,.q 5 (0)),(6,.q 6 (0)),(8,.clo 88 [(.ptr 5 (0)),(.ptr 4 (0))]),(11,.i op0),(12,.b (decide (op0=7)))] [(4,.pure ([(AV.int n1)])),(5,.pure (l2.toList.flatMap Gkinds_sort.cs)),(6,.pure (Gkinds_sort.cs Gkinds_sort.zero))] Y ⟨TLes.same _,TLes.same _,TLes.same _,(fun _=>.same _),TLes.same _,TLes.same _,trivial⟩ ⟨Y,Y,Y,trivial⟩ (RunW_nil (if2 H Y (fun h5 H=>?_) (fun h5 H=>?_))))))
  ·refine QK ?_
   have z:=se H;subst z
   exact rfl
  refine ar 2 Y (rp Y (pi Y) (ra Y (RunW_st [(0,.i op0),(5,.q 5 (0)),(6,.q 6 (0)),(8,.clo 88 [(.ptr 5 (0)),(.ptr 4 (0))]),(11,.i op0),(12,.b (decide (op0=8)))] [(4,.pure ([(AV.int n1)])),(5,.pure (l2.toList.flatMap Gkinds_sort.cs)),(6,.pure (Gkinds_sort.cs Gkinds_sort.zero))] Y ⟨TLes.same _,TLes.same _,TLes.same _,(fun _=>.same _),TLes.same _,TLes.same _,trivial⟩ ⟨Y,Y,Y,trivial⟩ (RunW_nil ?_))))
  have z:=se H;subst z
  exact rfl
 refine AW2_cond Y (fun h6=>?_) (fun h6=>?_)
 ·replace H:=ite_then h6 H
  refine sg 6 Y (rm Y (bindK H fun r'2 h7 H=>rp Y (p_callc Y Y Y Tryz.func88 Y Y (g_kinds_joined_1_i0_ac h7) (nlT (Gkinds_sort.nl r'2.1) (nlT Y Y)) ⟨lend_p Y,lend_p Y,lendc_ptr Y (nl (vfm_len Gkinds_sort.len l2)),lendc_ptr Y (List.cons_ne_nil _ _),trivial⟩) (rp Y (pe Y) (rp Y (pe Y) (rq Y (u_sw Y Y in_82 (Gkinds_sort.len r'2.1) (Gkinds_sort.len Gkinds_sort.zero)) (ra Y (rz [6,7] [.q 6 (0),.i r'2.2] [6] [.pure (Gkinds_sort.cs r'2.1)] Y (QR ?_))))))))
  have z:=se H;subst z
  exact ⟨⟨rcw U82 Y in_82 Y (Gkinds_sort.len r'2.1),rt,trivial⟩,trivial⟩
 replace H:=ite_else (ne_true h6) H
 refine QS (bindK H fun j'3 h8 H=>AW2_mid (⟨[(0,.i op0),(5,.q 5 (0)),(6,.q 6 (0)),(8,.clo 88 [(.ptr 5 (0)),(.ptr 4 (0))]),(11,.i op0),(22,.b j'3)],[(4,.pure ([(AV.int n1)])),(5,.pure (l2.toList.flatMap Gkinds_sort.cs)),(6,.pure (Gkinds_sort.cs Gkinds_sort.zero))],81⟩:TS) ?_ ?_)
 ·clear H
  have H:=h8
  clear h8
  refine sg 2 Y (rp Y (pi Y) (ra Y (RunW_st [(0,.i op0),(5,.q 5 (0)),(6,.q 6 (0)),(8,.clo 88 [(.ptr 5 (0)),(.ptr 4 (0))]),(11,.i op0),(22,.b (decide (op0=4)))] [(4,.pure ([(AV.int n1)])),(5,.pure (l2.toList.flatMap Gkinds_sort.cs)),(6,.pure (Gkinds_sort.cs Gkinds_sort.zero))] Y ⟨TLes.same _,TLes.same _,TLes.same _,(fun _=>.same _),TLes.same _,TLes.same _,trivial⟩ ⟨Y,Y,Y,trivial⟩ (RunW_nil (if2 H Y (fun h9 H=>?_) (fun h9 H=>?_))))))
  ·refine QK ?_
   have z:=se H;subst z
   exact rfl
  refine sg 2 Y (rp Y (pi Y) (ra Y (RunW_st [(0,.i op0),(5,.q 5 (0)),(6,.q 6 (0)),(8,.clo 88 [(.ptr 5 (0)),(.ptr 4 (0))]),(11,.i op0),(22,.b (decide (op0=15)))] [(4,.pure ([(AV.int n1)])),(5,.pure (l2.toList.flatMap Gkinds_sort.cs)),(6,.pure (Gkinds_sort.cs Gkinds_sort.zero))] Y ⟨TLes.same _,TLes.same _,TLes.same _,(fun _=>.same _),TLes.same _,TLes.same _,trivial⟩ ⟨Y,Y,Y,trivial⟩ (RunW_nil (if2 H Y (fun h10 H=>?_) (fun h10 H=>?_))))))
  ·refine QK ?_
   have z:=se H;subst z
   exact rfl
  refine ar 2 Y (rp Y (pi Y) (ra Y (RunW_st [(0,.i op0),(5,.q 5 (0)),(6,.q 6 (0)),(8,.clo 88 [(.ptr 5 (0)),(.ptr 4 (0))]),(11,.i op0),(22,.b (decide (op0=16)))] [(4,.pure ([(AV.int n1)])),(5,.pure (l2.toList.flatMap Gkinds_sort.cs)),(6,.pure (Gkinds_sort.cs Gkinds_sort.zero))] Y ⟨TLes.same _,TLes.same _,TLes.same _,(fun _=>.same _),TLes.same _,TLes.same _,trivial⟩ ⟨Y,Y,Y,trivial⟩ (RunW_nil ?_))))
  have z:=se H;subst z
  exact rfl
 refine AW2_cond Y (fun h11=>?_) (fun h11=>?_)
 ·replace H:=ite_then h11 H
  refine sg 6 Y (rm Y (bindK H fun r'4 h12 H=>rp Y (p_callc Y Y Y Tryz.func88 Y Y (g_kinds_joined_1_i0_ac h12) (nlT (Gkinds_sort.nl r'4.1) (nlT Y Y)) ⟨lend_p Y,lend_p Y,lendc_ptr Y (nl (vfm_len Gkinds_sort.len l2)),lendc_ptr Y (List.cons_ne_nil _ _),trivial⟩) (rp Y (pe Y) (rp Y (pe Y) (rq Y (u_sw Y Y in_82 (Gkinds_sort.len r'4.1) (Gkinds_sort.len Gkinds_sort.zero)) (ra Y (rz [6,7] [.q 6 (0),.i r'4.2] [6] [.pure (Gkinds_sort.cs r'4.1)] Y (QR ?_))))))))
  have z:=se H;subst z
  exact ⟨⟨rcw U82 Y in_82 Y (Gkinds_sort.len r'4.1),rt,trivial⟩,trivial⟩
 replace H:=ite_else (ne_true h11) H
 refine sg 2 Y (rp Y (pi Y) (ra Y (RunW_st [(0,.i op0),(5,.q 5 (0)),(6,.q 6 (0)),(8,.clo 88 [(.ptr 5 (0)),(.ptr 4 (0))]),(11,.i op0),(30,.b (decide (op0=18)))] [(4,.pure ([(AV.int n1)])),(5,.pure (l2.toList.flatMap Gkinds_sort.cs)),(6,.pure (Gkinds_sort.cs Gkinds_sort.zero))] Y ⟨TLes.same _,TLes.same _,TLes.same _,(fun _=>.same _),TLes.same _,TLes.same _,trivial⟩ ⟨Y,Y,Y,trivial⟩ (RunW_nil (if2 H Y (fun h13 H=>?_) (fun h13 H=>?_))))))
 ·refine sg 6 Y (rm Y (bindK H fun r'5 h14 H=>rp Y (p_callc Y Y Y Tryz.func88 Y Y (g_kinds_joined_1_i0_ac h14) (nlT (Gkinds_sort.nl r'5.1) (nlT Y Y)) ⟨lend_p Y,lend_p Y,lendc_ptr Y (nl (vfm_len Gkinds_sort.len l2)),lendc_ptr Y (List.cons_ne_nil _ _),trivial⟩) (rp Y (pe Y) (rp Y (pe Y) (rq Y (u_sw Y Y in_82 (Gkinds_sort.len r'5.1) (Gkinds_sort.len Gkinds_sort.zero)) (ra Y (rz [6,7] [.q 6 (0),.i r'5.2] [6] [.pure (Gkinds_sort.cs r'5.1)] Y (QR ?_))))))))
  have z:=se H;subst z
  exact ⟨⟨rcw U82 Y in_82 Y (Gkinds_sort.len r'5.1),rt,trivial⟩,trivial⟩
 refine sg 2 Y (rp Y (pi Y) (ra Y (RunW_st [(0,.i op0),(5,.q 5 (0)),(6,.q 6 (0)),(8,.clo 88 [(.ptr 5 (0)),(.ptr 4 (0))]),(11,.i op0),(36,.b (decide (op0=19)))] [(4,.pure ([(AV.int n1)])),(5,.pure (l2.toList.flatMap Gkinds_sort.cs)),(6,.pure (Gkinds_sort.cs Gkinds_sort.zero))] Y ⟨TLes.same _,TLes.same _,TLes.same _,(fun _=>.same _),TLes.same _,TLes.same _,trivial⟩ ⟨Y,Y,Y,trivial⟩ (RunW_nil (if2 H Y (fun h15 H=>?_) (fun h15 H=>?_))))))
 ·refine sg 6 Y (rm Y (bindK H fun r'6 h16 H=>rp Y (p_callc Y Y Y Tryz.func88 Y Y (g_kinds_joined_1_i0_ac h16) (nlT (Gkinds_sort.nl r'6.1) (nlT Y Y)) ⟨lend_p Y,lend_p Y,lendc_ptr Y (nl (vfm_len Gkinds_sort.len l2)),lendc_ptr Y (List.cons_ne_nil _ _),trivial⟩) (rp Y (pe Y) (rp Y (pe Y) (rq Y (u_sw Y Y in_82 (Gkinds_sort.len r'6.1) (Gkinds_sort.len Gkinds_sort.zero)) (ra Y (rz [6,7] [.q 6 (0),.i r'6.2] [6] [.pure (Gkinds_sort.cs r'6.1)] Y (QR ?_))))))))
  have z:=se H;subst z
  exact ⟨⟨rcw U82 Y in_82 Y (Gkinds_sort.len r'6.1),rt,trivial⟩,trivial⟩
 refine sg 2 Y (rp Y (pi Y) (ra Y (rz [0,5,6,42] [.i op0,.q 5 (0),.q 6 (0),.b (decide (op0=17))] [5,6] [.pure (l2.toList.flatMap Gkinds_sort.cs),.pure (Gkinds_sort.cs Gkinds_sort.zero)] Y (if2 H Y (fun h17 H=>?_) (fun h17 H=>?_)))))
 ·refine sg 3 Y (rp Y (u_bld Y in_82 one_82 zc_82 pl_82 Y (af_cons Y Y (Gkinds_sort.upd0 Gkinds_sort.zero 1) (af_cons Y Y (Gkinds_sort.upd1 ((Gkinds_sort.w0 Gkinds_sort.zero 1)) false) Y))) (rq Y (u_sw Y Y in_82 (Gkinds_sort.len ((Gkinds_sort.w1 (Gkinds_sort.w0 Gkinds_sort.zero 1) false))) (Gkinds_sort.len Gkinds_sort.zero)) (ra Y (rz [6,7] [_,.i 0] [6] [.pure (Gkinds_sort.cs ((Gkinds_sort.w1 (Gkinds_sort.w0 Gkinds_sort.zero 1) false)))] Y (QR ?_)))))
  have z:=se H;subst z
  exact ⟨⟨rcw U82 Y in_82 Y (Gkinds_sort.len ((Gkinds_sort.w1 (Gkinds_sort.w0 Gkinds_sort.zero 1) false))),rt,trivial⟩,trivial⟩
 refine as2 [0,5,6] [_,_,_] [5,6] [_,_] Y (QK (sg 7 Y (rp Y (u_ixp Y Y U105 in_82 Y Y (nl (vfm_len Gkinds_sort.len l2)) Y Y (by decide)) (rp Y (pL U82 Y in_82 ((Sub.refl _).trans (Sub.vfm Gkinds_sort.len (by decide))) (Gkinds_sort.len (vrd l2 0))) (rp Y (u_ixp Y Y U105 in_82 Y Y (nl (vfm_len Gkinds_sort.len l2)) Y Y (by decide)) (rp Y (pL U82 Y in_82 ((Sub.refl _).trans (Sub.vfm Gkinds_sort.len (by decide))) (Gkinds_sort.len (vrd l2 1))) (bindK H fun r'7 h18 H=>rp Y (pc Y Tryz.func90 Y (g_kinds_sort_with_ac h18) Y) (rq Y (al 9 in_82 one_82 zc_82 Y) (rq Y (u_sw Y Y in_82 (Gkinds_sort.len r'7) (Gkinds_sort.len Gkinds_sort.zero)) (rz [0,5,6,9] [_,_,_,.q 9 (0)] [5,6,9] [_,_,.pure (Gkinds_sort.cs r'7)] Y (QS (QS (bindK H fun g'12 h24 H=>AW2_mid (⟨[(0,.i op0),(5,.q 5 (0)),(6,.q 6 (0)),(9,.q 9 (0)),(63,.b g'12)],[(5,.pure (l2.toList.flatMap Gkinds_sort.cs)),(6,.pure (Gkinds_sort.cs Gkinds_sort.zero)),(9,.pure (Gkinds_sort.cs r'7))],81⟩:TS) ?_ ?_)))))))))))))
 ·clear H
  have H:=h24
  clear h24
  refine ar 14 Y (rp Y (u_ixp Y Y U105 in_82 Y Y (nl (vfm_len Gkinds_sort.len l2)) Y Y (by decide)) (rp Y (pL U82 Y in_82 ((Sub.refl _).trans (Sub.vfm Gkinds_sort.len (by decide))) (Gkinds_sort.len (vrd l2 0))) (rf Y U82 Y in_3 Y Y (Gkinds_sort.len r'7) (rp Y (pl U3 Y (Gkinds_sort.sub0 r'7)) (bindK H fun r'10 h21 H=>rp Y (pc Y Tryz.func89 Y (g_kinds_sort_fits_ac h21) Y) (rp Y (p_not Y Y) (rm Y (em2 H (fun h22 H=>?_) (fun h22 H=>?_)))))))))
  ·refine rO Y h22 Y (rO Y h22 Y (rO Y h22 Y (rO Y h22 Y (rO Y h22 Y (rO Y h22 Y (rp Y (p_pkt Y Y h22 (.same _)) (rs [0,5,6,9,63] [.i op0,.q 5 (0),.q 6 (0),.q 9 (0),.b true] [5,6,9] [.pure (l2.toList.flatMap Gkinds_sort.cs),.pure (Gkinds_sort.cs Gkinds_sort.zero),.pure (Gkinds_sort.cs r'7)] Y ?_)))))))
   have z:=se H;subst z
   exact RunW_nil rfl
  refine rn Y (bfalse h22) Y (u_ixp Y Y U105 in_82 Y Y (nl (vfm_len Gkinds_sort.len l2)) Y Y (by decide)) (rn Y (bfalse h22) Y (pL U82 Y in_82 ((Sub.refl _).trans (Sub.vfm Gkinds_sort.len (by decide))) (Gkinds_sort.len (vrd l2 1))) (rn Y (bfalse h22) Y (uf U82 Y in_3 Y (Gkinds_sort.len r'7)) (rn Y (bfalse h22) Y (pl U3 Y (Gkinds_sort.sub0 r'7)) (bindK H fun r'11 h23 H=>rn Y (bfalse h22) Y (pc Y Tryz.func89 Y (g_kinds_sort_fits_ac h23) Y) (rn Y (bfalse h22) Y (p_not Y Y) (rp Y (p_pkf Y Y (bfalse h22) (.same _)) (rs [0,5,6,9,63] [.i op0,.q 5 (0),.q 6 (0),.q 9 (0),.b (!r'11)] [5,6,9] [.pure (l2.toList.flatMap Gkinds_sort.cs),.pure (Gkinds_sort.cs Gkinds_sort.zero),.pure (Gkinds_sort.cs r'7)] Y ?_)))))))
  have z:=se H;subst z
  exact RunW_nil rfl
 refine AW2_cond Y (fun h25=>?_) (fun h25=>?_)
 ·replace H:=ite_then h25 H
  refine sg 3 Y (rp Y (u_bld Y in_82 one_82 zc_82 pl_82 Y Y) (rq Y (u_sw Y Y in_82 (Gkinds_sort.len Gkinds_sort.zero) (Gkinds_sort.len Gkinds_sort.zero)) (ra Y (rz [6,7] [.q 6 (0),.i 2] [6] [.pure (Gkinds_sort.cs Gkinds_sort.zero)] Y (QR ?_)))))
  have z:=se H;subst z
  exact ⟨⟨rcw U82 Y in_82 Y (Gkinds_sort.len Gkinds_sort.zero),rt,trivial⟩,trivial⟩
 replace H:=ite_else (ne_true h25) H
 refine as2 [0,5,6,9] [.i op0,.q 5 (0),.q 6 (0),.q 9 (0)] [5,6,9] [.pure (l2.toList.flatMap Gkinds_sort.cs),.pure (Gkinds_sort.cs Gkinds_sort.zero),.pure (Gkinds_sort.cs r'7)] Y (QK (QS (sg 2 Y (rm Y (rp Y (pi Y) (rz [5,6,9,66] [_,_,_,.b (decide (op0=20))] [5,6,9] [_,_,_] Y (if2 H Y (fun h26 H=>?_) (fun h26 H=>?_))))))))
 ·refine QS (AW2_mid (⟨[(6,.q 6 (0)),(7,.i 0)],[(6,.pure (Gkinds_sort.cs ((Gkinds_sort.w1 (Gkinds_sort.w0 Gkinds_sort.zero r'7.kind_) (decide ((((vrd l2 0).null_)=true)∧(((vrd l2 1).null_)=true)))))))],81⟩:TS) ?_ ?_)
  ·refine ar 13 Y (rf Y U82 Y in_3 Y Y (Gkinds_sort.len r'7) (rp Y (pl U3 Y (Gkinds_sort.sub0 r'7)) (rp Y (u_ixp Y Y U105 in_82 Y Y (nl (vfm_len Gkinds_sort.len l2)) Y Y (by decide)) (rf Y U82 Y in_4 Y Y (vfm_len Gkinds_sort.len l2) (rp Y (pl U4 Y (((Sub.refl _).trans (Sub.vfm Gkinds_sort.len (by decide))).trans (Gkinds_sort.sub1 (vrd l2 0)))) (rm Y ?_))))))
   refine (Classical.em (((vrd l2 0).null_)=true)).elim (fun h27=>?_) (fun h27=>?_)
   ·exact rn Y h27 Y (u_ixp Y Y U105 in_82 Y Y (nl (vfm_len Gkinds_sort.len l2)) Y Y (by decide)) (rn Y h27 Y (uf U82 Y in_4 Y (vfm_len Gkinds_sort.len l2)) (rn Y h27 Y (pl U4 Y (((Sub.refl _).trans (Sub.vfm Gkinds_sort.len (by decide))).trans (Gkinds_sort.sub1 (vrd l2 1)))) (rp Y (p_pkt Y Y h27 (tb ((bdec _).trans (and_l (q:=((vrd l2 1).null_)=true) h27)))) (rp Y (u_bld Y in_82 one_82 zc_82 pl_82 Y (af_cons Y Y (Gkinds_sort.upd0 Gkinds_sort.zero r'7.kind_) (af_cons Y Y (Gkinds_sort.upd1 ((Gkinds_sort.w0 Gkinds_sort.zero r'7.kind_)) (decide ((((vrd l2 0).null_)=true)∧(((vrd l2 1).null_)=true)))) Y))) (rq Y (u_sw Y Y in_82 (Gkinds_sort.len ((Gkinds_sort.w1 (Gkinds_sort.w0 Gkinds_sort.zero r'7.kind_) (decide ((((vrd l2 0).null_)=true)∧(((vrd l2 1).null_)=true)))))) (Gkinds_sort.len Gkinds_sort.zero)) (ra Y (rend Y Y)))))))
   exact rO Y (bfalse h27) Y (rO Y (bfalse h27) Y (rO Y (bfalse h27) Y (rp Y (p_pkf Y Y (bfalse h27) (tb (dF (p:=(((vrd l2 0).null_)=true)∧(((vrd l2 1).null_)=true)) (fun x=>h27 x.1)).symm)) (rp Y (u_bld Y in_82 one_82 zc_82 pl_82 Y (af_cons Y Y (Gkinds_sort.upd0 Gkinds_sort.zero r'7.kind_) (af_cons Y Y (Gkinds_sort.upd1 ((Gkinds_sort.w0 Gkinds_sort.zero r'7.kind_)) (decide ((((vrd l2 0).null_)=true)∧(((vrd l2 1).null_)=true)))) Y))) (rq Y (u_sw Y Y in_82 (Gkinds_sort.len ((Gkinds_sort.w1 (Gkinds_sort.w0 Gkinds_sort.zero r'7.kind_) (decide ((((vrd l2 0).null_)=true)∧(((vrd l2 1).null_)=true)))))) (Gkinds_sort.len Gkinds_sort.zero)) (ra Y (rend Y Y)))))))
  refine gen1 (fun t6'13=>(⟨[(6,.q 6 (0)),(7,.i 0)],[(6,.pure (Gkinds_sort.cs t6'13))],81⟩:TS)) H ?_
  intro t6'13 H
  refine QR ?_
  have z:=se H;subst z
  exact ⟨⟨rcw U82 Y in_82 Y (Gkinds_sort.len t6'13),rt,trivial⟩,trivial⟩
 refine as2 [6,9] [_,_] [6,9] [_,_] Y (QK (sg 5 Y (rf Y U82 Y in_4 Y Y (Gkinds_sort.len r'7) (rp Y (pl U4 Y (Gkinds_sort.sub1 r'7)) (rp Y (u_bld Y in_82 one_82 zc_82 pl_82 Y (af_cons Y Y (Gkinds_sort.upd0 Gkinds_sort.zero 1) (af_cons Y Y (Gkinds_sort.upd1 ((Gkinds_sort.w0 Gkinds_sort.zero 1)) r'7.null_) Y))) (rq Y (u_sw Y Y in_82 (Gkinds_sort.len ((Gkinds_sort.w1 (Gkinds_sort.w0 Gkinds_sort.zero 1) r'7.null_))) (Gkinds_sort.len Gkinds_sort.zero)) (ra Y (rz [6,7] [_,.i 0] [6] [.pure (Gkinds_sort.cs ((Gkinds_sort.w1 (Gkinds_sort.w0 Gkinds_sort.zero 1) r'7.null_)))] Y (gen1 (fun t6'14=>(⟨[(6,.q 6 (0)),(7,.i 0)],[(6,.pure (Gkinds_sort.cs t6'14))],81⟩:TS)) H ?_)))))))))
 intro t6'14 H
 refine QR ?_
 have z:=se H;subst z
 exact ⟨⟨rcw U82 Y in_82 Y (Gkinds_sort.len t6'14),rt,trivial⟩,trivial⟩
noncomputable def g_kinds_of_l0 (e0:GExpr) (cols1:List GColumn):Int→Option (Int⊕((Gkinds_sort×Int)⊕Unit))
  | t29_0=>(if t29_0 < (cols1.length:Int) then if 0≤t29_0∧t29_0 < (cols1.length:Int) then (if (lrd cols1 t29_0.toNat).Name=e0.Name then letO ({ { Gkinds_sort.zero with kind_:=(lrd cols1 t29_0.toNat).Kind } with null_:=(lrd cols1 t29_0.toNat).Null }) fun t4'2=>some (.inr (.inl (t4'2,(0:Int)))) else some (.inl (w64 (t29_0+(1:Int))))) else none else some (.inr (.inr ())))
noncomputable def g_kinds_of_l1 (e0:GExpr) (cols1:List GColumn) (R':GExpr→(List GColumn)→Option (Gkinds_sort×Int)):Int×(Vector Gkinds_sort 2)→Option ((Int×(Vector Gkinds_sort 2))⊕((Gkinds_sort×Int)⊕((Vector Gkinds_sort 2))))
  | (t48_1,l8_1)=>(if t48_1 < (e0.Args.length:Int) then if 0≤t48_1∧t48_1 < (e0.Args.length:Int) then (R' (lrd e0.Args t48_1.toNat) cols1).bind fun r'9=>(if r'9.2≠(0:Int) then some (.inr (.inl (Gkinds_sort.zero,r'9.2))) else if 0≤t48_1∧t48_1 < (2:Int) then some (.inl (w64 (t48_1+(1:Int)),(vwr l8_1 t48_1.toNat r'9.1))) else none) else none else some (.inr (.inr l8_1)))
noncomputable def g_kinds_of_b (R':GExpr→(List GColumn)→Option (Gkinds_sort×Int)) (e0:GExpr) (cols1:List GColumn):Option (Gkinds_sort×Int) :=
  (if e0.Op=(1:Int) then letO ({ { Gkinds_sort.zero with kind_:=e0.Value.Kind } with null_:=(decide (e0.Value.Kind=(0:Int))) }) fun t4'1=>some (t4'1,(0:Int)) else (if e0.Op=(2:Int) then (loopO (g_kinds_of_l0 e0 cols1) (0:Int)).bind fun o'6=>match o'6 with | .inl y'7=>some y'7 | .inr (y'8)=>some (Gkinds_sort.zero,(5:Int)) else (loopO (g_kinds_of_l1 e0 cols1 R') ((0:Int),(Vector.replicate 2 Gkinds_sort.zero))).bind fun o'13=>match o'13 with | .inl y'14=>some y'14 | .inr (y'15)=>(g_kinds_joined e0.Op (e0.Args.length:Int) y'15).bind fun r'16=>some (r'16.1,r'16.2)))
noncomputable def g_kinds_of:Nat→GExpr→(List GColumn)→Option (Gkinds_sort×Int)
  | 0,_,_=>none
  | fu+1,e0,cols1=>g_kinds_of_b (g_kinds_of fu) e0 cols1
theorem g_kinds_of_ac0 {R':GExpr→(List GColumn)→Option (Gkinds_sort×Int)} (hR:∀ {e0:GExpr} {cols1:List GColumn} {r:Gkinds_sort×Int},R' e0 cols1=some r→ACp Tryz.prog 43 [(.agg (GExpr.cs e0)),(GColumn.ls cols1)] (.tup [(.agg (Gkinds_sort.cs r.1)),(AV.int r.2)])) {e0:GExpr} {cols1:List GColumn} {r:Gkinds_sort×Int} (H:g_kinds_of_b R' e0 cols1=some r):ACp Tryz.prog 43 [(.agg (GExpr.cs e0)),(GColumn.ls cols1)] (.tup [(.agg (Gkinds_sort.cs r.1)),(AV.int r.2)]):=by
 refine ACp_of (AC2_of_body (vs:=[.g (Gkinds_sort.cs r.1),.i r.2]) Tryz.func43 Y Y (lb Y) Y ?_) (fun _=>.same _)
 unfold g_kinds_of_b at H
 refine as2 [0,1] [.g (GExpr.cs e0),.p (GColumn.ls cols1)] [] [] Y (sg 3 Y (rq Y (bx 2 Y) (rq Y (al 4 in_82 one_82 zc_82 Y) (ra Y (rz [1,2,4] [_,.q 2 (0),.q 4 (0)] [2,4] [.pure (GExpr.cs e0),.pure (Gkinds_sort.cs Gkinds_sort.zero)] Y (QS (sg 2 Y (rf Y U35 Y in_3 Y Y (GExpr.len e0) (rp Y (pl U3 Y (GExpr.sub0 e0)) (rz [1,2,4,14] [_,_,_,.i e0.Op] [2,4] [_,_] Y (QB (sg 2 Y (rp Y (pi Y) (ra Y (rz [1,2,4,14,15] [_,_,_,_,.b (decide (e0.Op=1))] [2,4] [_,_] Y (if2 H Y (fun h1 H=>?_) (fun h1 H=>?_)))))))))))))))))
 ·refine sg 10 Y (rf Y U35 Y in_32 Y Y (GExpr.len e0) (rf Y U32 Y in_3 Y Y (GExpr.len e0) (rp Y (pl U3 Y ((GExpr.sub1 e0).trans (GValue.sub0 e0.Value))) (rf Y U35 Y in_32 Y Y (GExpr.len e0) (rf Y U32 Y in_3 Y Y (GExpr.len e0) (rp Y (pl U3 Y ((GExpr.sub1 e0).trans (GValue.sub0 e0.Value))) (rp Y (pi Y) (rp Y (u_bld Y in_82 one_82 zc_82 pl_82 Y (af_cons Y Y (Gkinds_sort.upd0 Gkinds_sort.zero e0.Value.Kind) (af_cons Y Y (Gkinds_sort.upd1 ((Gkinds_sort.w0 Gkinds_sort.zero e0.Value.Kind)) (decide (e0.Value.Kind=0))) Y))) (rq Y (u_sw Y Y in_82 (Gkinds_sort.len ((Gkinds_sort.w1 (Gkinds_sort.w0 Gkinds_sort.zero e0.Value.Kind) (decide (e0.Value.Kind=0))))) (Gkinds_sort.len Gkinds_sort.zero)) (ra Y (rz [4,5] [_,.i 0] [4] [.pure (Gkinds_sort.cs ((Gkinds_sort.w1 (Gkinds_sort.w0 Gkinds_sort.zero e0.Value.Kind) (decide (e0.Value.Kind=0)))))] Y (gen1 (fun t4'1=>(⟨[(4,.q 4 (0)),(5,.i 0)],[(4,.pure (Gkinds_sort.cs t4'1))],76⟩:TS)) H ?_))))))))))))
  intro t4'1 H
  refine QR ?_
  have z:=se H;subst z
  exact ⟨⟨rcw U82 Y in_82 Y (Gkinds_sort.len t4'1),rt,trivial⟩,trivial⟩
 refine sg 2 Y (rp Y (pi Y) (ra Y (rz [1,2,4,25] [_,_,_,.b (decide (e0.Op=2))] [2,4] [_,_] Y (if2 H Y (fun h2 H=>?_) (fun h2 H=>?_)))))
 ·refine QS (sg 3 Y (rm Y (rp Y (p_lenl Y U22 Y Y) (rm Y (rz [2,4,27,28,29] [_,_,.p (GColumn.ls cols1),.i (cols1.length:Int),.i 0] [2,4] [_,_] Y (QB (as2 [2,4,27,28,29] [_,_,_,_,_] [2,4] [_,_] Y (bindK H fun o'6 h6 H=>AW2_loopO (fun a'3:Int=>(⟨[(2,.q 2 (0)),(4,.q 4 (0)),(27,.p (GColumn.ls cols1)),(28,.i (cols1.length:Int)),(29,.i a'3)],[(2,.pure (GExpr.cs e0)),(4,.pure (Gkinds_sort.cs Gkinds_sort.zero))],76⟩:TS)) (fun (o:(Gkinds_sort×Int)⊕Unit) e s'=>match o with | .inl y'4=>e=Go.Exit.ret∧ResAll Tryz.prog s' [ResultVar.cell 4 82,ResultVar.tmp 5] [.g (Gkinds_sort.cs y'4.1),.i y'4.2]∧HFits s' [] | .inr (y'5)=>e=Go.Exit.exit 1∧s'=(⟨[(4,.q 4 (0))],[(4,.pure (Gkinds_sort.cs Gkinds_sort.zero))],76⟩:TS)) h6 Y (fun t29_0 x hx=>?_) (fun e s' hs=>?_)))))))))
  ·clear H
   have H:=hx
   clear hx
   unfold g_kinds_of_l0 at H
   refine sg 1 Y (rp Y (pb Y Y) (rz [2,4,27,28,29,30] [.q 2 (0),.q 4 (0),.p (GColumn.ls cols1),.i (cols1.length:Int),.i t29_0,.b (decide (t29_0 < (cols1.length:Int)))] [2,4] [.pure (GExpr.cs e0),.pure (Gkinds_sort.cs Gkinds_sort.zero)] Y (QS (if2 H Y (fun h3 H=>?_) (fun h3 H=>?_)))))
   ·refine as2 [2,4,27,28,29] [_,_,_,_,_] [2,4] [_,_] Y (QK (QS (QB (sg 4 Y (chkK H fun h4 H=>rp Y (u_ixl Y Y U22 in_63 Y Y (ixe h4) (ixn h4) (fne GColumn.len (by decide) (ixn h4))) (rp Y (pL U63 Y in_63 (Sub.fm default GColumn.len (ixn h4)) (GColumn.len (lrd cols1 t29_0.toNat))) (rq Y (al 7 in_63 one_63 zc_63 Y) (rq Y (u_sw Y Y in_63 (GColumn.len (lrd cols1 t29_0.toNat)) (GColumn.len GColumn.zero)) (rz [2,4,7,27,28,29] [_,_,.q 7 (0),_,_,_] [2,4,7] [_,_,.pure (GColumn.cs (lrd cols1 t29_0.toNat))] Y (sg 5 Y (rf Y U63 Y in_9 Y Y (GColumn.len (lrd cols1 t29_0.toNat)) (rp Y (pl U9 Y (GColumn.sub0 (lrd cols1 t29_0.toNat))) (rf Y U35 Y in_9 Y Y (GExpr.len e0) (rp Y (pl U9 Y (GExpr.sub2 e0)) (rp Y (p_seq Y Y Y) (rz [2,4,7,27,28,29,37] [_,_,_,_,_,_,.b (decide ((lrd cols1 t29_0.toNat).Name=e0.Name))] [2,4,7] [_,_,_] Y (if2 H Y (fun h5 H=>?_) (fun h5 H=>?_))))))))))))))))))
    ·refine sg 7 Y (rf Y U63 Y in_3 Y Y (GColumn.len (lrd cols1 t29_0.toNat)) (rp Y (pl U3 Y (GColumn.sub1 (lrd cols1 t29_0.toNat))) (rf Y U63 Y in_4 Y Y (GColumn.len (lrd cols1 t29_0.toNat)) (rp Y (pl U4 Y (GColumn.sub2 (lrd cols1 t29_0.toNat))) (rp Y (u_bld Y in_82 one_82 zc_82 pl_82 Y (af_cons Y Y (Gkinds_sort.upd0 Gkinds_sort.zero ((lrd cols1 t29_0.toNat).Kind)) (af_cons Y Y (Gkinds_sort.upd1 ((Gkinds_sort.w0 Gkinds_sort.zero ((lrd cols1 t29_0.toNat).Kind))) ((lrd cols1 t29_0.toNat).Null)) Y))) (rq Y (u_sw Y Y in_82 (Gkinds_sort.len ((Gkinds_sort.w1 (Gkinds_sort.w0 Gkinds_sort.zero ((lrd cols1 t29_0.toNat).Kind)) ((lrd cols1 t29_0.toNat).Null)))) (Gkinds_sort.len Gkinds_sort.zero)) (ra Y (rz [4,5] [_,.i 0] [4] [.pure (Gkinds_sort.cs ((Gkinds_sort.w1 (Gkinds_sort.w0 Gkinds_sort.zero ((lrd cols1 t29_0.toNat).Kind)) ((lrd cols1 t29_0.toNat).Null))))] Y (gen1 (fun t4'2=>(⟨[(4,.q 4 (0)),(5,.i 0)],[(4,.pure (Gkinds_sort.cs t4'2))],76⟩:TS)) H ?_)))))))))
     intro t4'2 H
     refine QR ?_
     have z:=se H;subst z
     exact ⟨Y,⟨rcw U82 Y in_82 Y (Gkinds_sort.len t4'2),rt,trivial⟩,trivial⟩
    refine as2 [2,4,27,28,29] [_,_,_,_,_] [2,4] [_,_] Y (QK (ar 2 Y (rp Y (pb Y Y) (rm Y (rz [2,4,27,28,29] [_,_,_,_,.i (w64 (t29_0+1))] [2,4] [_,_] Y ?_)))))
    have z:=se H;subst z
    exact ⟨Y,Y⟩
   refine as2 [4] [_] [4] [_] Y (AW2_exit (thenQ2_exit ?_))
   have z:=se H;subst z
   exact ⟨Y,Y⟩
  rcases o'6 with y'7 | y'8
  ·obtain ⟨rfl,hs⟩:=hs
   refine ⟨by simp,?_⟩
   have z:=se H;subst z
   exact ⟨hs.1,hs.2⟩
  obtain ⟨rfl,rfl⟩:=hs
  refine ⟨by simp,?_⟩
  refine blockQ2_exit (sg 3 Y (rp Y (u_bld Y in_82 one_82 zc_82 pl_82 Y Y) (rq Y (u_sw Y Y in_82 (Gkinds_sort.len Gkinds_sort.zero) (Gkinds_sort.len Gkinds_sort.zero)) (ra Y (rz [4,5] [.q 4 (0),.i 5] [4] [.pure (Gkinds_sort.cs Gkinds_sort.zero)] Y (QR ?_))))))
  have z:=se H;subst z
  exact ⟨⟨rcw U82 Y in_82 Y (Gkinds_sort.len Gkinds_sort.zero),rt,trivial⟩,trivial⟩
 refine as2 [1,2,4] [_,_,_] [2,4] [_,_] Y (QK (sg 1 Y (rq Y (al 8 in_105 one_105 zc_105 Y) (rz [1,2,4,8] [_,_,_,.q 8 (0)] [2,4,8] [_,_,.pure (((Vector.replicate 2 Gkinds_sort.zero).toList).flatMap Gkinds_sort.cs)] Y (QS (sg 4 Y (rf Y U35 Y in_33 Y Y (GExpr.len e0) (rp Y (pl U33 Y (GExpr.sub3 e0)) (rp Y (p_lenl Y U33 Y Y) (rm Y (rz [1,2,4,8,46,47,48] [_,_,_,_,.p (GExpr.ls e0.Args),.i (e0.Args.length:Int),.i 0] [2,4,8] [_,_,_] Y (QB (as2 [1,2,4,8,46,47,48] [_,_,_,_,_,_,_] [2,4,8] [_,_,_] Y (bindK H fun o'13 h12 H=>AW2_loopO (fun a'10:Int×(Vector Gkinds_sort 2)=>(⟨[(1,.p (GColumn.ls cols1)),(2,.q 2 (0)),(4,.q 4 (0)),(8,.q 8 (0)),(46,.p (GExpr.ls e0.Args)),(47,.i (e0.Args.length:Int)),(48,.i a'10.1)],[(2,.pure (GExpr.cs e0)),(4,.pure (Gkinds_sort.cs Gkinds_sort.zero)),(8,.pure (a'10.2.toList.flatMap Gkinds_sort.cs))],76⟩:TS)) (fun (o:(Gkinds_sort×Int)⊕((Vector Gkinds_sort 2))) e s'=>match o with | .inl y'11=>e=Go.Exit.ret∧ResAll Tryz.prog s' [ResultVar.cell 4 82,ResultVar.tmp 5] [.g (Gkinds_sort.cs y'11.1),.i y'11.2]∧HFits s' [] | .inr (y'12)=>e=Go.Exit.exit 3∧s'=(⟨[(2,.q 2 (0)),(4,.q 4 (0)),(8,.q 8 (0))],[(2,.pure (GExpr.cs e0)),(4,.pure (Gkinds_sort.cs Gkinds_sort.zero)),(8,.pure (y'12.toList.flatMap Gkinds_sort.cs))],76⟩:TS)) h12 Y (fun a x hx=>?_) (fun e s' hs=>?_)))))))))))))))
 ·clear H
  obtain ⟨t48_1,l8_1⟩:=a
  have H:=hx
  clear hx
  unfold g_kinds_of_l1 at H
  refine sg 1 Y (rp Y (pb Y Y) (rz [1,2,4,8,46,47,48,49] [.p (GColumn.ls cols1),.q 2 (0),.q 4 (0),.q 8 (0),.p (GExpr.ls e0.Args),.i (e0.Args.length:Int),.i t48_1,.b (decide (t48_1 < (e0.Args.length:Int)))] [2,4,8] [.pure (GExpr.cs e0),.pure (Gkinds_sort.cs Gkinds_sort.zero),.pure (l8_1.toList.flatMap Gkinds_sort.cs)] Y (QS (if2 H Y (fun h7 H=>?_) (fun h7 H=>?_)))))
  ·refine as2 [1,2,4,8,46,47,48] [_,_,_,_,_,_,_] [2,4,8] [_,_,_] Y (QK (QS (QB (sg 6 Y (rm Y (chkK H fun h8 H=>rp Y (u_ixl Y Y U33 in_35 Y Y (ixe h8) (ixn h8) (fne GExpr.len (by decide) (ixn h8))) (rp Y (pL U35 Y in_35 (Sub.fm default GExpr.len (ixn h8)) (GExpr.len (lrd e0.Args t48_1.toNat))) (rq Y (al 10 in_35 one_35 zc_35 Y) (ra Y (rq Y (u_sw Y Y in_35 (GExpr.len (lrd e0.Args t48_1.toNat)) (GExpr.len GExpr.zero)) (rz [1,2,4,8,9,10,46,47,48] [_,_,_,_,.i t48_1,.q 10 (0),_,_,_] [2,4,8,10] [_,_,_,.pure (GExpr.cs (lrd e0.Args t48_1.toNat))] Y (sg 9 Y (rp Y (pL U35 Y in_35 (Sub.refl _) (GExpr.len (lrd e0.Args t48_1.toNat))) (rm Y (bindK H fun r'9 h9 H=>rp Y (pc Y Tryz.func43 Y (hR h9) Y) (rm Y (rp Y (pe Y) (rp Y (pe Y) (rq Y (al 11 in_82 one_82 zc_82 Y) (rq Y (u_sw Y Y in_82 (Gkinds_sort.len r'9.1) (Gkinds_sort.len Gkinds_sort.zero)) (ra Y ?_)))))))))))))))))))))
   refine rz [1,2,4,8,9,11,12,46,47,48] [_,_,_,_,_,.q 11 (0),.i r'9.2,_,_,_] [2,4,8,11] [_,_,_,.pure (Gkinds_sort.cs r'9.1)] Y (QS (sg 2 Y (rm Y (rp Y (pn Y) (rz [1,2,4,8,9,11,12,46,47,48,60] [_,_,_,_,_,_,_,_,_,_,.b (decide (r'9.2≠0))] [2,4,8,11] [_,_,_,_] Y (if2 H Y (fun h10 H=>?_) (fun h10 H=>?_)))))))
   ·refine sg 4 Y (rp Y (u_bld Y in_82 one_82 zc_82 pl_82 Y Y) (rm Y (rq Y (u_sw Y Y in_82 (Gkinds_sort.len Gkinds_sort.zero) (Gkinds_sort.len Gkinds_sort.zero)) (ra Y (rz [4,5] [_,.i r'9.2] [4] [_] Y (QR ?_))))))
    have z:=se H;subst z
    exact ⟨Y,⟨rcw U82 Y in_82 Y (Gkinds_sort.len Gkinds_sort.zero),rt,trivial⟩,trivial⟩
   refine as2 [1,2,4,8,9,11,46,47,48] [_,_,_,_,_,_,_,_,_] [2,4,8,11] [_,_,_,_] Y (QK (ar 4 Y (rm Y (rp Y (pL U82 Y in_82 (Sub.refl _) (Gkinds_sort.len r'9.1)) (chkK H fun h11 H=>rp Y (u_ixp Y Y U105 in_82 Y Y (nl (vfm_len Gkinds_sort.len l8_1)) Y (ixe h11) (ixn h11)) (rq Y (u_st Y Y Y Y Y in_82 (Gkinds_sort.len r'9.1) (nl (vfm_len Gkinds_sort.len l8_1)) (Upd.trans (Sub.refl _) (Upd.vfm Gkinds_sort.len (ixn h11)) (Upd.refl ((vfm_len Gkinds_sort.len (vwr l8_1 t48_1.toNat r'9.1)).trans (vfm_len Gkinds_sort.len l8_1).symm)))) (rz [1,2,4,8,46,47,48] [_,_,_,_,_,_,_] [2,4,8] [_,_,.pure (((vwr l8_1 t48_1.toNat r'9.1).toList).flatMap Gkinds_sort.cs)] Y (ar 2 Y (rp Y (pb Y Y) (rm Y (rz [1,2,4,8,46,47,48] [_,_,_,_,_,_,.i (w64 (t48_1+1))] [2,4,8] [_,_,_] Y ?_)))))))))))
   have z:=se H;subst z
   exact ⟨Y,Y⟩
  refine as2 [2,4,8] [_,_,_] [2,4,8] [_,_,_] Y (AW2_exit (thenQ2_exit ?_))
  have z:=se H;subst z
  exact ⟨Y,Y⟩
 rcases o'13 with y'14 | y'15
 ·obtain ⟨rfl,hs⟩:=hs
  refine ⟨by simp,?_⟩
  have z:=se H;subst z
  exact ⟨hs.1,hs.2⟩
 obtain ⟨rfl,rfl⟩:=hs
 refine ⟨by simp,?_⟩
 refine blockQ2_exit (sg 11 Y (rf Y U35 Y in_3 Y Y (GExpr.len e0) (rp Y (pl U3 Y (GExpr.sub0 e0)) (rf Y U35 Y in_33 Y Y (GExpr.len e0) (rp Y (pl U33 Y (GExpr.sub3 e0)) (rp Y (p_lenl Y U33 Y Y) (rp Y (pL U105 Y in_105 (Sub.refl _) (vfm_len Gkinds_sort.len y'15)) (bindK H fun r'16 h13 H=>rp Y (pc Y Tryz.func67 Y (g_kinds_joined_ac h13) Y) (rp Y (pe Y) (rp Y (pe Y) (rq Y (u_sw Y Y in_82 (Gkinds_sort.len r'16.1) (Gkinds_sort.len Gkinds_sort.zero)) (ra Y (rz [4,5] [.q 4 (0),.i r'16.2] [4] [.pure (Gkinds_sort.cs r'16.1)] Y (QR ?_))))))))))))))
 have z:=se H;subst z
 exact ⟨⟨rcw U82 Y in_82 Y (Gkinds_sort.len r'16.1),rt,trivial⟩,trivial⟩
theorem g_kinds_of_acN:∀ (fu:Nat) {e0:GExpr} {cols1:List GColumn} {r:Gkinds_sort×Int},g_kinds_of fu e0 cols1=some r→ACp Tryz.prog 43 [(.agg (GExpr.cs e0)),(GColumn.ls cols1)] (.tup [(.agg (Gkinds_sort.cs r.1)),(AV.int r.2)])
 | 0,_,_,_,H=>(by cases H)
 | fu+1,_,_,_,H=>g_kinds_of_ac0 (g_kinds_of_acN fu) H
theorem g_kinds_of_ac {e0:GExpr} {cols1:List GColumn} {r:Gkinds_sort×Int} (H:g_kinds_of 100000 e0 cols1=some r):ACp Tryz.prog 43 [(.agg (GExpr.cs e0)),(GColumn.ls cols1)] (.tup [(.agg (Gkinds_sort.cs r.1)),(AV.int r.2)]):=g_kinds_of_acN 100000 H
def g_kinds_Of_r10:List (List (Nat×Option Nat)):=[[(9,none)],[(29,some 0)],[(9,none)],[(31,some 2)],[(30,some 1)]]
def g_kinds_Of_r10c:List (List Nat):=[[],[0],[],[2],[0,1],[0,1,2,3,4],[0,1,2,3,4,5]]
noncomputable def g_kinds_Of (e0:GExpr) (cols1:List GColumn):Option (Int×Bool×Int) :=
  (g_expr_Check e0).bind fun r'1=>(if r'1≠(0:Int) then some ((0:Int),false,r'1) else (g_kinds_Columns cols1).bind fun r'2=>(if r'2≠(0:Int) then some ((0:Int),false,r'2) else (g_kinds_of 100000 e0 cols1).bind fun r'3=>(if r'3.2≠(0:Int) then some ((0:Int),false,r'3.2) else some (r'3.1.kind_,r'3.1.null_,(0:Int)))))
theorem g_kinds_Of_ac {e0:GExpr} {cols1:List GColumn} {r:Int×Bool×Int} (H:g_kinds_Of e0 cols1=some r):ACp Tryz.prog 29 [(.agg (GExpr.cs e0)),(GColumn.ls cols1)] (.tup [(AV.int r.1),(AV.bool r.2.1),(AV.int r.2.2)]):=by
 refine ACp_of (AC2_of_body (vs:=[.i r.1,.b r.2.1,.i r.2.2]) Tryz.func29 Y Y (lb Y) Y ?_) (fun _=>.same _)
 unfold g_kinds_Of at H
 refine as2 [0,1] [.g (GExpr.cs e0),.p (GColumn.ls cols1)] [] [] Y (sg 4 Y (rq Y (bx 2 Y) (ra Y (ra Y (ra Y (rz [1,2] [_,.q 2 (0)] [2] [.pure (GExpr.cs e0)] Y (QS (sg 3 Y (rp Y (pL U35 Y in_35 (Sub.refl _) (GExpr.len e0)) (bindK H fun r'1 h1 H=>rp Y (pc Y Tryz.func42 Y (g_expr_Check_ac h1) Y) (ra Y (rz [1,2,7] [_,_,.i r'1] [2] [_] Y (sg 2 Y (rm Y (rp Y (pn Y) (rz [1,2,7,13] [_,_,_,.b (decide (r'1≠0))] [2] [_] Y (if2 H Y (fun h2 H=>?_) (fun h2 H=>?_))))))))))))))))))
 ·refine sg 4 Y (rm Y (ra Y (ra Y (ra Y (rz [4,5,6] [.i 0,.b false,.i r'1] [] [] Y (QR ?_))))))
  have z:=se H;subst z
  exact ⟨⟨rt,rt,rt,trivial⟩,trivial⟩
 refine as2 [1,2] [_,_] [2] [_] Y (QK (QS (sg 3 Y (rm Y (bindK H fun r'2 h3 H=>rp Y (pc Y Tryz.func28 Y (g_kinds_Columns_ac h3) Y) (ra Y (rz [1,2,8] [_,_,.i r'2] [2] [_] Y (sg 2 Y (rm Y (rp Y (pn Y) (rz [1,2,8,18] [_,_,_,.b (decide (r'2≠0))] [2] [_] Y (if2 H Y (fun h4 H=>?_) (fun h4 H=>?_)))))))))))))
 ·refine sg 4 Y (rm Y (ra Y (ra Y (ra Y (rz [4,5,6] [.i 0,.b false,.i r'2] [] [] Y (QR ?_))))))
  have z:=se H;subst z
  exact ⟨⟨rt,rt,rt,trivial⟩,trivial⟩
 refine as2 [1,2] [_,_] [2] [_] Y (QK (sg 9 Y (rp Y (pL U35 Y in_35 (Sub.refl _) (GExpr.len e0)) (rm Y (bindK H fun r'3 h5 H=>rp Y (pc Y Tryz.func43 Y (g_kinds_of_ac h5) Y) (rm Y (rp Y (pe Y) (rp Y (pe Y) (rq Y (al 9 in_82 one_82 zc_82 Y) (rq Y (u_sw Y Y in_82 (Gkinds_sort.len r'3.1) (Gkinds_sort.len Gkinds_sort.zero)) (ra Y (rz [6,9] [.i r'3.2,.q 9 (0)] [9] [.pure (Gkinds_sort.cs r'3.1)] Y (QS (sg 2 Y (rm Y (rp Y (pn Y) (rz [6,9,27] [_,_,.b (decide (r'3.2≠0))] [9] [_] Y (if2 H Y (fun h6 H=>?_) (fun h6 H=>?_)))))))))))))))))))
 ·refine sg 4 Y (rm Y (ra Y (ra Y (ra Y (rz [4,5,6] [.i 0,.b false,_] [] [] Y (QR ?_))))))
  have z:=se H;subst z
  exact ⟨⟨rt,rt,rt,trivial⟩,trivial⟩
 refine as2 [9] [_] [9] [_] Y (QK (QS (AW2_ghoQ (AW2_draw 5 [5,6] (fun k=>([.q 9 (0+0),.i r'3.1.kind_,.q 9 (0+1),.b r'3.1.null_,.i r'3.1.kind_]:List TV).getD k TV.any) (fun k=>g_kinds_Of_r10.getD k []) [(4,some 4),(32,some 3)] [] (fun k=>g_kinds_Of_r10c.getD k []) mixed (by kernel_rfl) Y Y (a_op (g_x Y (x_p Y (uf U82 Y in_3 Y (Gkinds_sort.len r'3.1)) Y)) (a_op (g_x Y (x_p Y (pl U3 Y (Gkinds_sort.sub0 r'3.1)) Y)) (a_op (g_x Y (x_p Y (uf U82 Y in_4 Y (Gkinds_sort.len r'3.1)) Y)) (a_op (g_x Y (x_p Y (pl U4 Y (Gkinds_sort.sub1 r'3.1)) Y)) (a_op (g_x Y (x_p Y (p_asg Y Y) Y)) (a_nil)))))) (t_op Y Y (PureD.opD (p_asg Y Y)) (t_op Y Y (PureD.opD (p_asg Y Y)) (t_gho (Gho_st (L:=[(4,.i r'3.1.kind_),(5,.b r'3.1.null_),(6,.i 0)]) (H:=[]) (N:=33) Y ⟨TLes.same _,TLes.same _,TLes.same _,trivial⟩ trivial) (QR ?_))))))))
 have z:=se H;subst z
 exact ⟨⟨rt,rt,rt,trivial⟩,trivial⟩
noncomputable def g_table_Condition (e0:GExpr) (cols1:List GColumn):Option (Int) :=
  (g_table_none e0).bind fun r'1=>(if r'1=true then (g_kinds_Columns cols1).bind fun r'2=>some r'2 else (g_kinds_Of e0 cols1).bind fun r'3=>(if ((r'3.2.2=(0:Int))∧(r'3.1≠(1:Int)))∧(r'3.1≠(0:Int)) then some (2:Int) else some r'3.2.2))
theorem g_table_Condition_ac {e0:GExpr} {cols1:List GColumn} {r:Int} (H:g_table_Condition e0 cols1=some r):ACp Tryz.prog 11 [(.agg (GExpr.cs e0)),(GColumn.ls cols1)] (AV.int r):=by
 refine ACp_of (AC2_of_body (vs:=[.i r]) Tryz.func11 Y Y (lb Y) Y ?_) (fun _=>.same _)
 unfold g_table_Condition at H
 refine as2 [0,1] [.g (GExpr.cs e0),.p (GColumn.ls cols1)] [] [] Y (sg 2 Y (rq Y (bx 2 Y) (ra Y (rz [1,2] [_,.q 2 (0)] [2] [.pure (GExpr.cs e0)] Y (QS (sg 2 Y (rp Y (pL U35 Y in_35 (Sub.refl _) (GExpr.len e0)) (bindK H fun r'1 h1 H=>rp Y (pc Y Tryz.func27 Y (g_table_none_ac h1) Y) (rz [1,2,9] [_,_,.b r'1] [2] [_] Y (AW2_cond Y (fun h2=>?_) (fun h2=>?_)))))))))))
 ·replace H:=ite_then h2 H
  refine sg 3 Y (rm Y (bindK H fun r'2 h3 H=>rp Y (pc Y Tryz.func28 Y (g_kinds_Columns_ac h3) Y) (ra Y (rz [4] [.i r'2] [] [] Y (QR ?_)))))
  have z:=se H;subst z
  exact ⟨⟨rt,trivial⟩,trivial⟩
 replace H:=ite_else (ne_true h2) H
 refine as2 [1,2] [.p (GColumn.ls cols1),.q 2 (0)] [2] [.pure (GExpr.cs e0)] Y (QK (sg 10 Y (rp Y (pL U35 Y in_35 (Sub.refl _) (GExpr.len e0)) (rm Y (bindK H fun r'3 h4 H=>rp Y (pc Y Tryz.func29 Y (g_kinds_Of_ac h4) Y) (rm Y (rp Y (pe Y) (rp Y (pe Y) (rp Y (pe Y) (ra Y (ra Y (ra Y (rz [5,7] [.i r'3.1,.i r'3.2.2] [] [] Y (QS (QS (AW2_mid (⟨[(7,.i r'3.2.2),(28,.b (decide (((r'3.2.2=0)∧(r'3.1≠1))∧(r'3.1≠0))))],[],30⟩:TS) ?_ ?_))))))))))))))))
 ·refine ar 10 Y (rm Y (rp Y (pi Y) (rm Y ?_)))
  refine (Classical.em (r'3.2.2=0)).elim (fun h5=>?_) (fun h5=>?_)
  ·refine rn Y (dT h5) Y (p_move Y Y) (rn Y (dT h5) Y (pn Y) (rp Y (p_pkt Y Y (dT h5) (tb ((and_l (q:=r'3.1≠1) h5)))) (rm Y ?_)))
   refine (Classical.em (r'3.1≠1)).elim (fun h6=>?_) (fun h6=>?_)
   ·exact rn Y (dT (p:=(r'3.2.2=0)∧(r'3.1≠1)) ⟨h5,h6⟩) Y (p_move Y Y) (rn Y (dT (p:=(r'3.2.2=0)∧(r'3.1≠1)) ⟨h5,h6⟩) Y (pn Y) (rp Y (p_pkt Y Y (dT (p:=(r'3.2.2=0)∧(r'3.1≠1)) ⟨h5,h6⟩) (tb ((and_l (p:=(r'3.2.2=0)∧(r'3.1≠1)) (q:=r'3.1≠0) ⟨h5,h6⟩)))) (rend Y Y)))
   exact rO Y (dF (p:=(r'3.2.2=0)∧(r'3.1≠1)) (fun h=>h6 h.2)) Y (rO Y (dF (p:=(r'3.2.2=0)∧(r'3.1≠1)) (fun h=>h6 h.2)) Y (rp Y (p_pkf Y Y (dF (p:=(r'3.2.2=0)∧(r'3.1≠1)) (fun h=>h6 h.2)) (tb (dF (p:=((r'3.2.2=0)∧(r'3.1≠1))∧(r'3.1≠0)) (fun x=>(fun h=>h6 h.2) x.1)).symm)) (rend Y Y)))
  exact rO Y (dF h5) Y (rO Y (dF h5) Y (rp Y (p_pkf Y Y (dF h5) (tb (dF (p:=(r'3.2.2=0)∧(r'3.1≠1)) (fun x=>h5 x.1)).symm)) (rm Y (rO Y (dF (p:=(r'3.2.2=0)∧(r'3.1≠1)) (fun h=>h5 h.1)) Y (rO Y (dF (p:=(r'3.2.2=0)∧(r'3.1≠1)) (fun h=>h5 h.1)) Y (rp Y (p_pkf Y Y (dF (p:=(r'3.2.2=0)∧(r'3.1≠1)) (fun h=>h5 h.1)) (tb (dF (p:=((r'3.2.2=0)∧(r'3.1≠1))∧(r'3.1≠0)) (fun x=>(fun h=>h5 h.1) x.1)).symm)) (rend Y Y)))))))
 refine if2 H Y (fun h7 H=>?_) (fun h7 H=>?_)
 ·refine sg 1 Y (ra Y (rz [4] [.i 2] [] [] Y (QR ?_)))
  have z:=se H;subst z
  exact ⟨⟨rt,trivial⟩,trivial⟩
 refine as2 [7] [_] [] [] Y (QK (sg 2 Y (rm Y (ra Y (rz [4] [.i r'3.2.2] [] [] Y (QR ?_))))))
 have z:=se H;subst z
 exact ⟨⟨rt,trivial⟩,trivial⟩
noncomputable def g_table_column_l0 (cols0:List GColumn) (name1:List UInt8):Int→Option (Int⊕(Int⊕Unit))
  | t9_0=>(if t9_0 < (cols0.length:Int) then if 0≤t9_0∧t9_0 < (cols0.length:Int) then (if (lrd cols0 t9_0.toNat).Name=name1 then some (.inr (.inl t9_0)) else some (.inl (w64 (t9_0+(1:Int))))) else none else some (.inr (.inr ())))
noncomputable def g_table_column (cols0:List GColumn) (name1:List UInt8):Option (Int) :=
  (loopO (g_table_column_l0 cols0 name1) (0:Int)).bind fun o'4=>match o'4 with | .inl y'5=>some y'5 | .inr (y'6)=>some (-1:Int)
theorem g_table_column_ac {cols0:List GColumn} {name1:List UInt8} {r:Int} (H:g_table_column cols0 name1=some r):ACp Tryz.prog 38 [(GColumn.ls cols0),(AV.txt name1)] (AV.int r):=by
 refine ACp_of (AC2_of_body (vs:=[.i r]) Tryz.func38 Y Y (lb Y) Y ?_) (fun _=>.same _)
 unfold g_table_column at H
 refine as2 [0,1] [.p (GColumn.ls cols0),.t name1] [] [] Y (sg 1 Y (ra Y (rz [0,1] [_,_] [] [] Y (QS (sg 3 Y (rm Y (rp Y (p_lenl Y U22 Y Y) (rm Y (rz [1,7,8,9] [_,.p (GColumn.ls cols0),.i (cols0.length:Int),.i 0] [] [] Y (QB (as2 [1,7,8,9] [_,_,_,_] [] [] Y (bindK H fun o'4 h4 H=>AW2_loopO (fun a'1:Int=>(⟨[(1,.t name1),(7,.p (GColumn.ls cols0)),(8,.i (cols0.length:Int)),(9,.i a'1)],[],20⟩:TS)) (fun (o:Int⊕Unit) e s'=>match o with | .inl y'2=>e=Go.Exit.ret∧ResAll Tryz.prog s' [ResultVar.tmp 4] [.i y'2]∧HFits s' [] | .inr (y'3)=>e=Go.Exit.exit 0∧s'=(⟨[],[],20⟩:TS)) h4 Y (fun t9_0 x hx=>?_) (fun e s' hs=>?_)))))))))))))
 ·clear H
  have H:=hx
  clear hx
  unfold g_table_column_l0 at H
  refine sg 1 Y (rp Y (pb Y Y) (rz [1,7,8,9,10] [.t name1,.p (GColumn.ls cols0),.i (cols0.length:Int),.i t9_0,.b (decide (t9_0 < (cols0.length:Int)))] [] [] Y (QS (if2 H Y (fun h1 H=>?_) (fun h1 H=>?_)))))
  ·refine as2 [1,7,8,9] [_,_,_,_] [] [] Y (QK (QS (QB (sg 6 Y (rm Y (chkK H fun h2 H=>rp Y (u_ixl Y Y U22 in_63 Y Y (ixe h2) (ixn h2) (fne GColumn.len (by decide) (ixn h2))) (rp Y (pL U63 Y in_63 (Sub.fm default GColumn.len (ixn h2)) (GColumn.len (lrd cols0 t9_0.toNat))) (rq Y (al 6 in_63 one_63 zc_63 Y) (ra Y (rq Y (u_sw Y Y in_63 (GColumn.len (lrd cols0 t9_0.toNat)) (GColumn.len GColumn.zero)) (rz [1,5,6,7,8,9] [_,.i t9_0,.q 6 (0),_,_,_] [6] [.pure (GColumn.cs (lrd cols0 t9_0.toNat))] Y (sg 4 Y (rf Y U63 Y in_9 Y Y (GColumn.len (lrd cols0 t9_0.toNat)) (rp Y (pl U9 Y (GColumn.sub0 (lrd cols0 t9_0.toNat))) (rm Y (rp Y (p_seq Y Y Y) (rz [1,5,7,8,9,17] [_,_,_,_,_,.b (decide ((lrd cols0 t9_0.toNat).Name=name1))] [] [] Y (if2 H Y (fun h3 H=>?_) (fun h3 H=>?_)))))))))))))))))))
   ·refine sg 2 Y (rm Y (ra Y (rz [4] [.i t9_0] [] [] Y (QR ?_))))
    have z:=se H;subst z
    exact ⟨Y,⟨rt,trivial⟩,trivial⟩
   refine as2 [1,7,8,9] [_,_,_,_] [] [] Y (QK (ar 2 Y (rp Y (pb Y Y) (rm Y (rz [1,7,8,9] [_,_,_,.i (w64 (t9_0+1))] [] [] Y ?_)))))
   have z:=se H;subst z
   exact ⟨Y,Y⟩
  refine as2 [] [] [] [] Y (AW2_exit (thenQ2_exit ?_))
  have z:=se H;subst z
  exact ⟨Y,Y⟩
 rcases o'4 with y'5 | y'6
 ·obtain ⟨rfl,hs⟩:=hs
  refine ⟨by simp,?_⟩
  have z:=se H;subst z
  exact ⟨hs.1,hs.2⟩
 obtain ⟨rfl,rfl⟩:=hs
 refine ⟨by simp,?_⟩
 refine blockQ2_exit (sg 1 Y (ra Y (rz [4] [.i (-1:Int)] [] [] Y (QR ?_))))
 have z:=se H;subst z
 exact ⟨⟨rt,trivial⟩,trivial⟩
noncomputable def g_table_sets_l1 (l0:List GSet) (t23_0:Int):Int→Option (Int⊕(Int⊕Unit))
  | t38_1=>(if t38_1 < ((cut l0 (0:Int) t23_0).length:Int) then if 0≤t38_1∧t38_1 < ((cut l0 (0:Int) t23_0).length:Int) then (if (lrd (cut l0 (0:Int) t23_0) t38_1.toNat).Col=(lrd l0 t23_0.toNat).Col then some (.inr (.inl (8:Int))) else some (.inl (w64 (t38_1+(1:Int))))) else none else some (.inr (.inr ())))
noncomputable def g_table_sets_l0 (l0:List GSet) (cols1:List GColumn):Int→Option (Int⊕(Int⊕Unit))
  | t23_0=>(if t23_0 < (l0.length:Int) then if 0≤t23_0∧t23_0 < (l0.length:Int) then (g_table_column cols1 ((lrd l0 t23_0.toNat).Col)).bind fun r'1=>(if r'1 < (0:Int) then some (.inr (.inl (5:Int))) else if 0≤t23_0∧t23_0≤(l0.length:Int) then (loopO (g_table_sets_l1 l0 t23_0) (0:Int)).bind fun o'5=>match o'5 with | .inl y'6=>some (.inr (.inl y'6)) | .inr (y'7)=>(g_kinds_Of ((lrd l0 t23_0.toNat).Expr) cols1).bind fun r'8=>(if r'8.2.2≠(0:Int) then some (.inr (.inl r'8.2.2)) else ((if r'8.1≠(0:Int) then if 0≤r'1∧r'1 < (cols1.length:Int) then some (decide (r'8.1≠(lrd cols1 r'1.toNat).Kind)) else none else some false)).bind fun g'9=>(if g'9=true then some (.inr (.inl (2:Int))) else some (.inl (w64 (t23_0+(1:Int)))))) else none) else none else some (.inr (.inr ())))
noncomputable def g_table_sets (l0:List GSet) (cols1:List GColumn):Option (Int) :=
  (if ((l0.length:Int) < (1:Int))∨((l0.length:Int) > (4:Int)) then some (1:Int) else (loopO (g_table_sets_l0 l0 cols1) (0:Int)).bind fun o'13=>match o'13 with | .inl y'14=>some y'14 | .inr (y'15)=>some (0:Int))
theorem g_table_sets_ac {l0:List GSet} {cols1:List GColumn} {r:Int} (H:g_table_sets l0 cols1=some r):ACp Tryz.prog 18 [(GSet.ls l0),(GColumn.ls cols1)] (AV.int r):=by
 refine ACp_of (AC2_of_body (vs:=[.i r]) Tryz.func18 Y Y (lb Y) Y ?_) (fun _=>.same _)
 unfold g_table_sets at H
 refine as2 [0,1] [.p (GSet.ls l0),.p (GColumn.ls cols1)] [] [] Y (sg 1 Y (ra Y (rz [0,1] [_,_] [] [] Y (QS (QS (AW2_mid (⟨[(0,.p (GSet.ls l0)),(1,.p (GColumn.ls cols1)),(20,.b (decide (((l0.length:Int) < 1)∨((l0.length:Int) > 4))))],[],71⟩:TS) ?_ ?_))))))
 ·refine ar 8 Y (rm Y (rp Y (p_lenl Y U41 Y Y) (rp Y (pb Y Y) (rm Y ?_))))
  refine (Classical.em ((l0.length:Int) < 1)).elim (fun h1=>?_) (fun h1=>?_)
  ·exact rO Y (dT h1) Y (rO Y (dT h1) Y (rO Y (dT h1) Y (rp Y (p_pkt Y Y (dT h1) (tb (dT (p:=((l0.length:Int) < 1)∨((l0.length:Int) > 4)) (Or.inl h1)).symm)) (rend Y Y))))
  exact rn Y (dF h1) Y (p_move Y Y) (rn Y (dF h1) Y (p_lenl Y U41 Y Y) (rn Y (dF h1) Y (pb Y Y) (rp Y (p_pkf Y Y (dF h1) (tb ((or_l (q:=(l0.length:Int) > 4) h1)))) (rend Y Y))))
 refine if2 H Y (fun h2 H=>?_) (fun h2 H=>?_)
 ·refine sg 1 Y (ra Y (rz [4] [.i 1] [] [] Y (QR ?_)))
  have z:=se H;subst z
  exact ⟨⟨rt,trivial⟩,trivial⟩
 refine as2 [0,1] [_,_] [] [] Y (QK (QS (sg 3 Y (rm Y (rp Y (p_lenl Y U41 Y Y) (rm Y (rz [0,1,21,22,23] [_,_,.p (GSet.ls l0),.i (l0.length:Int),.i 0] [] [] Y (QB (as2 [0,1,21,22,23] [_,_,_,_,_] [] [] Y (bindK H fun o'13 h20 H=>AW2_loopO (fun a'10:Int=>(⟨[(0,.p (GSet.ls l0)),(1,.p (GColumn.ls cols1)),(21,.p (GSet.ls l0)),(22,.i (l0.length:Int)),(23,.i a'10)],[],71⟩:TS)) (fun (o:Int⊕Unit) e s'=>match o with | .inl y'11=>e=Go.Exit.ret∧ResAll Tryz.prog s' [ResultVar.tmp 4] [.i y'11]∧HFits s' [] | .inr (y'12)=>e=Go.Exit.exit 0∧s'=(⟨[],[],71⟩:TS)) h20 Y (fun t23_0 x hx=>?_) (fun e s' hs=>?_)))))))))))
 ·clear H
  have H:=hx
  clear hx
  unfold g_table_sets_l0 at H
  refine sg 1 Y (rp Y (pb Y Y) (rz [0,1,21,22,23,24] [.p (GSet.ls l0),.p (GColumn.ls cols1),.p (GSet.ls l0),.i (l0.length:Int),.i t23_0,.b (decide (t23_0 < (l0.length:Int)))] [] [] Y (QS (if2 H Y (fun h3 H=>?_) (fun h3 H=>?_)))))
  ·refine as2 [0,1,21,22,23] [_,_,_,_,_] [] [] Y (QK (QS (QB (sg 6 Y (rm Y (chkK H fun h4 H=>rp Y (u_ixl Y Y U41 in_58 Y Y (ixe h4) (ixn h4) (fne GSet.len (by decide) (ixn h4))) (rp Y (pL U58 Y in_58 (Sub.fm default GSet.len (ixn h4)) (GSet.len (lrd l0 t23_0.toNat))) (rq Y (al 6 in_58 one_58 zc_58 Y) (ra Y (rq Y (u_sw Y Y in_58 (GSet.len (lrd l0 t23_0.toNat)) (GSet.len GSet.zero)) (rz [0,1,5,6,21,22,23] [_,_,.i t23_0,.q 6 (0),_,_,_] [6] [.pure (GSet.cs (lrd l0 t23_0.toNat))] Y (sg 5 Y (rm Y (rf Y U58 Y in_9 Y Y (GSet.len (lrd l0 t23_0.toNat)) (rp Y (pl U9 Y (GSet.sub0 (lrd l0 t23_0.toNat))) (bindK H fun r'1 h5 H=>rp Y (pc Y Tryz.func38 Y (g_table_column_ac h5) Y) (ra Y (rz [0,1,5,6,7,21,22,23] [_,_,_,_,.i r'1,_,_,_] [6] [_] Y (QS (sg 2 Y (rm Y ?_)))))))))))))))))))))
   refine rp Y (pb Y Y) (rz [0,1,5,6,7,21,22,23,33] [_,_,_,_,_,_,_,_,.b (decide (r'1 < 0))] [6] [_] Y (if2 H Y (fun h6 H=>?_) (fun h6 H=>?_)))
   ·refine sg 1 Y (ra Y (rz [4] [.i 5] [] [] Y (QR ?_)))
    have z:=se H;subst z
    exact ⟨Y,⟨rt,trivial⟩,trivial⟩
   refine as2 [0,1,5,6,7,21,22,23] [_,_,_,_,_,_,_,_] [6] [_] Y (QK (QS (sg 5 Y (rm Y (rm Y (chkK H fun h7 H=>rp Y (u_cutl (g:=(fun l=>l.flatMap GSet.cs)) (a:=0) (b:=t23_0) Y Y U41 in_58 Y bT_zero (bT_i (Int.le_trans (show 0≤(0:Int)∧0≤t23_0∧t23_0≤(l0.length:Int) from ⟨Int.le_refl _,h7.1,h7.2⟩).1 (show 0≤(0:Int)∧0≤t23_0∧t23_0≤(l0.length:Int) from ⟨Int.le_refl _,h7.1,h7.2⟩).2.1) Y) (.inl Y) (show 0≤(0:Int)∧0≤t23_0∧t23_0≤(l0.length:Int) from ⟨Int.le_refl _,h7.1,h7.2⟩) (g_fm GSet.len)) (rp Y (p_lenl Y U41 Y Y) (rm Y (rz [0,1,6,7,21,22,23,36,37,38] [_,_,_,_,_,_,_,.p (GSet.ls (cut l0 0 t23_0)),.i ((cut l0 0 t23_0).length:Int),.i 0] [6] [_] Y (QB (as2 [0,1,6,7,21,22,23,36,37,38] [_,_,_,_,_,_,_,_,_,_] [6] [_] Y (bindK H fun o'5 h11 H=>AW2_loopO (fun a'2:Int=>(⟨[(0,.p (GSet.ls l0)),(1,.p (GColumn.ls cols1)),(6,.q 6 (0)),(7,.i r'1),(21,.p (GSet.ls l0)),(22,.i (l0.length:Int)),(23,.i t23_0),(36,.p (GSet.ls (cut l0 0 t23_0))),(37,.i ((cut l0 0 t23_0).length:Int)),(38,.i a'2)],[(6,.pure (GSet.cs (lrd l0 t23_0.toNat)))],71⟩:TS)) (fun (o:Int⊕Unit) e s'=>match o with | .inl y'3=>e=Go.Exit.ret∧ResAll Tryz.prog s' [ResultVar.tmp 4] [.i y'3]∧HFits s' [] | .inr (y'4)=>e=Go.Exit.exit 2∧s'=(⟨[(0,.p (GSet.ls l0)),(1,.p (GColumn.ls cols1)),(6,.q 6 (0)),(7,.i r'1),(21,.p (GSet.ls l0)),(22,.i (l0.length:Int)),(23,.i t23_0)],[(6,.pure (GSet.cs (lrd l0 t23_0.toNat)))],71⟩:TS)) h11 Y (fun t38_1 x hx=>?_) (fun e s' hs=>?_)))))))))))))
   ·clear H
    have H:=hx
    clear hx
    unfold g_table_sets_l1 at H
    refine sg 1 Y (rp Y (pb Y Y) (rz [0,1,6,7,21,22,23,36,37,38,39] [.p (GSet.ls l0),.p (GColumn.ls cols1),.q 6 (0),.i r'1,.p (GSet.ls l0),.i (l0.length:Int),.i t23_0,.p (GSet.ls (cut l0 0 t23_0)),.i ((cut l0 0 t23_0).length:Int),.i t38_1,.b (decide (t38_1 < ((cut l0 0 t23_0).length:Int)))] [6] [.pure (GSet.cs (lrd l0 t23_0.toNat))] Y (QS (if2 H Y (fun h8 H=>?_) (fun h8 H=>?_)))))
    ·refine as2 [0,1,6,7,21,22,23,36,37,38] [_,_,_,_,_,_,_,_,_,_] [6] [_] Y (QK (QS (QB (sg 4 Y (chkK H fun h9 H=>rp Y (u_ixl Y Y U41 in_58 Y Y (ixe h9) (ixn h9) (fne GSet.len (by decide) (ixn h9))) (rp Y (pL U58 Y in_58 (Sub.fm default GSet.len (ixn h9)) (GSet.len (lrd (cut l0 0 t23_0) t38_1.toNat))) (rq Y (al 9 in_58 one_58 zc_58 Y) (rq Y (u_sw Y Y in_58 (GSet.len (lrd (cut l0 0 t23_0) t38_1.toNat)) (GSet.len GSet.zero)) (rz [0,1,6,7,9,21,22,23,36,37,38] [_,_,_,_,.q 9 (0),_,_,_,_,_,_] [6,9] [_,.pure (GSet.cs (lrd (cut l0 0 t23_0) t38_1.toNat))] Y (sg 5 Y (rf Y U58 Y in_9 Y Y (GSet.len (lrd (cut l0 0 t23_0) t38_1.toNat)) (rp Y (pl U9 Y (GSet.sub0 (lrd (cut l0 0 t23_0) t38_1.toNat))) (rf Y U58 Y in_9 Y Y (GSet.len (lrd l0 t23_0.toNat)) (rp Y (pl U9 Y (GSet.sub0 (lrd l0 t23_0.toNat))) (rp Y (p_seq Y Y Y) (rz [0,1,6,7,21,22,23,36,37,38,46] [_,_,_,_,_,_,_,_,_,_,.b (decide ((lrd (cut l0 0 t23_0) t38_1.toNat).Col=(lrd l0 t23_0.toNat).Col))] [6] [_] Y (if2 H Y (fun h10 H=>?_) (fun h10 H=>?_))))))))))))))))))
     ·refine sg 1 Y (ra Y (rz [4] [.i 8] [] [] Y (QR ?_)))
      have z:=se H;subst z
      exact ⟨Y,⟨rt,trivial⟩,trivial⟩
     refine as2 [0,1,6,7,21,22,23,36,37,38] [_,_,_,_,_,_,_,_,_,_] [6] [_] Y (QK (ar 2 Y (rp Y (pb Y Y) (rm Y (rz [0,1,6,7,21,22,23,36,37,38] [_,_,_,_,_,_,_,_,_,.i (w64 (t38_1+1))] [6] [_] Y ?_)))))
     have z:=se H;subst z
     exact ⟨Y,Y⟩
    refine as2 [0,1,6,7,21,22,23] [_,_,_,_,_,_,_] [6] [_] Y (AW2_exit (thenQ2_exit ?_))
    have z:=se H;subst z
    exact ⟨Y,Y⟩
   rcases o'5 with y'6 | y'7
   ·obtain ⟨rfl,hs⟩:=hs
    refine ⟨by simp,?_⟩
    have z:=se H;subst z
    exact ⟨Y,hs.1,hs.2⟩
   obtain ⟨rfl,rfl⟩:=hs
   refine ⟨by simp,?_⟩
   refine blockQ2_exit (sg 11 Y (rf Y U58 Y in_35 Y Y (GSet.len (lrd l0 t23_0.toNat)) (rp Y (pL U35 Y in_35 (GSet.sub1 (lrd l0 t23_0.toNat)) (GExpr.len ((lrd l0 t23_0.toNat).Expr))) (rm Y (bindK H fun r'8 h12 H=>rp Y (pc Y Tryz.func29 Y (g_kinds_Of_ac h12) Y) (rm Y (rp Y (pe Y) (rp Y (pe Y) (rp Y (pe Y) (ra Y (ra Y (ra Y (rz [0,1,7,10,12,21,22,23] [.p (GSet.ls l0),.p (GColumn.ls cols1),.i r'1,.i r'8.1,.i r'8.2.2,.p (GSet.ls l0),.i (l0.length:Int),.i t23_0] [] [] Y (QS (sg 2 Y (rm Y (rp Y (pn Y) (rz [0,1,7,10,12,21,22,23,57] [_,_,_,_,_,_,_,_,.b (decide (r'8.2.2≠0))] [] [] Y (if2 H Y (fun h13 H=>?_) (fun h13 H=>?_))))))))))))))))))))
   ·refine sg 2 Y (rm Y (ra Y (rz [4] [.i r'8.2.2] [] [] Y (QR ?_))))
    have z:=se H;subst z
    exact ⟨Y,⟨rt,trivial⟩,trivial⟩
   refine as2 [0,1,7,10,21,22,23] [_,_,_,_,_,_,_] [] [] Y (QK (QS (bindK H fun g'9 h17 H=>AW2_mid (⟨[(0,.p (GSet.ls l0)),(1,.p (GColumn.ls cols1)),(21,.p (GSet.ls l0)),(22,.i (l0.length:Int)),(23,.i t23_0),(69,.b g'9)],[],71⟩:TS) ?_ ?_)))
   ·clear H
    have H:=h17
    clear h17
    refine ar 11 Y (rm Y (rp Y (pn Y) (rm Y (em2 H (fun h15 H=>?_) (fun h15 H=>?_)))))
    ·refine rn Y (dT h15) Y (p_move Y Y) (rn Y (dT h15) Y (p_move Y Y) (rn Y (dT h15) Y (p_move Y Y) (chkK H fun h16 H=>rn Y (dT h15) Y (u_ixl Y Y U22 in_63 Y Y (ixe h16) (ixn h16) (fne GColumn.len (by decide) (ixn h16))) (rn Y (dT h15) Y (u_far Y Y U63 Y in_3 nz Y) (rn Y (dT h15) Y (pl U3 Y ((Sub.fm default GColumn.len (ixn h16)).trans (GColumn.sub1 (lrd cols1 r'1.toNat)))) (rn Y (dT h15) Y (pn Y) (rp Y (p_pkt Y Y (dT h15) (.same _)) (rs [0,1,21,22,23,69] [.p (GSet.ls l0),.p (GColumn.ls cols1),.p (GSet.ls l0),.i (l0.length:Int),.i t23_0,.b (decide (r'8.1≠(lrd cols1 r'1.toNat).Kind))] [] [] Y ?_))))))))
     have z:=se H;subst z
     exact RunW_nil rfl
    refine rO Y (dF h15) Y (rO Y (dF h15) Y (rO Y (dF h15) Y (rO Y (dF h15) Y (rO Y (dF h15) Y (rO Y (dF h15) Y (rO Y (dF h15) Y (rp Y (p_pkf Y Y (dF h15) (.same _)) (rs [0,1,21,22,23,69] [.p (GSet.ls l0),.p (GColumn.ls cols1),.p (GSet.ls l0),.i (l0.length:Int),.i t23_0,.b false] [] [] Y ?_))))))))
    have z:=se H;subst z
    exact RunW_nil rfl
   refine AW2_cond Y (fun h18=>?_) (fun h18=>?_)
   ·replace H:=ite_then h18 H
    refine sg 1 Y (ra Y (rz [4] [.i 2] [] [] Y (QR ?_)))
    have z:=se H;subst z
    exact ⟨Y,⟨rt,trivial⟩,trivial⟩
   replace H:=ite_else (ne_true h18) H
   refine as2 [0,1,21,22,23] [.p (GSet.ls l0),.p (GColumn.ls cols1),.p (GSet.ls l0),.i (l0.length:Int),.i t23_0] [] [] Y (QK (ar 2 Y (rp Y (pb Y Y) (rm Y (rz [0,1,21,22,23] [_,_,_,_,.i (w64 (t23_0+1))] [] [] Y ?_)))))
   have z:=se H;subst z
   exact ⟨Y,Y⟩
  refine as2 [] [] [] [] Y (AW2_exit (thenQ2_exit ?_))
  have z:=se H;subst z
  exact ⟨Y,Y⟩
 rcases o'13 with y'14 | y'15
 ·obtain ⟨rfl,hs⟩:=hs
  refine ⟨by simp,?_⟩
  have z:=se H;subst z
  exact ⟨hs.1,hs.2⟩
 obtain ⟨rfl,rfl⟩:=hs
 refine ⟨by simp,?_⟩
 refine blockQ2_exit (sg 1 Y (ra Y (rz [4] [.i 0] [] [] Y (QR ?_))))
 have z:=se H;subst z
 exact ⟨⟨rt,trivial⟩,trivial⟩
def g_eval_thingOf_r3:List (List (Nat×Option Nat)):=[[(2,none)],[(12,some 0)],[(2,none)],[(14,some 2)],[(15,some 3)],[(16,some 4)],[(1,none)],[(17,some 5),(18,some 6)]]
def g_eval_thingOf_r3c:List (List Nat):=[[],[0],[],[2],[2,3],[2,3,4],[],[2,3,4,5,6],[0,1,2,3,4,5,6,7],[0,1,2,3,4,5,6,7,8],[0,1,2,3,4,5,6,7,8,9]]
def g_eval_thingOf_r5:List (List (Nat×Option Nat)):=[[(2,none)],[(24,some 0)],[(2,none)],[(26,some 2)],[(27,some 3)],[(28,some 4)],[(1,none)],[(29,some 5),(30,some 6)],[(2,none)],[(32,some 8)],[(33,some 9)],[(34,some 10)],[(1,none)],[(35,some 11),(36,some 12)]]
def g_eval_thingOf_r5c:List (List Nat):=[[],[0],[],[2],[2,3],[2,3,4],[],[2,3,4,5,6],[],[8],[8,9],[8,9,10],[],[2,3,4,5,6,7,8,9,10,11,12],[0,1,2,3,4,5,6,7,8,9,10,11,12,13],[0,1,2,3,4,5,6,7,8,9,10,11,12,13,14],[0,1,2,3,4,5,6,7,8,9,10,11,12,13,14,15]]
noncomputable def g_eval_thingOf_l0 (e0:GExpr) (cols1:List GColumn):Int→Option (Int⊕(Geval_thing⊕Unit))
  | t49_0=>(if t49_0 < (cols1.length:Int) then if 0≤t49_0∧t49_0 < (cols1.length:Int) then (if (lrd cols1 t49_0.toNat).Name=e0.Name then some (.inr (.inl (Geval_thing.place ({ Geval_place.zero with i_:=t49_0 }).i_))) else some (.inl (w64 (t49_0+(1:Int))))) else none else some (.inr (.inr ())))
noncomputable def g_eval_thingOf_b (R':GExpr→(List GColumn)→Option Geval_thing) (e0:GExpr) (cols1:List GColumn):Option (Geval_thing) :=
  (if (e0.Args.length:Int)=(1:Int) then if 0 < e0.Args.length then (R' (lrd e0.Args 0) cols1).bind fun r'1=>letO ((Geval_thing.sole ({ { Geval_sole.zero with op_:=e0.Op } with a_:=r'1 }).op_ ({ { Geval_sole.zero with op_:=e0.Op } with a_:=r'1 }).a_)) fun t4'2=>some t4'2 else none else (if (e0.Args.length:Int)=(2:Int) then if 0 < e0.Args.length then (R' (lrd e0.Args 0) cols1).bind fun r'3=>if 1 < e0.Args.length then (R' (lrd e0.Args 1) cols1).bind fun r'4=>letO ((Geval_thing.twin ({ { { Geval_twin.zero with op_:=e0.Op } with a_:=r'3 } with b_:=r'4 }).op_ ({ { { Geval_twin.zero with op_:=e0.Op } with a_:=r'3 } with b_:=r'4 }).a_ ({ { { Geval_twin.zero with op_:=e0.Op } with a_:=r'3 } with b_:=r'4 }).b_)) fun t4'5=>some t4'5 else none else none else (if e0.Op=(1:Int) then some (Geval_thing.fixed ({ Geval_fixed.zero with v_:=e0.Value }).v_) else (loopO (g_eval_thingOf_l0 e0 cols1) (0:Int)).bind fun o'9=>match o'9 with | .inl y'10=>some y'10 | .inr (y'11)=>some (Geval_thing.missing))))
noncomputable def g_eval_thingOf:Nat→GExpr→(List GColumn)→Option Geval_thing
  | 0,_,_=>none
  | fu+1,e0,cols1=>g_eval_thingOf_b (g_eval_thingOf fu) e0 cols1
theorem g_eval_thingOf_ac0 {R':GExpr→(List GColumn)→Option Geval_thing} (hR:∀ {e0:GExpr} {cols1:List GColumn} {r:Geval_thing},R' e0 cols1=some r→ACp Tryz.prog 45 [(.agg (GExpr.cs e0)),(GColumn.ls cols1)] (Geval_thing.av r)) {e0:GExpr} {cols1:List GColumn} {r:Geval_thing} (H:g_eval_thingOf_b R' e0 cols1=some r):ACp Tryz.prog 45 [(.agg (GExpr.cs e0)),(GColumn.ls cols1)] (Geval_thing.av r):=by
 refine ACp_of (AC2_of_body (vs:=[.p (Geval_thing.av r)]) Tryz.func45 Y Y (lb Y) Y ?_) (fun _=>.same _)
 unfold g_eval_thingOf_b at H
 refine as2 [0,1] [.g (GExpr.cs e0),.p (GColumn.ls cols1)] [] [] Y (sg 2 Y (rq Y (bx 2 Y) (ra Y (rz [1,2] [_,.q 2 (0)] [2] [.pure (GExpr.cs e0)] Y (QS (sg 3 Y (rf Y U35 Y in_33 Y Y (GExpr.len e0) (rp Y (pl U33 Y (GExpr.sub3 e0)) (rp Y (p_lenl Y U33 Y Y) (rz [1,2,9] [_,_,.i (e0.Args.length:Int)] [2] [_] Y (QB (sg 2 Y (rp Y (pi Y) (ra Y (rz [1,2,9,10] [_,_,_,.b (decide ((e0.Args.length:Int)=1))] [2] [_] Y (if2 H Y (fun h1 H=>?_) (fun h1 H=>?_)))))))))))))))))
 ·refine QS (chkK H fun h2 H=>bindK H fun r'1 h3 H=>AW2_ghoQ (AW2_draw 8 [8,9,10] (fun k=>([.q 2 (0+0),.i e0.Op,.q 2 (0+6),.p (GExpr.ls e0.Args),.p (.rptr (e0.Args.flatMap GExpr.cs) (0 * 7)),.g (GExpr.cs (lrd e0.Args 0)),.p (GColumn.ls cols1),.p (Geval_thing.av r'1)]:List TV).getD k TV.any) (fun k=>g_eval_thingOf_r3.getD k []) [(13,some 1),(19,some 7)] [] (fun k=>g_eval_thingOf_r3c.getD k []) mixed (by kernel_rfl) Y Y (a_op (g_x Y (x_p Y (uf U35 Y in_3 Y (GExpr.len e0)) Y)) (a_op (g_x Y (x_p Y (pl U3 Y (GExpr.sub0 e0)) Y)) (a_op (g_x Y (x_p Y (uf U35 Y in_33 Y (GExpr.len e0)) Y)) (a_op (g_x Y (x_p Y (pl U33 Y (GExpr.sub3 e0)) Y)) (a_op (g_x Y (x_p Y (u_ixl Y Y U33 in_35 Y Y Y h2 (fne GExpr.len (by decide) h2)) Y)) (a_op (g_x Y (x_p Y (pL U35 Y in_35 (Sub.fm default GExpr.len h2) (GExpr.len (lrd e0.Args 0))) Y)) (a_op (g_x Y (x_p Y (p_move Y Y) Y)) (a_op (g_x Y (x_p Y (pc Y Tryz.func45 Y (hR h3) Y) Y)) (a_nil))))))))) (t_op Y Y (PureD.opD (u_bld Y in_108 one_108 zc_108 pl_108 Y (af_cons Y Y (Geval_sole.upd0 Geval_sole.zero e0.Op) (af_cons Y Y (Geval_sole.upd1 ((Geval_sole.w0 Geval_sole.zero e0.Op)) r'1) Y)))) (t_op Y Y (PureD.opD (p_mki Y Y U108 Y (Geval_sole.scl _) Y)) (t_op Y Y (PureD.opD (p_asg Y Y)) (t_gho (Gho_st (L:=[(4,.p (Geval_thing.av (Geval_thing.sole ((Geval_sole.w1 (Geval_sole.w0 Geval_sole.zero e0.Op) r'1)).op_ ((Geval_sole.w1 (Geval_sole.w0 Geval_sole.zero e0.Op) r'1)).a_)))]) (H:=[]) (N:=65) Y ⟨TLes.same _,trivial⟩ trivial) (gen1 (fun t4'2=>(⟨[(4,.p (Geval_thing.av t4'2))],[],65⟩:TS)) H ?_)))))))
  intro t4'2 H
  refine QR ?_
  have z:=se H;subst z
  exact ⟨⟨rt,trivial⟩,trivial⟩
 refine sg 2 Y (rp Y (pi Y) (ra Y (rz [1,2,22] [_,_,.b (decide ((e0.Args.length:Int)=2))] [2] [_] Y (if2 H Y (fun h4 H=>?_) (fun h4 H=>?_)))))
 ·refine QS (chkK H fun h5 H=>bindK H fun r'3 h6 H=>chkK H fun h7 H=>bindK H fun r'4 h8 H=>AW2_ghoQ (AW2_draw 14 [14,15,16] (fun k=>([.q 2 (0+0),.i e0.Op,.q 2 (0+6),.p (GExpr.ls e0.Args),.p (.rptr (e0.Args.flatMap GExpr.cs) (0 * 7)),.g (GExpr.cs (lrd e0.Args 0)),.p (GColumn.ls cols1),.p (Geval_thing.av r'3),.q 2 (0+6),.p (GExpr.ls e0.Args),.p (.rptr (e0.Args.flatMap GExpr.cs) (1 * 7)),.g (GExpr.cs (lrd e0.Args 1)),.p (GColumn.ls cols1),.p (Geval_thing.av r'4)]:List TV).getD k TV.any) (fun k=>g_eval_thingOf_r5.getD k []) [(25,some 1),(31,some 7),(37,some 13)] [] (fun k=>g_eval_thingOf_r5c.getD k []) mixed (by kernel_rfl) Y Y (a_op (g_x Y (x_p Y (uf U35 Y in_3 Y (GExpr.len e0)) Y)) (a_op (g_x Y (x_p Y (pl U3 Y (GExpr.sub0 e0)) Y)) (a_op (g_x Y (x_p Y (uf U35 Y in_33 Y (GExpr.len e0)) Y)) (a_op (g_x Y (x_p Y (pl U33 Y (GExpr.sub3 e0)) Y)) (a_op (g_x Y (x_p Y (u_ixl Y Y U33 in_35 Y Y Y h5 (fne GExpr.len (by decide) h5)) Y)) (a_op (g_x Y (x_p Y (pL U35 Y in_35 (Sub.fm default GExpr.len h5) (GExpr.len (lrd e0.Args 0))) Y)) (a_op (g_x Y (x_p Y (p_move Y Y) Y)) (a_op (g_x Y (x_p Y (pc Y Tryz.func45 Y (hR h6) Y) Y)) (a_op (g_x Y (x_p Y (uf U35 Y in_33 Y (GExpr.len e0)) Y)) (a_op (g_x Y (x_p Y (pl U33 Y (GExpr.sub3 e0)) Y)) (a_op (g_x Y (x_p Y (u_ixl Y Y U33 in_35 Y Y Y h7 (fne GExpr.len (by decide) h7)) Y)) (a_op (g_x Y (x_p Y (pL U35 Y in_35 (Sub.fm default GExpr.len h7) (GExpr.len (lrd e0.Args 1))) Y)) (a_op (g_x Y (x_p Y (p_move Y Y) Y)) (a_op (g_x Y (x_p Y (pc Y Tryz.func45 Y (hR h8) Y) Y)) (a_nil))))))))))))))) (t_op Y Y (PureD.opD (u_bld Y in_110 one_110 zc_110 pl_110 Y (af_cons Y Y (Geval_twin.upd0 Geval_twin.zero e0.Op) (af_cons Y Y (Geval_twin.upd1 ((Geval_twin.w0 Geval_twin.zero e0.Op)) r'3) (af_cons Y Y (Geval_twin.upd2 ((Geval_twin.w1 (Geval_twin.w0 Geval_twin.zero e0.Op) r'3)) r'4) Y))))) (t_op Y Y (PureD.opD (p_mki Y Y U110 Y (Geval_twin.scl _) Y)) (t_op Y Y (PureD.opD (p_asg Y Y)) (t_gho (Gho_st (L:=[(4,.p (Geval_thing.av (Geval_thing.twin ((Geval_twin.w2 (Geval_twin.w1 (Geval_twin.w0 Geval_twin.zero e0.Op) r'3) r'4)).op_ ((Geval_twin.w2 (Geval_twin.w1 (Geval_twin.w0 Geval_twin.zero e0.Op) r'3) r'4)).a_ ((Geval_twin.w2 (Geval_twin.w1 (Geval_twin.w0 Geval_twin.zero e0.Op) r'3) r'4)).b_)))]) (H:=[]) (N:=65) Y ⟨TLes.same _,trivial⟩ trivial) (gen1 (fun t4'5=>(⟨[(4,.p (Geval_thing.av t4'5))],[],65⟩:TS)) H ?_)))))))
  intro t4'5 H
  refine QR ?_
  have z:=se H;subst z
  exact ⟨⟨rt,trivial⟩,trivial⟩
 refine as2 [1,2] [_,_] [2] [_] Y (QK (QS (sg 3 Y (rf Y U35 Y in_3 Y Y (GExpr.len e0) (rp Y (pl U3 Y (GExpr.sub0 e0)) (rp Y (pi Y) (rz [1,2,42] [_,_,.b (decide (e0.Op=1))] [2] [_] Y (if2 H Y (fun h9 H=>?_) (fun h9 H=>?_)))))))))
 ·refine sg 5 Y (rf Y U35 Y in_32 Y Y (GExpr.len e0) (rp Y (pL U32 Y in_32 (GExpr.sub1 e0) (GValue.len e0.Value)) (rp Y (u_bld Y in_112 one_112 zc_112 pl_112 Y (af_cons Y (GValue.len e0.Value) (Geval_fixed.upd0 Geval_fixed.zero e0.Value) Y)) (rp Y (p_mki Y Y U112 Y (Geval_fixed.scl _) Y) (ra Y (rz [4] [.p (Geval_thing.av (Geval_thing.fixed ((Geval_fixed.w0 Geval_fixed.zero e0.Value)).v_))] [] [] Y (QR ?_)))))))
  have z:=se H;subst z
  exact ⟨⟨rt,trivial⟩,trivial⟩
 refine as2 [1,2] [_,_] [2] [_] Y (QK (QS (sg 3 Y (rm Y (rp Y (p_lenl Y U22 Y Y) (rm Y (rz [2,47,48,49] [_,.p (GColumn.ls cols1),.i (cols1.length:Int),.i 0] [2] [_] Y (QB (as2 [2,47,48,49] [_,_,_,_] [2] [_] Y (bindK H fun o'9 h13 H=>AW2_loopO (fun a'6:Int=>(⟨[(2,.q 2 (0)),(47,.p (GColumn.ls cols1)),(48,.i (cols1.length:Int)),(49,.i a'6)],[(2,.pure (GExpr.cs e0))],65⟩:TS)) (fun (o:Geval_thing⊕Unit) e s'=>match o with | .inl y'7=>e=Go.Exit.ret∧ResAll Tryz.prog s' [ResultVar.tmp 4] [.p (Geval_thing.av y'7)]∧HFits s' [] | .inr (y'8)=>e=Go.Exit.exit 1∧s'=(⟨[],[],65⟩:TS)) h13 Y (fun t49_0 x hx=>?_) (fun e s' hs=>?_)))))))))))
 ·clear H
  have H:=hx
  clear hx
  unfold g_eval_thingOf_l0 at H
  refine sg 1 Y (rp Y (pb Y Y) (rz [2,47,48,49,50] [.q 2 (0),.p (GColumn.ls cols1),.i (cols1.length:Int),.i t49_0,.b (decide (t49_0 < (cols1.length:Int)))] [2] [.pure (GExpr.cs e0)] Y (QS (if2 H Y (fun h10 H=>?_) (fun h10 H=>?_)))))
  ·refine as2 [2,47,48,49] [_,_,_,_] [2] [_] Y (QK (QS (QB (sg 6 Y (rm Y (chkK H fun h11 H=>rp Y (u_ixl Y Y U22 in_63 Y Y (ixe h11) (ixn h11) (fne GColumn.len (by decide) (ixn h11))) (rp Y (pL U63 Y in_63 (Sub.fm default GColumn.len (ixn h11)) (GColumn.len (lrd cols1 t49_0.toNat))) (rq Y (al 6 in_63 one_63 zc_63 Y) (ra Y (rq Y (u_sw Y Y in_63 (GColumn.len (lrd cols1 t49_0.toNat)) (GColumn.len GColumn.zero)) (rz [2,5,6,47,48,49] [_,.i t49_0,.q 6 (0),_,_,_] [2,6] [_,.pure (GColumn.cs (lrd cols1 t49_0.toNat))] Y (sg 5 Y (rf Y U63 Y in_9 Y Y (GColumn.len (lrd cols1 t49_0.toNat)) (rp Y (pl U9 Y (GColumn.sub0 (lrd cols1 t49_0.toNat))) (rf Y U35 Y in_9 Y Y (GExpr.len e0) (rp Y (pl U9 Y (GExpr.sub2 e0)) (rp Y (p_seq Y Y Y) (rz [2,5,47,48,49,58] [_,_,_,_,_,.b (decide ((lrd cols1 t49_0.toNat).Name=e0.Name))] [2] [_] Y (if2 H Y (fun h12 H=>?_) (fun h12 H=>?_))))))))))))))))))))
   ·refine sg 4 Y (rm Y (rp Y (u_bld Y in_114 one_114 zc_114 pl_114 Y (af_cons Y Y (Geval_place.upd0 Geval_place.zero t49_0) Y)) (rp Y (p_mki Y Y U114 Y (Geval_place.scl _) Y) (ra Y (rz [4] [.p (Geval_thing.av (Geval_thing.place ((Geval_place.w0 Geval_place.zero t49_0)).i_))] [] [] Y (QR ?_))))))
    have z:=se H;subst z
    exact ⟨Y,⟨rt,trivial⟩,trivial⟩
   refine as2 [2,47,48,49] [_,_,_,_] [2] [_] Y (QK (ar 2 Y (rp Y (pb Y Y) (rm Y (rz [2,47,48,49] [_,_,_,.i (w64 (t49_0+1))] [2] [_] Y ?_)))))
   have z:=se H;subst z
   exact ⟨Y,Y⟩
  refine as2 [] [] [] [] Y (AW2_exit (thenQ2_exit ?_))
  have z:=se H;subst z
  exact ⟨Y,Y⟩
 rcases o'9 with y'10 | y'11
 ·obtain ⟨rfl,hs⟩:=hs
  refine ⟨by simp,?_⟩
  have z:=se H;subst z
  exact ⟨hs.1,hs.2⟩
 obtain ⟨rfl,rfl⟩:=hs
 refine ⟨by simp,?_⟩
 refine blockQ2_exit (sg 3 Y (rp Y (u_bld Y in_116 one_116 zc_116 pl_116 Y Y) (rp Y (p_mki Y Y U116 Y (Geval_missing.scl _) Y) (ra Y (rz [4] [.p (Geval_thing.av (Geval_thing.missing))] [] [] Y (QR ?_))))))
 have z:=se H;subst z
 exact ⟨⟨rt,trivial⟩,trivial⟩
theorem g_eval_thingOf_acN:∀ (fu:Nat) {e0:GExpr} {cols1:List GColumn} {r:Geval_thing},g_eval_thingOf fu e0 cols1=some r→ACp Tryz.prog 45 [(.agg (GExpr.cs e0)),(GColumn.ls cols1)] (Geval_thing.av r)
 | 0,_,_,_,H=>(by cases H)
 | fu+1,_,_,_,H=>g_eval_thingOf_ac0 (g_eval_thingOf_acN fu) H
theorem g_eval_thingOf_ac {e0:GExpr} {cols1:List GColumn} {r:Geval_thing} (H:g_eval_thingOf 100000 e0 cols1=some r):ACp Tryz.prog 45 [(.agg (GExpr.cs e0)),(GColumn.ls cols1)] (Geval_thing.av r):=g_eval_thingOf_acN 100000 H
noncomputable def g_eval_truth (t0:Int):Option (GValue) :=
  (if t0=(1:Int) then some GValue.zero else letO ({ { GValue.zero with Kind:=(1:Int) } with Int_:=w64 (t0.tdiv (2:Int)) }) fun t2'1=>some t2'1)
theorem g_eval_truth_ac {t0:Int} {r:GValue} (H:g_eval_truth t0=some r):ACp Tryz.prog 111 [(AV.int t0)] (.agg (GValue.cs r)):=by
 refine ACp_of (AC2_of_body (vs:=[.g (GValue.cs r)]) Tryz.func111 Y Y (lb Y) Y ?_) (fun _=>.same _)
 unfold g_eval_truth at H
 refine as2 [0] [.i t0] [] [] Y (sg 1 Y (rq Y (al 2 in_32 one_32 zc_32 Y) (rz [0,2] [_,.q 2 (0)] [2] [.pure (GValue.cs GValue.zero)] Y (QS (sg 2 Y (rm Y (rp Y (pi Y) (rz [0,2,4] [_,_,.b (decide (t0=1))] [2] [_] Y (if2 H Y (fun h1 H=>?_) (fun h1 H=>?_))))))))))
 ·refine sg 2 Y (rp Y (u_bld Y in_32 one_32 zc_32 pl_32 Y Y) (rq Y (u_sw Y Y in_32 (GValue.len GValue.zero) (GValue.len GValue.zero)) (rz [2] [_] [2] [_] Y (QR ?_))))
  have z:=se H;subst z
  exact ⟨⟨rcw U32 Y in_32 Y (GValue.len GValue.zero),trivial⟩,trivial⟩
 refine as2 [0,2] [_,_] [2] [_] Y (QK (sg 4 Y (rm Y (rp Y (p_iquo Y Y Y (by decide)) (rp Y (u_bld Y in_32 one_32 zc_32 pl_32 Y (af_cons Y Y (GValue.upd0 GValue.zero 1) (af_cons Y Y (GValue.upd1 ((GValue.w0 GValue.zero 1)) (w64 (t0.tdiv 2))) Y))) (rq Y (u_sw Y Y in_32 (GValue.len ((GValue.w1 (GValue.w0 GValue.zero 1) (w64 (t0.tdiv 2))))) (GValue.len GValue.zero)) (rz [2] [_] [2] [.pure (GValue.cs ((GValue.w1 (GValue.w0 GValue.zero 1) (w64 (t0.tdiv 2)))))] Y (gen1 (fun t2'1=>(⟨[(2,.q 2 (0))],[(2,.pure (GValue.cs t2'1))],9⟩:TS)) H ?_))))))))
 intro t2'1 H
 refine QR ?_
 have z:=se H;subst z
 exact ⟨⟨rcw U32 Y in_32 Y (GValue.len t2'1),trivial⟩,trivial⟩
noncomputable def g_eval_number (n0:Int):Option (GValue) :=
  some ({ { GValue.zero with Kind:=(2:Int) } with Int_:=n0 })
theorem g_eval_number_ac {n0:Int} {r:GValue} (H:g_eval_number n0=some r):ACp Tryz.prog 112 [(AV.int n0)] (.agg (GValue.cs r)):=by
 refine ACp_of (AC2_of_body (vs:=[.g (GValue.cs r)]) Tryz.func112 Y Y (lb Y) Y ?_) (fun _=>.same _)
 unfold g_eval_number at H
 refine as2 [0] [.i n0] [] [] Y (sg 1 Y (rq Y (al 2 in_32 one_32 zc_32 Y) (rz [0,2] [_,.q 2 (0)] [2] [.pure (GValue.cs GValue.zero)] Y (sg 3 Y (rm Y (rp Y (u_bld Y in_32 one_32 zc_32 pl_32 Y (af_cons Y Y (GValue.upd0 GValue.zero 2) (af_cons Y Y (GValue.upd1 ((GValue.w0 GValue.zero 2)) n0) Y))) (rq Y (u_sw Y Y in_32 (GValue.len ((GValue.w1 (GValue.w0 GValue.zero 2) n0))) (GValue.len GValue.zero)) (rz [2] [_] [2] [.pure (GValue.cs ((GValue.w1 (GValue.w0 GValue.zero 2) n0)))] Y (QR ?_)))))))))
 have z:=se H;subst z
 exact ⟨⟨rcw U32 Y in_32 Y (GValue.len ((GValue.w1 (GValue.w0 GValue.zero 2) n0))),trivial⟩,trivial⟩
noncomputable def g_eval_one (op0:Int) (v1:GValue):Option (GValue×Int) :=
  (if op0=(17:Int) then (if v1.Kind=(0:Int) then (g_eval_truth (2:Int)).bind fun r'1=>some (r'1,(0:Int)) else (g_eval_truth (0:Int)).bind fun r'2=>some (r'2,(0:Int))) else ((if op0=(4:Int) then some (1:Int) else (if op0=(18:Int) then some (4:Int) else some (2:Int)))).bind fun j'3=>(if v1.Kind=(0:Int) then some (v1,(0:Int)) else (if v1.Kind≠j'3 then some (GValue.zero,(2:Int)) else (if op0=(4:Int) then letO ({ { GValue.zero with Kind:=(1:Int) } with Int_:=w64 ((1:Int) - v1.Int_) }) fun t4'4=>some (t4'4,(0:Int)) else (if op0=(18:Int) then (g_utf8_RuneCountInString v1.Text).bind fun r'5=>(g_eval_number r'5).bind fun r'6=>some (r'6,(0:Int)) else (if v1.Int_=(-9223372036854775808:Int) then some (GValue.zero,(6:Int)) else (g_eval_number (w64 (0 - v1.Int_))).bind fun r'7=>some (r'7,(0:Int))))))))
theorem g_eval_one_ac {op0:Int} {v1:GValue} {r:GValue×Int} (H:g_eval_one op0 v1=some r):ACp Tryz.prog 110 [(AV.int op0),(.agg (GValue.cs v1))] (.tup [(.agg (GValue.cs r.1)),(AV.int r.2)]):=by
 refine ACp_of (AC2_of_body (vs:=[.g (GValue.cs r.1),.i r.2]) Tryz.func110 Y Y (lb Y) Y ?_) (fun _=>.same _)
 unfold g_eval_one at H
 refine as2 [0,1] [.i op0,.g (GValue.cs v1)] [] [] Y (sg 3 Y (rq Y (bx 3 Y) (rq Y (al 4 in_32 one_32 zc_32 Y) (ra Y (rz [0,3,4] [_,.q 3 (0),.q 4 (0)] [3,4] [.pure (GValue.cs v1),.pure (GValue.cs GValue.zero)] Y (QS (sg 2 Y (rm Y (rp Y (pi Y) (rz [0,3,4,8] [_,_,_,.b (decide (op0=17))] [3,4] [_,_] Y (if2 H Y (fun h1 H=>?_) (fun h1 H=>?_))))))))))))
 ·refine QS (sg 3 Y (rf Y U32 Y in_3 Y Y (GValue.len v1) (rp Y (pl U3 Y (GValue.sub0 v1)) (rp Y (pi Y) (rz [4,11] [_,.b (decide (v1.Kind=0))] [4] [_] Y (if2 H Y (fun h2 H=>?_) (fun h2 H=>?_)))))))
  ·refine sg 3 Y (bindK H fun r'1 h3 H=>rp Y (pc Y Tryz.func111 Y (g_eval_truth_ac h3) Y) (rq Y (u_sw Y Y in_32 (GValue.len r'1) (GValue.len GValue.zero)) (ra Y (rz [4,5] [_,.i 0] [4] [.pure (GValue.cs r'1)] Y (QR ?_)))))
   have z:=se H;subst z
   exact ⟨⟨rcw U32 Y in_32 Y (GValue.len r'1),rt,trivial⟩,trivial⟩
  refine as2 [4] [_] [4] [_] Y (QK (sg 3 Y (bindK H fun r'2 h4 H=>rp Y (pc Y Tryz.func111 Y (g_eval_truth_ac h4) Y) (rq Y (u_sw Y Y in_32 (GValue.len r'2) (GValue.len GValue.zero)) (ra Y (rz [4,5] [_,.i 0] [4] [.pure (GValue.cs r'2)] Y (QR ?_)))))))
  have z:=se H;subst z
  exact ⟨⟨rcw U32 Y in_32 Y (GValue.len r'2),rt,trivial⟩,trivial⟩
 refine as2 [0,3,4] [_,_,_] [3,4] [_,_] Y (QK (sg 1 Y (ra Y (rz [0,3,4,6] [_,_,_,.i 2] [3,4] [_,_] Y (QS (bindK H fun j'3 h5 H=>AW2_mid (⟨[(0,.i op0),(3,.q 3 (0)),(4,.q 4 (0)),(6,.i j'3)],[(3,.pure (GValue.cs v1)),(4,.pure (GValue.cs GValue.zero))],49⟩:TS) ?_ ?_))))))
 ·clear H
  have H:=h5
  clear h5
  refine sg 1 Y (rm Y (rz [0,3,4,6,14] [.i op0,.q 3 (0),.q 4 (0),.i 2,.i op0] [3,4] [.pure (GValue.cs v1),.pure (GValue.cs GValue.zero)] Y (QB (sg 2 Y (rp Y (pi Y) (ra Y (rz [0,3,4,6,14,15] [_,_,_,_,_,.b (decide (op0=4))] [3,4] [_,_] Y (if2 H Y (fun h6 H=>?_) (fun h6 H=>?_)))))))))
  ·refine ar 1 Y (ra Y (rz [0,3,4,6] [_,_,_,.i 1] [3,4] [_,_] Y ?_))
   have z:=se H;subst z
   exact rfl
  refine sg 2 Y (rp Y (pi Y) (ra Y (rz [0,3,4,6,17] [_,_,_,_,.b (decide (op0=18))] [3,4] [_,_] Y (if2 H Y (fun h7 H=>?_) (fun h7 H=>?_)))))
  ·refine ar 1 Y (ra Y (rz [0,3,4,6] [_,_,_,.i 4] [3,4] [_,_] Y ?_))
   have z:=se H;subst z
   exact rfl
  refine as2 [0,3,4,6] [_,_,_,_] [3,4] [_,_] Y (QK ?_)
  have z:=se H;subst z
  exact rfl
 refine QS (sg 3 Y (rf Y U32 Y in_3 Y Y (GValue.len v1) (rp Y (pl U3 Y (GValue.sub0 v1)) (rp Y (pi Y) (rz [0,3,4,6,21] [_,_,_,_,.b (decide (v1.Kind=0))] [3,4] [_,_] Y (if2 H Y (fun h8 H=>?_) (fun h8 H=>?_)))))))
 ·refine sg 3 Y (rp Y (pL U32 Y in_32 (Sub.refl _) (GValue.len v1)) (rq Y (u_sw Y Y in_32 (GValue.len v1) (GValue.len GValue.zero)) (ra Y (rz [4,5] [_,.i 0] [4] [.pure (GValue.cs v1)] Y (QR ?_)))))
  have z:=se H;subst z
  exact ⟨⟨rcw U32 Y in_32 Y (GValue.len v1),rt,trivial⟩,trivial⟩
 refine as2 [0,3,4,6] [_,_,_,_] [3,4] [_,_] Y (QK (QS (sg 4 Y (rf Y U32 Y in_3 Y Y (GValue.len v1) (rp Y (pl U3 Y (GValue.sub0 v1)) (rm Y (rp Y (pn Y) (rz [0,3,4,26] [_,_,_,.b (decide (v1.Kind≠j'3))] [3,4] [_,_] Y (if2 H Y (fun h9 H=>?_) (fun h9 H=>?_))))))))))
 ·refine sg 3 Y (rp Y (u_bld Y in_32 one_32 zc_32 pl_32 Y Y) (rq Y (u_sw Y Y in_32 (GValue.len GValue.zero) (GValue.len GValue.zero)) (ra Y (rz [4,5] [_,.i 2] [4] [_] Y (QR ?_)))))
  have z:=se H;subst z
  exact ⟨⟨rcw U32 Y in_32 Y (GValue.len GValue.zero),rt,trivial⟩,trivial⟩
 refine as2 [0,3,4] [_,_,_] [3,4] [_,_] Y (QK (QS (sg 1 Y (rm Y (rz [3,4,28] [_,_,.i op0] [3,4] [_,_] Y (QB (sg 2 Y (rp Y (pi Y) (ra Y (rz [3,4,28,29] [_,_,_,.b (decide (op0=4))] [3,4] [_,_] Y (if2 H Y (fun h10 H=>?_) (fun h10 H=>?_))))))))))))
 ·refine sg 6 Y (rf Y U32 Y in_3 Y Y (GValue.len v1) (rp Y (pl U3 Y (GValue.sub1 v1)) (rp Y (pb Y Y) (rp Y (u_bld Y in_32 one_32 zc_32 pl_32 Y (af_cons Y Y (GValue.upd0 GValue.zero 1) (af_cons Y Y (GValue.upd1 ((GValue.w0 GValue.zero 1)) (w64 (1 - v1.Int_))) Y))) (rq Y (u_sw Y Y in_32 (GValue.len ((GValue.w1 (GValue.w0 GValue.zero 1) (w64 (1 - v1.Int_))))) (GValue.len GValue.zero)) (ra Y (rz [4,5] [_,.i 0] [4] [.pure (GValue.cs ((GValue.w1 (GValue.w0 GValue.zero 1) (w64 (1 - v1.Int_)))))] Y (gen1 (fun t4'4=>(⟨[(4,.q 4 (0)),(5,.i 0)],[(4,.pure (GValue.cs t4'4))],49⟩:TS)) H ?_))))))))
  intro t4'4 H
  refine QR ?_
  have z:=se H;subst z
  exact ⟨⟨rcw U32 Y in_32 Y (GValue.len t4'4),rt,trivial⟩,trivial⟩
 refine sg 2 Y (rp Y (pi Y) (ra Y (rz [3,4,35] [_,_,.b (decide (op0=18))] [3,4] [_,_] Y (if2 H Y (fun h11 H=>?_) (fun h11 H=>?_)))))
 ·refine sg 6 Y (rf Y U32 Y in_9 Y Y (GValue.len v1) (rp Y (pl U9 Y (GValue.sub3 v1)) (bindK H fun r'5 h12 H=>rp Y (pc Y Tryz.func56 Y (g_utf8_RuneCountInString_ac h12) Y) (bindK H fun r'6 h13 H=>rp Y (pc Y Tryz.func112 Y (g_eval_number_ac h13) Y) (rq Y (u_sw Y Y in_32 (GValue.len r'6) (GValue.len GValue.zero)) (ra Y (rz [4,5] [_,.i 0] [4] [.pure (GValue.cs r'6)] Y (QR ?_))))))))
  have z:=se H;subst z
  exact ⟨⟨rcw U32 Y in_32 Y (GValue.len r'6),rt,trivial⟩,trivial⟩
 refine as2 [3,4] [_,_] [3,4] [_,_] Y (QK (QS (sg 3 Y (rf Y U32 Y in_3 Y Y (GValue.len v1) (rp Y (pl U3 Y (GValue.sub1 v1)) (rp Y (pi Y) (rz [3,4,43] [_,_,.b (decide (v1.Int_=(-9223372036854775808:Int)))] [3,4] [_,_] Y (if2 H Y (fun h14 H=>?_) (fun h14 H=>?_)))))))))
 ·refine sg 3 Y (rp Y (u_bld Y in_32 one_32 zc_32 pl_32 Y Y) (rq Y (u_sw Y Y in_32 (GValue.len GValue.zero) (GValue.len GValue.zero)) (ra Y (rz [4,5] [_,.i 6] [4] [_] Y (QR ?_)))))
  have z:=se H;subst z
  exact ⟨⟨rcw U32 Y in_32 Y (GValue.len GValue.zero),rt,trivial⟩,trivial⟩
 refine as2 [3,4] [_,_] [3,4] [_,_] Y (QK (sg 6 Y (rf Y U32 Y in_3 Y Y (GValue.len v1) (rp Y (pl U3 Y (GValue.sub1 v1)) (rp Y (p_neg Y Y) (bindK H fun r'7 h15 H=>rp Y (pc Y Tryz.func112 Y (g_eval_number_ac h15) Y) (rq Y (u_sw Y Y in_32 (GValue.len r'7) (GValue.len GValue.zero)) (ra Y (rz [4,5] [_,.i 0] [4] [.pure (GValue.cs r'7)] Y (QR ?_))))))))))
 have z:=se H;subst z
 exact ⟨⟨rcw U32 Y in_32 Y (GValue.len r'7),rt,trivial⟩,trivial⟩
noncomputable def g_eval_sole_of_b (R':Geval_thing→(List GValue)→Option (GValue×Int)) (s0:Geval_sole) (row1:List GValue):Option (GValue×Int) :=
  (R' s0.a_ row1).bind fun r'1=>(if r'1.2≠(0:Int) then some (GValue.zero,r'1.2) else (g_eval_one s0.op_ r'1.1).bind fun r'2=>some (r'2.1,r'2.2))
theorem g_eval_sole_of_ac0 {R' : Geval_thing → (List GValue) → Option (GValue × Int)} (hR : ∀ {x : Geval_thing} {a0 : List GValue} {r : GValue × Int}, R' x a0 = some r → IC Tryz.prog (Geval_thing.val x) "chirograph/eval.of" [(GValue.ls a0)] (.tup [(.agg (GValue.cs r.1)), (AV.int r.2)])) {s0 : Geval_sole} {row1 : List GValue} {r : GValue × Int} (H : g_eval_sole_of_b R' s0 row1 = some r) : ACp Tryz.prog 109 [(.agg (Geval_sole.cs s0)), (GValue.ls row1)] (.tup [(.agg (GValue.cs r.1)), (AV.int r.2)]) := by
 refine ACp_of (AC2_of_body (vs:=[.g (GValue.cs r.1),.i r.2]) Tryz.func109 Y Y (lb Y) Y ?_) (fun _=>.same _)
 unfold g_eval_sole_of_b at H
 refine as2 [0,1] [.g (Geval_sole.cs s0),.p (GValue.ls row1)] [] [] Y (sg 3 Y (rq Y (bx 2 Y) (rq Y (al 4 in_32 one_32 zc_32 Y) (ra Y (rz [1,2,4] [_,.q 2 (0),.q 4 (0)] [2,4] [.pure (Geval_sole.cs s0),.pure (GValue.cs GValue.zero)] Y (sg 10 Y (rf Y U108 Y in_86 Y Y (Geval_sole.len s0) (rp Y (pl U86 Y (Geval_sole.sub1 s0)) (rm Y (bindK H fun r'1 h1 H=>rp Y (p_calli Y Y (hR h1) ⟨Y,trivial⟩) (rm Y (rp Y (pe Y) (rp Y (pe Y) (rq Y (al 6 in_32 one_32 zc_32 Y) (rq Y (u_sw Y Y in_32 (GValue.len r'1.1) (GValue.len GValue.zero)) (ra Y (rz [2,4,6,7] [_,_,.q 6 (0),.i r'1.2] [2,4,6] [_,_,.pure (GValue.cs r'1.1)] Y (QS (sg 2 Y (rm Y (rp Y (pn Y) (rz [2,4,6,7,16] [_,_,_,_,.b (decide (r'1.2≠0))] [2,4,6] [_,_,_] Y ?_))))))))))))))))))))))
 refine if2 H Y (fun h2 H=>?_) (fun h2 H=>?_)
 ·refine sg 4 Y (rp Y (u_bld Y in_32 one_32 zc_32 pl_32 Y Y) (rm Y (rq Y (u_sw Y Y in_32 (GValue.len GValue.zero) (GValue.len GValue.zero)) (ra Y (rz [4,5] [_,.i r'1.2] [4] [_] Y (QR ?_))))))
  have z:=se H;subst z
  exact ⟨⟨rcw U32 Y in_32 Y (GValue.len GValue.zero),rt,trivial⟩,trivial⟩
 refine as2 [2,4,6] [_,_,_] [2,4,6] [_,_,_] Y (QK (sg 8 Y (rf Y U108 Y in_3 Y Y (Geval_sole.len s0) (rp Y (pl U3 Y (Geval_sole.sub0 s0)) (rp Y (pL U32 Y in_32 (Sub.refl _) (GValue.len r'1.1)) (bindK H fun r'2 h3 H=>rp Y (pc Y Tryz.func110 Y (g_eval_one_ac h3) Y) (rp Y (pe Y) (rp Y (pe Y) (rq Y (u_sw Y Y in_32 (GValue.len r'2.1) (GValue.len GValue.zero)) (ra Y (rz [4,5] [_,.i r'2.2] [4] [.pure (GValue.cs r'2.1)] Y (QR ?_))))))))))))
 have z:=se H;subst z
 exact ⟨⟨rcw U32 Y in_32 Y (GValue.len r'2.1),rt,trivial⟩,trivial⟩
noncomputable def g_eval_part (v0:GValue):Option (Int×Bool) :=
  (if v0.Kind=(0:Int) then some ((1:Int),true) else (if v0.Kind=(1:Int) then some (w64 ((2:Int) * v0.Int_),true) else some ((0:Int),false)))
theorem g_eval_part_ac {v0:GValue} {r:Int×Bool} (H:g_eval_part v0=some r):ACp Tryz.prog 119 [(.agg (GValue.cs v0))] (.tup [(AV.int r.1),(AV.bool r.2)]):=by
 refine ACp_of (AC2_of_body (vs:=[.i r.1,.b r.2]) Tryz.func119 Y Y (lb Y) Y ?_) (fun _=>.same _)
 unfold g_eval_part at H
 refine as2 [0] [.g (GValue.cs v0)] [] [] Y (sg 3 Y (rq Y (bx 1 Y) (ra Y (ra Y (rz [1] [.q 1 (0)] [1] [.pure (GValue.cs v0)] Y (QS (sg 2 Y (rf Y U32 Y in_3 Y Y (GValue.len v0) (rp Y (pl U3 Y (GValue.sub0 v0)) (rz [1,5] [_,.i v0.Kind] [1] [_] Y (QB (sg 2 Y (rp Y (pi Y) (ra Y (rz [1,5,6] [_,_,.b (decide (v0.Kind=0))] [1] [_] Y (if2 H Y (fun h1 H=>?_) (fun h1 H=>?_)))))))))))))))))
 ·refine sg 2 Y (ra Y (ra Y (rz [2,3] [.i 1,.b true] [] [] Y (QR ?_))))
  have z:=se H;subst z
  exact ⟨⟨rt,rt,trivial⟩,trivial⟩
 refine sg 2 Y (rp Y (pi Y) (ra Y (rz [1,8] [_,.b (decide (v0.Kind=1))] [1] [_] Y (if2 H Y (fun h2 H=>?_) (fun h2 H=>?_)))))
 ·refine sg 5 Y (rf Y U32 Y in_3 Y Y (GValue.len v0) (rp Y (pl U3 Y (GValue.sub1 v0)) (rp Y (pb Y Y) (ra Y (ra Y (rz [2,3] [.i (w64 (2 * v0.Int_)),.b true] [] [] Y (QR ?_)))))))
  have z:=se H;subst z
  exact ⟨⟨rt,rt,trivial⟩,trivial⟩
 refine as2 [] [] [] [] Y (QK (sg 2 Y (ra Y (ra Y (rz [2,3] [.i 0,.b false] [] [] Y (QR ?_))))))
 have z:=se H;subst z
 exact ⟨⟨rt,rt,trivial⟩,trivial⟩
noncomputable def g_value_truth_l0 (l0:List Int):Int→Option (Int⊕(Int⊕Unit))
  | t7_0=>(if t7_0 < (l0.length:Int) then if 0≤t7_0∧t7_0 < (l0.length:Int) then (if ((lrd l0 t7_0.toNat) < (0:Int))∨((lrd l0 t7_0.toNat) > (2:Int)) then some (.inr (.inl (2:Int))) else some (.inl (w64 (t7_0+(1:Int))))) else none else some (.inr (.inr ())))
noncomputable def g_value_truth (l0:List Int):Option (Int) :=
  (loopO (g_value_truth_l0 l0) (0:Int)).bind fun o'4=>match o'4 with | .inl y'5=>some y'5 | .inr (y'6)=>some (0:Int)
theorem g_value_truth_ac {l0:List Int} {r:Int} (H:g_value_truth l0=some r):ACp Tryz.prog 126 [((fun q:List Int=>AV.lst (q.map AV.int) q.length) l0)] (AV.int r):=by
 refine ACp_of (AC2_of_body (vs:=[.i r]) Tryz.func126 Y Y (lb Y) Y ?_) (fun _=>.same _)
 unfold g_value_truth at H
 refine as2 [0] [.p ((fun q:List Int=>AV.lst (q.map AV.int) q.length) l0)] [] [] Y (sg 1 Y (ra Y (rz [0] [_] [] [] Y (QS (sg 3 Y (rm Y (rp Y (p_lenl Y U76 Y Y) (rm Y (rz [5,6,7] [.p ((fun q:List Int=>AV.lst (q.map AV.int) q.length) l0),.i (l0.length:Int),.i 0] [] [] Y (QB (as2 [5,6,7] [_,_,_] [] [] Y (bindK H fun o'4 h5 H=>AW2_loopO (fun a'1:Int=>(⟨[(5,.p ((fun q:List Int=>AV.lst (q.map AV.int) q.length) l0)),(6,.i (l0.length:Int)),(7,.i a'1)],[],18⟩:TS)) (fun (o:Int⊕Unit) e s'=>match o with | .inl y'2=>e=Go.Exit.ret∧ResAll Tryz.prog s' [ResultVar.tmp 2] [.i y'2]∧HFits s' [] | .inr (y'3)=>e=Go.Exit.exit 0∧s'=(⟨[],[],18⟩:TS)) h5 Y (fun t7_0 x hx=>?_) (fun e s' hs=>?_)))))))))))))
 ·clear H
  have H:=hx
  clear hx
  unfold g_value_truth_l0 at H
  refine sg 1 Y (rp Y (pb Y Y) (rz [5,6,7,8] [.p ((fun q:List Int=>AV.lst (q.map AV.int) q.length) l0),.i (l0.length:Int),.i t7_0,.b (decide (t7_0 < (l0.length:Int)))] [] [] Y (QS (if2 H Y (fun h1 H=>?_) (fun h1 H=>?_)))))
  ·refine as2 [5,6,7] [_,_,_] [] [] Y (QK (QS (QB (sg 3 Y (chkK H fun h2 H=>rp Y (u_ixl Y Y U76 in_3 Y Y (ixe h2) (ixn h2) (lne (ixn h2))) (rp Y (pl U3 Y (Sub.map default (ixn h2))) (ra Y (rz [4,5,6,7] [.i (lrd l0 t7_0.toNat),_,_,_] [] [] Y (QS (AW2_mid (⟨[(5,.p ((fun q:List Int=>AV.lst (q.map AV.int) q.length) l0)),(6,.i (l0.length:Int)),(7,.i t7_0),(16,.b (decide (((lrd l0 t7_0.toNat) < 0)∨((lrd l0 t7_0.toNat) > 2))))],[],18⟩:TS) ?_ ?_))))))))))
   ·refine ar 6 Y (rm Y (rp Y (pb Y Y) (rm Y ?_)))
    refine (Classical.em ((lrd l0 t7_0.toNat) < 0)).elim (fun h3=>?_) (fun h3=>?_)
    ·exact rO Y (dT h3) Y (rO Y (dT h3) Y (rp Y (p_pkt Y Y (dT h3) (tb (dT (p:=((lrd l0 t7_0.toNat) < 0)∨((lrd l0 t7_0.toNat) > 2)) (Or.inl h3)).symm)) (rend Y Y)))
    exact rn Y (dF h3) Y (p_move Y Y) (rn Y (dF h3) Y (pb Y Y) (rp Y (p_pkf Y Y (dF h3) (tb ((or_l (q:=(lrd l0 t7_0.toNat) > 2) h3)))) (rend Y Y)))
   refine if2 H Y (fun h4 H=>?_) (fun h4 H=>?_)
   ·refine sg 1 Y (ra Y (rz [2] [.i 2] [] [] Y (QR ?_)))
    have z:=se H;subst z
    exact ⟨Y,⟨rt,trivial⟩,trivial⟩
   refine as2 [5,6,7] [_,_,_] [] [] Y (QK (ar 2 Y (rp Y (pb Y Y) (rm Y (rz [5,6,7] [_,_,.i (w64 (t7_0+1))] [] [] Y ?_)))))
   have z:=se H;subst z
   exact ⟨Y,Y⟩
  refine as2 [] [] [] [] Y (AW2_exit (thenQ2_exit ?_))
  have z:=se H;subst z
  exact ⟨Y,Y⟩
 rcases o'4 with y'5 | y'6
 ·obtain ⟨rfl,hs⟩:=hs
  refine ⟨by simp,?_⟩
  have z:=se H;subst z
  exact ⟨hs.1,hs.2⟩
 obtain ⟨rfl,rfl⟩:=hs
 refine ⟨by simp,?_⟩
 refine blockQ2_exit (sg 1 Y (ra Y (rz [2] [.i 0] [] [] Y (QR ?_))))
 have z:=se H;subst z
 exact ⟨⟨rt,trivial⟩,trivial⟩
noncomputable def g_value_And (a0:Int) (b1:Int):Option (Int×Int) :=
  (g_value_truth ([a0,b1]:List Int)).bind fun r'1=>(if r'1≠(0:Int) then some ((0:Int),r'1) else some (imin a0 b1,(0:Int)))
theorem g_value_And_ac {a0:Int} {b1:Int} {r:Int×Int} (H:g_value_And a0 b1=some r):ACp Tryz.prog 120 [(AV.int a0),(AV.int b1)] (.tup [(AV.int r.1),(AV.int r.2)]):=by
 refine ACp_of (AC2_of_body (vs:=[.i r.1,.i r.2]) Tryz.func120 Y Y (lb Y) Y ?_) (fun _=>.same _)
 unfold g_value_And at H
 refine as2 [0,1] [.i a0,.i b1] [] [] Y (sg 2 Y (ra Y (ra Y (rz [0,1] [_,_] [] [] Y (QS (sg 5 Y (rm Y (rm Y (rq Y (MakeD.opD (u_bs 9 Y U76 in_3 Y one_3 (by decide) (by decide) Y Y Y) Y Y Y Y) (bindK H fun r'1 h1 H=>rp Y (p_calll Y Y Y Tryz.func126 Y Y (g_value_truth_ac h1) Y ⟨lend_o Y Y Y (ml AV.int ([a0,b1]:List Int)) (by decide),trivial⟩) (ra Y (rz [0,1,6] [_,_,.i r'1] [] [] Y (sg 2 Y (rm Y (rp Y (pn Y) (rz [0,1,6,12] [_,_,_,.b (decide (r'1≠0))] [] [] Y (if2 H Y (fun h2 H=>?_) (fun h2 H=>?_))))))))))))))))))
 ·refine sg 3 Y (rm Y (ra Y (ra Y (rz [4,5] [.i 0,.i r'1] [] [] Y (QR ?_)))))
  have z:=se H;subst z
  exact ⟨⟨rt,rt,trivial⟩,trivial⟩
 refine as2 [0,1] [_,_] [] [] Y (QK (sg 5 Y (rm Y (rm Y (rp Y (p_imin Y Y Y) (ra Y (ra Y (rz [4,5] [.i (imin a0 b1),.i 0] [] [] Y (QR ?_)))))))))
 have z:=se H;subst z
 exact ⟨⟨rt,rt,trivial⟩,trivial⟩
noncomputable def g_value_Or (a0:Int) (b1:Int):Option (Int×Int) :=
  (g_value_truth ([a0,b1]:List Int)).bind fun r'1=>(if r'1≠(0:Int) then some ((0:Int),r'1) else some (imax a0 b1,(0:Int)))
theorem g_value_Or_ac {a0:Int} {b1:Int} {r:Int×Int} (H:g_value_Or a0 b1=some r):ACp Tryz.prog 121 [(AV.int a0),(AV.int b1)] (.tup [(AV.int r.1),(AV.int r.2)]):=by
 refine ACp_of (AC2_of_body (vs:=[.i r.1,.i r.2]) Tryz.func121 Y Y (lb Y) Y ?_) (fun _=>.same _)
 unfold g_value_Or at H
 refine as2 [0,1] [.i a0,.i b1] [] [] Y (sg 2 Y (ra Y (ra Y (rz [0,1] [_,_] [] [] Y (QS (sg 5 Y (rm Y (rm Y (rq Y (MakeD.opD (u_bs 9 Y U76 in_3 Y one_3 (by decide) (by decide) Y Y Y) Y Y Y Y) (bindK H fun r'1 h1 H=>rp Y (p_calll Y Y Y Tryz.func126 Y Y (g_value_truth_ac h1) Y ⟨lend_o Y Y Y (ml AV.int ([a0,b1]:List Int)) (by decide),trivial⟩) (ra Y (rz [0,1,6] [_,_,.i r'1] [] [] Y (sg 2 Y (rm Y (rp Y (pn Y) (rz [0,1,6,12] [_,_,_,.b (decide (r'1≠0))] [] [] Y (if2 H Y (fun h2 H=>?_) (fun h2 H=>?_))))))))))))))))))
 ·refine sg 3 Y (rm Y (ra Y (ra Y (rz [4,5] [.i 0,.i r'1] [] [] Y (QR ?_)))))
  have z:=se H;subst z
  exact ⟨⟨rt,rt,trivial⟩,trivial⟩
 refine as2 [0,1] [_,_] [] [] Y (QK (sg 5 Y (rm Y (rm Y (rp Y (p_imax Y Y Y) (ra Y (ra Y (rz [4,5] [.i (imax a0 b1),.i 0] [] [] Y (QR ?_)))))))))
 have z:=se H;subst z
 exact ⟨⟨rt,rt,trivial⟩,trivial⟩
noncomputable def g_eval_logic (op0:Int) (v1:GValue) (w2:GValue):Option (GValue×Int) :=
  (g_eval_part v1).bind fun r'1=>(g_eval_part w2).bind fun r'2=>(if ((!r'1.2)=true)∨((!r'2.2)=true) then some (GValue.zero,(2:Int)) else (g_value_And r'1.1 r'2.1).bind fun r'3=>((if op0=(16:Int) then (g_value_Or r'1.1 r'2.1).bind fun r'5=>some r'5.1 else some r'3.1)).bind fun j'4=>(g_eval_truth j'4).bind fun r'6=>some (r'6,(0:Int)))
theorem g_eval_logic_ac {op0:Int} {v1:GValue} {w2:GValue} {r:GValue×Int} (H:g_eval_logic op0 v1 w2=some r):ACp Tryz.prog 115 [(AV.int op0),(.agg (GValue.cs v1)),(.agg (GValue.cs w2))] (.tup [(.agg (GValue.cs r.1)),(AV.int r.2)]):=by
 refine ACp_of (AC2_of_body (vs:=[.g (GValue.cs r.1),.i r.2]) Tryz.func115 Y Y (lb Y) Y ?_) (fun _=>.same _)
 unfold g_eval_logic at H
 refine as2 [0,1,2] [.i op0,.g (GValue.cs v1),.g (GValue.cs w2)] [] [] Y (sg 4 Y (rq Y (bx 4 Y) (rq Y (bx 5 Y) (rq Y (al 6 in_32 one_32 zc_32 Y) (ra Y (rz [0,4,5,6] [_,.q 4 (0),.q 5 (0),.q 6 (0)] [4,5,6] [.pure (GValue.cs v1),.pure (GValue.cs w2),.pure (GValue.cs GValue.zero)] Y (sg 7 Y (rp Y (pL U32 Y in_32 (Sub.refl _) (GValue.len v1)) (bindK H fun r'1 h1 H=>rp Y (pc Y Tryz.func119 Y (g_eval_part_ac h1) Y) (rm Y (rp Y (pe Y) (rp Y (pe Y) (ra Y (ra Y (rz [0,5,6,8,9] [_,_,_,.i r'1.1,.b r'1.2] [5,6] [_,_] Y (sg 7 Y (rp Y (pL U32 Y in_32 (Sub.refl _) (GValue.len w2)) (bindK H fun r'2 h2 H=>rp Y (pc Y Tryz.func119 Y (g_eval_part_ac h2) Y) (rm Y (rp Y (pe Y) (rp Y (pe Y) ?_)))))))))))))))))))))
 refine ra Y (ra Y (rz [0,6,8,9,10,11] [_,_,_,_,.i r'2.1,.b r'2.2] [6] [_] Y (QS (QS (AW2_mid (⟨[(0,.i op0),(6,.q 6 (0)),(8,.i r'1.1),(10,.i r'2.1),(29,.b (decide (((!r'1.2)=true)∨((!r'2.2)=true))))],[(6,.pure (GValue.cs GValue.zero))],47⟩:TS) ?_ ?_)))))
 ·refine ar 6 Y (rm Y (rp Y (p_not Y Y) (rm Y ?_)))
  refine (Classical.em ((!r'1.2)=true)).elim (fun h3=>?_) (fun h3=>?_)
  ·exact rO Y h3 Y (rO Y h3 Y (rp Y (p_pkt Y Y h3 (tb (dT (p:=((!r'1.2)=true)∨((!r'2.2)=true)) (Or.inl h3)).symm)) (rend Y Y)))
  exact rn Y (bfalse h3) Y (p_move Y Y) (rn Y (bfalse h3) Y (p_not Y Y) (rp Y (p_pkf Y Y (bfalse h3) (tb ((bdec _).trans (or_l (q:=(!r'2.2)=true) h3)))) (rend Y Y)))
 refine if2 H Y (fun h4 H=>?_) (fun h4 H=>?_)
 ·refine sg 3 Y (rp Y (u_bld Y in_32 one_32 zc_32 pl_32 Y Y) (rq Y (u_sw Y Y in_32 (GValue.len GValue.zero) (GValue.len GValue.zero)) (ra Y (rz [6,7] [_,.i 2] [6] [_] Y (QR ?_)))))
  have z:=se H;subst z
  exact ⟨⟨rcw U32 Y in_32 Y (GValue.len GValue.zero),rt,trivial⟩,trivial⟩
 refine as2 [0,6,8,10] [_,_,_,_] [6] [_] Y (QK (sg 8 Y (rm Y (rm Y (bindK H fun r'3 h5 H=>rp Y (pc Y Tryz.func120 Y (g_value_And_ac h5) Y) (rm Y (rp Y (pe Y) (rp Y (pe Y) (ra Y (ra Y (rz [0,6,8,10,12] [_,_,_,_,.i r'3.1] [6] [_] Y (QS (bindK H fun j'4 h6 H=>AW2_mid (⟨[(6,.q 6 (0)),(12,.i j'4)],[(6,.pure (GValue.cs GValue.zero))],47⟩:TS) ?_ ?_)))))))))))))
 ·clear H
  have H:=h6
  clear h6
  refine sg 2 Y (rm Y (rp Y (pi Y) (rz [6,8,10,12,38] [.q 6 (0),.i r'1.1,.i r'2.1,.i r'3.1,.b (decide (op0=16))] [6] [.pure (GValue.cs GValue.zero)] Y (if2 H Y (fun h7 H=>?_) (fun h7 H=>?_)))))
  ·refine ar 7 Y (rm Y (rm Y (bindK H fun r'5 h8 H=>rp Y (pc Y Tryz.func121 Y (g_value_Or_ac h8) Y) (rm Y (rp Y (pe Y) (rp Y (pe Y) (ra Y (rz [6,12] [_,.i r'5.1] [6] [_] Y ?_))))))))
   have z:=se H;subst z
   exact rfl
  refine as2 [6,12] [_,_] [6] [_] Y (QK ?_)
  have z:=se H;subst z
  exact rfl
 refine sg 4 Y (rm Y (bindK H fun r'6 h9 H=>rp Y (pc Y Tryz.func111 Y (g_eval_truth_ac h9) Y) (rq Y (u_sw Y Y in_32 (GValue.len r'6) (GValue.len GValue.zero)) (ra Y (rz [6,7] [_,.i 0] [6] [.pure (GValue.cs r'6)] Y (QR ?_))))))
 have z:=se H;subst z
 exact ⟨⟨rcw U32 Y in_32 Y (GValue.len r'6),rt,trivial⟩,trivial⟩
noncomputable def g_eval_asked (kind0:Int) (v1:GValue) (w2:GValue):Option (Bool) :=
  some (decide (((v1.Kind=(0:Int))∨(v1.Kind=kind0))∧((w2.Kind=(0:Int))∨(w2.Kind=kind0))))
theorem g_eval_asked_ac {kind0:Int} {v1:GValue} {w2:GValue} {r:Bool} (H:g_eval_asked kind0 v1 w2=some r):ACp Tryz.prog 122 [(AV.int kind0),(.agg (GValue.cs v1)),(.agg (GValue.cs w2))] (AV.bool r):=by
 refine ACp_of (AC2_of_body (vs:=[.b r]) Tryz.func122 Y Y (lb Y) Y ?_) (fun _=>.same _)
 unfold g_eval_asked at H
 refine as2 [0,1,2] [.i kind0,.g (GValue.cs v1),.g (GValue.cs w2)] [] [] Y (sg 3 Y (rq Y (bx 4 Y) (rq Y (bx 5 Y) (ra Y (rz [0,4,5] [_,.q 4 (0),.q 5 (0)] [4,5] [.pure (GValue.cs v1),.pure (GValue.cs w2)] Y (QS (AW2_mid (⟨[(6,.b (decide (((v1.Kind=0)∨(v1.Kind=kind0))∧((w2.Kind=0)∨(w2.Kind=kind0)))))],[],27⟩:TS) ?_ ?_)))))))
 ·refine ar 21 Y (rf Y U32 Y in_3 Y Y (GValue.len v1) (rp Y (pl U3 Y (GValue.sub0 v1)) (rp Y (pi Y) (rm Y ?_))))
  refine (Classical.em (v1.Kind=0)).elim (fun h1=>?_) (fun h1=>?_)
  ·refine rO Y (dT h1) Y (rO Y (dT h1) Y (rO Y (dT h1) Y (rO Y (dT h1) Y (rp Y (p_pkt Y Y (dT h1) (tb (dT (p:=(v1.Kind=0)∨(v1.Kind=kind0)) (Or.inl h1)).symm)) (rm Y (rn Y (dT (p:=(v1.Kind=0)∨(v1.Kind=kind0)) (Or.inl h1)) Y (uf U32 Y in_3 Y (GValue.len w2)) (rn Y (dT (p:=(v1.Kind=0)∨(v1.Kind=kind0)) (Or.inl h1)) Y (pl U3 Y (GValue.sub0 w2)) (rn Y (dT (p:=(v1.Kind=0)∨(v1.Kind=kind0)) (Or.inl h1)) Y (pi Y) (rn Y (dT (p:=(v1.Kind=0)∨(v1.Kind=kind0)) (Or.inl h1)) Y (p_move Y Y) ?_)))))))))
   refine (Classical.em (w2.Kind=0)).elim (fun h2=>?_) (fun h2=>?_)
   ·exact rO Y (dT h2) Y (rO Y (dT h2) Y (rO Y (dT h2) Y (rO Y (dT h2) Y (rn Y (dT (p:=(v1.Kind=0)∨(v1.Kind=kind0)) (Or.inl h1)) Y (p_pkt Y Y (dT h2) (tb (dT (p:=(w2.Kind=0)∨(w2.Kind=kind0)) (Or.inl h2)).symm)) (rp Y (p_pkt Y Y (dT (p:=(v1.Kind=0)∨(v1.Kind=kind0)) (Or.inl h1)) (tb ((and_l (p:=(v1.Kind=0)∨(v1.Kind=kind0)) (q:=(w2.Kind=0)∨(w2.Kind=kind0)) (Or.inl h1))))) (ra Y (rend Y Y)))))))
   exact rn Y (dF h2) Y (uf U32 Y in_3 Y (GValue.len w2)) (rn Y (dF h2) Y (pl U3 Y (GValue.sub0 w2)) (rn Y (dF h2) Y (p_move Y Y) (rn Y (dF h2) Y (pi Y) (rn Y (dT (p:=(v1.Kind=0)∨(v1.Kind=kind0)) (Or.inl h1)) Y (p_pkf Y Y (dF h2) (tb ((or_l (q:=w2.Kind=kind0) h2)))) (rp Y (p_pkt Y Y (dT (p:=(v1.Kind=0)∨(v1.Kind=kind0)) (Or.inl h1)) (tb ((and_l (p:=(v1.Kind=0)∨(v1.Kind=kind0)) (q:=(w2.Kind=0)∨(w2.Kind=kind0)) (Or.inl h1))))) (ra Y (rend Y Y)))))))
  refine rn Y (dF h1) Y (uf U32 Y in_3 Y (GValue.len v1)) (rn Y (dF h1) Y (pl U3 Y (GValue.sub0 v1)) (rn Y (dF h1) Y (p_move Y Y) (rn Y (dF h1) Y (pi Y) (rp Y (p_pkf Y Y (dF h1) (tb ((or_l (q:=v1.Kind=kind0) h1)))) (rm Y ?_)))))
  refine (Classical.em (v1.Kind=kind0)).elim (fun h3=>?_) (fun h3=>?_)
  ·refine rn Y (dT (p:=(v1.Kind=0)∨(v1.Kind=kind0)) (Or.inr h3)) Y (uf U32 Y in_3 Y (GValue.len w2)) (rn Y (dT (p:=(v1.Kind=0)∨(v1.Kind=kind0)) (Or.inr h3)) Y (pl U3 Y (GValue.sub0 w2)) (rn Y (dT (p:=(v1.Kind=0)∨(v1.Kind=kind0)) (Or.inr h3)) Y (pi Y) (rn Y (dT (p:=(v1.Kind=0)∨(v1.Kind=kind0)) (Or.inr h3)) Y (p_move Y Y) ?_)))
   refine (Classical.em (w2.Kind=0)).elim (fun h4=>?_) (fun h4=>?_)
   ·exact rO Y (dT h4) Y (rO Y (dT h4) Y (rO Y (dT h4) Y (rO Y (dT h4) Y (rn Y (dT (p:=(v1.Kind=0)∨(v1.Kind=kind0)) (Or.inr h3)) Y (p_pkt Y Y (dT h4) (tb (dT (p:=(w2.Kind=0)∨(w2.Kind=kind0)) (Or.inl h4)).symm)) (rp Y (p_pkt Y Y (dT (p:=(v1.Kind=0)∨(v1.Kind=kind0)) (Or.inr h3)) (tb ((and_l (p:=(v1.Kind=0)∨(v1.Kind=kind0)) (q:=(w2.Kind=0)∨(w2.Kind=kind0)) (Or.inr h3))))) (ra Y (rend Y Y)))))))
   exact rn Y (dF h4) Y (uf U32 Y in_3 Y (GValue.len w2)) (rn Y (dF h4) Y (pl U3 Y (GValue.sub0 w2)) (rn Y (dF h4) Y (p_move Y Y) (rn Y (dF h4) Y (pi Y) (rn Y (dT (p:=(v1.Kind=0)∨(v1.Kind=kind0)) (Or.inr h3)) Y (p_pkf Y Y (dF h4) (tb ((or_l (q:=w2.Kind=kind0) h4)))) (rp Y (p_pkt Y Y (dT (p:=(v1.Kind=0)∨(v1.Kind=kind0)) (Or.inr h3)) (tb ((and_l (p:=(v1.Kind=0)∨(v1.Kind=kind0)) (q:=(w2.Kind=0)∨(w2.Kind=kind0)) (Or.inr h3))))) (ra Y (rend Y Y)))))))
  exact rO Y (dF (p:=(v1.Kind=0)∨(v1.Kind=kind0)) (not_or.2 ⟨h1,h3⟩)) Y (rO Y (dF (p:=(v1.Kind=0)∨(v1.Kind=kind0)) (not_or.2 ⟨h1,h3⟩)) Y (rO Y (dF (p:=(v1.Kind=0)∨(v1.Kind=kind0)) (not_or.2 ⟨h1,h3⟩)) Y (rO Y (dF (p:=(v1.Kind=0)∨(v1.Kind=kind0)) (not_or.2 ⟨h1,h3⟩)) Y (r_off2 Y Y Y Y Y Y (r_off2 Y Y Y Y Y Y (r_off2 Y Y Y Y Y Y (r_off2 Y Y Y Y Y Y (rO Y (dF (p:=(v1.Kind=0)∨(v1.Kind=kind0)) (not_or.2 ⟨h1,h3⟩)) Y (rp Y (p_pkf Y Y (dF (p:=(v1.Kind=0)∨(v1.Kind=kind0)) (not_or.2 ⟨h1,h3⟩)) (tb (dF (p:=((v1.Kind=0)∨(v1.Kind=kind0))∧((w2.Kind=0)∨(w2.Kind=kind0))) (fun x=>(not_or.2 ⟨h1,h3⟩) x.1)).symm)) (ra Y (rend Y Y)))))))))))
 refine QR ?_
 have z:=se H;subst z
 exact ⟨⟨rt,trivial⟩,trivial⟩
noncomputable def g_eval_join (v0:GValue) (w1:GValue):Option (GValue×Int) :=
  (g_eval_asked (4:Int) v0 w1).bind fun r'1=>(if (!r'1)=true then some (GValue.zero,(2:Int)) else (if (v0.Kind=(0:Int))∨(w1.Kind=(0:Int)) then some (GValue.zero,(0:Int)) else (if w64 ((v0.Text.length:Int)+(w1.Text.length:Int)) > (40:Int) then some (GValue.zero,(1:Int)) else if v0.Text.length+w1.Text.length≤9223372036854775807 then letO ({ { GValue.zero with Kind:=(4:Int) } with Text:=v0.Text++w1.Text }) fun t4'2=>some (t4'2,(0:Int)) else none)))
theorem g_eval_join_ac {v0:GValue} {w1:GValue} {r:GValue×Int} (H:g_eval_join v0 w1=some r):ACp Tryz.prog 116 [(.agg (GValue.cs v0)),(.agg (GValue.cs w1))] (.tup [(.agg (GValue.cs r.1)),(AV.int r.2)]):=by
 refine ACp_of (AC2_of_body (vs:=[.g (GValue.cs r.1),.i r.2]) Tryz.func116 Y Y (lb Y) Y ?_) (fun _=>.same _)
 unfold g_eval_join at H
 refine as2 [0,1] [.g (GValue.cs v0),.g (GValue.cs w1)] [] [] Y (sg 4 Y (rq Y (bx 2 Y) (rq Y (bx 3 Y) (rq Y (al 4 in_32 one_32 zc_32 Y) (ra Y (rz [2,3,4] [.q 2 (0),.q 3 (0),.q 4 (0)] [2,3,4] [.pure (GValue.cs v0),.pure (GValue.cs w1),.pure (GValue.cs GValue.zero)] Y (QS (sg 4 Y (rp Y (pL U32 Y in_32 (Sub.refl _) (GValue.len v0)) (rp Y (pL U32 Y in_32 (Sub.refl _) (GValue.len w1)) (bindK H fun r'1 h1 H=>rp Y (pc Y Tryz.func122 Y (g_eval_asked_ac h1) Y) (rp Y (p_not Y Y) (rz [2,3,4,9] [_,_,_,.b (!r'1)] [2,3,4] [_,_,_] Y (AW2_cond Y (fun h2=>?_) (fun h2=>?_)))))))))))))))
 ·replace H:=ite_then h2 H
  refine sg 3 Y (rp Y (u_bld Y in_32 one_32 zc_32 pl_32 Y Y) (rq Y (u_sw Y Y in_32 (GValue.len GValue.zero) (GValue.len GValue.zero)) (ra Y (rz [4,5] [.q 4 (0),.i 2] [4] [.pure (GValue.cs GValue.zero)] Y (QR ?_)))))
  have z:=se H;subst z
  exact ⟨⟨rcw U32 Y in_32 Y (GValue.len GValue.zero),rt,trivial⟩,trivial⟩
 replace H:=ite_else (ne_true h2) H
 refine as2 [2,3,4] [.q 2 (0),.q 3 (0),.q 4 (0)] [2,3,4] [.pure (GValue.cs v0),.pure (GValue.cs w1),.pure (GValue.cs GValue.zero)] Y (QK (QS (QS (AW2_mid (⟨[(2,.q 2 (0)),(3,.q 3 (0)),(4,.q 4 (0)),(18,.b (decide ((v0.Kind=0)∨(w1.Kind=0))))],[(2,.pure (GValue.cs v0)),(3,.pure (GValue.cs w1)),(4,.pure (GValue.cs GValue.zero))],35⟩:TS) ?_ ?_))))
 ·refine ar 8 Y (rf Y U32 Y in_3 Y Y (GValue.len v0) (rp Y (pl U3 Y (GValue.sub0 v0)) (rp Y (pi Y) (rm Y ?_))))
  refine (Classical.em (v0.Kind=0)).elim (fun h3=>?_) (fun h3=>?_)
  ·exact rO Y (dT h3) Y (rO Y (dT h3) Y (rO Y (dT h3) Y (rp Y (p_pkt Y Y (dT h3) (tb (dT (p:=(v0.Kind=0)∨(w1.Kind=0)) (Or.inl h3)).symm)) (rend Y Y))))
  exact rn Y (dF h3) Y (uf U32 Y in_3 Y (GValue.len w1)) (rn Y (dF h3) Y (pl U3 Y (GValue.sub0 w1)) (rn Y (dF h3) Y (pi Y) (rp Y (p_pkf Y Y (dF h3) (tb ((or_l (q:=w1.Kind=0) h3)))) (rend Y Y))))
 refine if2 H Y (fun h4 H=>?_) (fun h4 H=>?_)
 ·refine sg 3 Y (rp Y (u_bld Y in_32 one_32 zc_32 pl_32 Y Y) (rq Y (u_sw Y Y in_32 (GValue.len GValue.zero) (GValue.len GValue.zero)) (ra Y (rz [4,5] [_,.i 0] [4] [_] Y (QR ?_)))))
  have z:=se H;subst z
  exact ⟨⟨rcw U32 Y in_32 Y (GValue.len GValue.zero),rt,trivial⟩,trivial⟩
 refine as2 [2,3,4] [_,_,_] [2,3,4] [_,_,_] Y (QK (QS (sg 8 Y (rf Y U32 Y in_9 Y Y (GValue.len v0) (rp Y (pl U9 Y (GValue.sub3 v0)) (rp Y (p_lent Y U9 Y) (rf Y U32 Y in_9 Y Y (GValue.len w1) (rp Y (pl U9 Y (GValue.sub3 w1)) (rp Y (p_lent Y U9 Y) (rp Y (pb Y Y) (rp Y (pb Y Y) (rz [2,3,4,27] [_,_,_,.b (decide (w64 ((v0.Text.length:Int)+(w1.Text.length:Int)) > 40))] [2,3,4] [_,_,_] Y (if2 H Y (fun h5 H=>?_) (fun h5 H=>?_))))))))))))))
 ·refine sg 3 Y (rp Y (u_bld Y in_32 one_32 zc_32 pl_32 Y Y) (rq Y (u_sw Y Y in_32 (GValue.len GValue.zero) (GValue.len GValue.zero)) (ra Y (rz [4,5] [_,.i 1] [4] [_] Y (QR ?_)))))
  have z:=se H;subst z
  exact ⟨⟨rcw U32 Y in_32 Y (GValue.len GValue.zero),rt,trivial⟩,trivial⟩
 refine as2 [2,3,4] [_,_,_] [2,3,4] [_,_,_] Y (QK (sg 8 Y (rf Y U32 Y in_9 Y Y (GValue.len v0) (rp Y (pl U9 Y (GValue.sub3 v0)) (rf Y U32 Y in_9 Y Y (GValue.len w1) (rp Y (pl U9 Y (GValue.sub3 w1)) (chkK H fun h6 H=>rp Y (p_cat Y Y Y h6) (rp Y (u_bld Y in_32 one_32 zc_32 pl_32 Y (af_cons Y Y (GValue.upd0 GValue.zero 4) (af_cons Y Y (GValue.upd3 ((GValue.w0 GValue.zero 4)) (v0.Text++w1.Text)) Y))) (rq Y (u_sw Y Y in_32 (GValue.len ((GValue.w3 (GValue.w0 GValue.zero 4) (v0.Text++w1.Text)))) (GValue.len GValue.zero)) (ra Y (rz [4,5] [_,.i 0] [4] [.pure (GValue.cs ((GValue.w3 (GValue.w0 GValue.zero 4) (v0.Text++w1.Text))))] Y (gen1 (fun t4'2=>(⟨[(4,.q 4 (0)),(5,.i 0)],[(4,.pure (GValue.cs t4'2))],35⟩:TS)) H ?_))))))))))))
 intro t4'2 H
 refine QR ?_
 have z:=se H;subst z
 exact ⟨⟨rcw U32 Y in_32 Y (GValue.len t4'2),rt,trivial⟩,trivial⟩
def g_eval_reckon_r5:List (List (Nat×Option Nat)):=[[(4,none)],[(27,some 0)],[(5,none)],[(29,some 2)],[(28,some 1)]]
def g_eval_reckon_r5c:List (List Nat):=[[],[0],[],[2],[0,1],[0,1,2,3,4]]
noncomputable def g_eval_reckon (op0:Int) (v1:GValue) (w2:GValue):Option (GValue×Int) :=
  (g_eval_asked (2:Int) v1 w2).bind fun r'1=>(if (!r'1)=true then some (GValue.zero,(2:Int)) else (if (v1.Kind=(0:Int))∨(w2.Kind=(0:Int)) then some (GValue.zero,(0:Int)) else (show Option ((GValue×Int)⊕Unit) from (if op0=(5:Int) then (if ((decide (w64 (v1.Int_+w2.Int_) > v1.Int_))=(decide (w2.Int_ > (0:Int))))∨(w2.Int_=(0:Int)) then (g_eval_number (w64 (v1.Int_+w2.Int_))).bind fun r'3=>some (.inl (r'3,(0:Int))) else some (.inr ())) else (if op0=(6:Int) then (if ((decide (w64 (v1.Int_ - w2.Int_) < v1.Int_))=(decide (w2.Int_ > (0:Int))))∨(w2.Int_=(0:Int)) then (g_eval_number (w64 (v1.Int_ - w2.Int_))).bind fun r'4=>some (.inl (r'4,(0:Int))) else some (.inr ())) else (if op0=(7:Int) then (if (v1.Int_=(0:Int))∨(w2.Int_=(0:Int)) then (g_eval_number (0:Int)).bind fun r'5=>some (.inl (r'5,(0:Int))) else ((if v1.Int_=(-1:Int) then (if w2.Int_=(-9223372036854775808:Int) then some false else (if w2.Int_=(-1:Int) then (if v1.Int_=(-9223372036854775808:Int) then some false else if w2.Int_≠0 then some (decide (w64 ((w64 (v1.Int_ * w2.Int_)).tdiv w2.Int_)=v1.Int_)) else none) else (if (!false)=true then if w2.Int_≠0 then some (decide (w64 ((w64 (v1.Int_ * w2.Int_)).tdiv w2.Int_)=v1.Int_)) else none else some false))) else (if (!false)=true then (if w2.Int_=(-1:Int) then (if v1.Int_=(-9223372036854775808:Int) then some false else if w2.Int_≠0 then some (decide (w64 ((w64 (v1.Int_ * w2.Int_)).tdiv w2.Int_)=v1.Int_)) else none) else if w2.Int_≠0 then some (decide (w64 ((w64 (v1.Int_ * w2.Int_)).tdiv w2.Int_)=v1.Int_)) else none) else some false))).bind fun g'6=>(if g'6=true then (g_eval_number (w64 (v1.Int_ * w2.Int_))).bind fun r'7=>some (.inl (r'7,(0:Int))) else some (.inr ()))) else (if w2.Int_=(0:Int) then some (.inl (GValue.zero,(7:Int))) else (if ¬ ((v1.Int_=(-9223372036854775808:Int))∧(w2.Int_=(-1:Int))) then if w2.Int_≠0 then (g_eval_number (w64 (v1.Int_.tdiv w2.Int_))).bind fun r'8=>some (.inl (r'8,(0:Int))) else none else some (.inr ()))))))).bind fun o'10=>match o'10 with | .inl y'9=>some y'9 | .inr j'2=>some (GValue.zero,(6:Int))))
theorem g_eval_reckon_ac {op0:Int} {v1:GValue} {w2:GValue} {r:GValue×Int} (H:g_eval_reckon op0 v1 w2=some r):ACp Tryz.prog 117 [(AV.int op0),(.agg (GValue.cs v1)),(.agg (GValue.cs w2))] (.tup [(.agg (GValue.cs r.1)),(AV.int r.2)]):=by
 refine ACp_of (AC2_of_body (vs:=[.g (GValue.cs r.1),.i r.2]) Tryz.func117 Y Y (lb Y) Y ?_) (fun _=>.same _)
 unfold g_eval_reckon at H
 refine as2 [0,1,2] [.i op0,.g (GValue.cs v1),.g (GValue.cs w2)] [] [] Y (sg 4 Y (rq Y (bx 4 Y) (rq Y (bx 5 Y) (rq Y (al 6 in_32 one_32 zc_32 Y) (ra Y (rz [0,4,5,6] [_,.q 4 (0),.q 5 (0),.q 6 (0)] [4,5,6] [.pure (GValue.cs v1),.pure (GValue.cs w2),.pure (GValue.cs GValue.zero)] Y (QS (sg 4 Y (rp Y (pL U32 Y in_32 (Sub.refl _) (GValue.len v1)) (rp Y (pL U32 Y in_32 (Sub.refl _) (GValue.len w2)) (bindK H fun r'1 h1 H=>rp Y (pc Y Tryz.func122 Y (g_eval_asked_ac h1) Y) (rp Y (p_not Y Y) (rz [0,4,5,6,16] [_,_,_,_,.b (!r'1)] [4,5,6] [_,_,_] Y (AW2_cond Y (fun h2=>?_) (fun h2=>?_)))))))))))))))
 ·replace H:=ite_then h2 H
  refine sg 3 Y (rp Y (u_bld Y in_32 one_32 zc_32 pl_32 Y Y) (rq Y (u_sw Y Y in_32 (GValue.len GValue.zero) (GValue.len GValue.zero)) (ra Y (rz [6,7] [.q 6 (0),.i 2] [6] [.pure (GValue.cs GValue.zero)] Y (QR ?_)))))
  have z:=se H;subst z
  exact ⟨⟨rcw U32 Y in_32 Y (GValue.len GValue.zero),rt,trivial⟩,trivial⟩
 replace H:=ite_else (ne_true h2) H
 refine as2 [0,4,5,6] [.i op0,.q 4 (0),.q 5 (0),.q 6 (0)] [4,5,6] [.pure (GValue.cs v1),.pure (GValue.cs w2),.pure (GValue.cs GValue.zero)] Y (QK (QS (QS (AW2_mid (⟨[(0,.i op0),(4,.q 4 (0)),(5,.q 5 (0)),(6,.q 6 (0)),(25,.b (decide ((v1.Kind=0)∨(w2.Kind=0))))],[(4,.pure (GValue.cs v1)),(5,.pure (GValue.cs w2)),(6,.pure (GValue.cs GValue.zero))],118⟩:TS) ?_ ?_))))
 ·refine ar 8 Y (rf Y U32 Y in_3 Y Y (GValue.len v1) (rp Y (pl U3 Y (GValue.sub0 v1)) (rp Y (pi Y) (rm Y ?_))))
  refine (Classical.em (v1.Kind=0)).elim (fun h3=>?_) (fun h3=>?_)
  ·iterate 3 (refine rO Y (dT h3) Y ?_)
   exact rp Y (p_pkt Y Y (dT h3) (tb (dT (p:=(v1.Kind=0)∨(w2.Kind=0)) (Or.inl h3)).symm)) (rend Y Y)
  exact rn Y (dF h3) Y (uf U32 Y in_3 Y (GValue.len w2)) (rn Y (dF h3) Y (pl U3 Y (GValue.sub0 w2)) (rn Y (dF h3) Y (pi Y) (rp Y (p_pkf Y Y (dF h3) (tb ((or_l (q:=w2.Kind=0) h3)))) (rend Y Y))))
 refine if2 H Y (fun h4 H=>?_) (fun h4 H=>?_)
 ·refine sg 3 Y (rp Y (u_bld Y in_32 one_32 zc_32 pl_32 Y Y) (rq Y (u_sw Y Y in_32 (GValue.len GValue.zero) (GValue.len GValue.zero)) (ra Y (rz [6,7] [_,.i 0] [6] [_] Y (QR ?_)))))
  have z:=se H;subst z
  exact ⟨⟨rcw U32 Y in_32 Y (GValue.len GValue.zero),rt,trivial⟩,trivial⟩
 refine as2 [0,4,5,6] [_,_,_,_] [4,5,6] [_,_,_] Y (QK (QS (AW2_ghoQ (AW2_draw 5 [5] (fun k=>([.q 4 (0+1),.i v1.Int_,.q 5 (0+1),.i w2.Int_,.i v1.Int_]:List TV).getD k TV.any) (fun k=>g_eval_reckon_r5.getD k []) [(0,none),(6,none),(8,some 4),(30,some 3)] [] (fun k=>g_eval_reckon_r5c.getD k []) mixed (by kernel_rfl) Y Y (a_op (g_x Y (x_p Y (uf U32 Y in_3 Y (GValue.len v1)) Y)) (a_op (g_x Y (x_p Y (pl U3 Y (GValue.sub1 v1)) Y)) (a_op (g_x Y (x_p Y (uf U32 Y in_3 Y (GValue.len w2)) Y)) (a_op (g_x Y (x_p Y (pl U3 Y (GValue.sub1 w2)) Y)) (a_op (g_x Y (x_p Y (p_asg Y Y) Y)) (a_nil)))))) (t_op Y Y (PureD.opD (p_asg Y Y)) (t_gho (Gho_st (L:=[(0,.i op0),(6,.q 6 (0)),(8,.i v1.Int_),(9,.i w2.Int_)]) (H:=[(6,.pure (GValue.cs GValue.zero))]) (N:=118) Y ⟨TLes.same _,TLes.same _,TLes.same _,TLes.same _,trivial⟩ ⟨Y,trivial⟩) (QS (bindK H fun o'10 h5 H=>AW2_join (fun j'2:Unit=>(⟨[(6,.q 6 (0))],[(6,.pure (GValue.cs GValue.zero))],118⟩:TS)) (fun r e s'=>e=Go.Exit.ret∧ResAll Tryz.prog s' [ResultVar.cell 6 32,ResultVar.tmp 7] [.g (GValue.cs r.1),.i r.2]∧HFits s' []) (x:=o'10) ?_ (fun j'2 hy=>?_) (fun y'9 e s' hy hs=>?_)))))))))
 ·clear H
  have H:=h5
  clear h5
  refine sg 1 Y (rm Y (rz [6,8,9,31] [.q 6 (0),.i v1.Int_,.i w2.Int_,.i op0] [6] [.pure (GValue.cs GValue.zero)] Y (QB (sg 2 Y (rp Y (pi Y) (ra Y (rz [6,8,9,31,46] [_,_,_,_,.b (decide (op0=5))] [6] [_] Y (if2 H Y (fun h6 H=>?_) (fun h6 H=>?_)))))))))
  ·refine sg 4 Y (rm Y (rm Y (rp Y (pb Y Y) (ra Y (rz [6,8,9,10] [_,_,_,.i (w64 (v1.Int_+w2.Int_))] [6] [_] Y (QS (AW2_mid (⟨[(6,.q 6 (0)),(10,.i (w64 (v1.Int_+w2.Int_))),(60,.b (decide (((decide (w64 (v1.Int_+w2.Int_) > v1.Int_))=(decide (w2.Int_ > 0)))∨(w2.Int_=0))))],[(6,.pure (GValue.cs GValue.zero))],118⟩:TS) ?_ ?_)))))))
   ·refine ar 10 Y (rm Y (rm Y (rp Y (pb Y Y) (rm Y (rp Y (pb Y Y) (rp Y (p_beqp Y U4 Y Y) (rm Y ?_)))))))
    refine (Classical.em ((decide (w64 (v1.Int_+w2.Int_) > v1.Int_))=(decide (w2.Int_ > 0)))).elim (fun h7=>?_) (fun h7=>?_)
    ·iterate 2 (refine rO Y (dT h7) Y ?_)
     exact rp Y (p_pkt Y Y (dT h7) (tb (dT (p:=((decide (w64 (v1.Int_+w2.Int_) > v1.Int_))=(decide (w2.Int_ > 0)))∨(w2.Int_=0)) (Or.inl h7)).symm)) (rend Y Y)
    exact rn Y (dF h7) Y (p_move Y Y) (rn Y (dF h7) Y (pi Y) (rp Y (p_pkf Y Y (dF h7) (tb ((or_l (q:=w2.Int_=0) h7)))) (rend Y Y)))
   refine if2 H Y (fun h8 H=>?_) (fun h8 H=>?_)
   ·refine sg 4 Y (rm Y (bindK H fun r'3 h9 H=>rp Y (pc Y Tryz.func112 Y (g_eval_number_ac h9) Y) (rq Y (u_sw Y Y in_32 (GValue.len r'3) (GValue.len GValue.zero)) (ra Y (rz [6,7] [_,.i 0] [6] [.pure (GValue.cs r'3)] Y (QR ?_))))))
    have z:=se H;subst z
    exact ⟨Y,⟨rcw U32 Y in_32 Y (GValue.len r'3),rt,trivial⟩,trivial⟩
   refine as2 [6] [_] [6] [_] Y (QK ?_)
   have z:=se H;subst z
   exact ⟨Y,Y⟩
  refine sg 2 Y (rp Y (pi Y) (ra Y (rz [6,8,9,31,63] [_,_,_,_,.b (decide (op0=6))] [6] [_] Y (if2 H Y (fun h10 H=>?_) (fun h10 H=>?_)))))
  ·refine sg 4 Y (rm Y (rm Y (rp Y (pb Y Y) (ra Y (rz [6,8,9,11] [_,_,_,.i (w64 (v1.Int_ - w2.Int_))] [6] [_] Y (QS (AW2_mid (⟨[(6,.q 6 (0)),(11,.i (w64 (v1.Int_ - w2.Int_))),(77,.b (decide (((decide (w64 (v1.Int_ - w2.Int_) < v1.Int_))=(decide (w2.Int_ > 0)))∨(w2.Int_=0))))],[(6,.pure (GValue.cs GValue.zero))],118⟩:TS) ?_ ?_)))))))
   ·refine ar 10 Y (rm Y (rm Y (rp Y (pb Y Y) (rm Y (rp Y (pb Y Y) (rp Y (p_beqp Y U4 Y Y) (rm Y ?_)))))))
    refine (Classical.em ((decide (w64 (v1.Int_ - w2.Int_) < v1.Int_))=(decide (w2.Int_ > 0)))).elim (fun h11=>?_) (fun h11=>?_)
    ·iterate 2 (refine rO Y (dT h11) Y ?_)
     exact rp Y (p_pkt Y Y (dT h11) (tb (dT (p:=((decide (w64 (v1.Int_ - w2.Int_) < v1.Int_))=(decide (w2.Int_ > 0)))∨(w2.Int_=0)) (Or.inl h11)).symm)) (rend Y Y)
    exact rn Y (dF h11) Y (p_move Y Y) (rn Y (dF h11) Y (pi Y) (rp Y (p_pkf Y Y (dF h11) (tb ((or_l (q:=w2.Int_=0) h11)))) (rend Y Y)))
   refine if2 H Y (fun h12 H=>?_) (fun h12 H=>?_)
   ·refine sg 4 Y (rm Y (bindK H fun r'4 h13 H=>rp Y (pc Y Tryz.func112 Y (g_eval_number_ac h13) Y) (rq Y (u_sw Y Y in_32 (GValue.len r'4) (GValue.len GValue.zero)) (ra Y (rz [6,7] [_,.i 0] [6] [.pure (GValue.cs r'4)] Y (QR ?_))))))
    have z:=se H;subst z
    exact ⟨Y,⟨rcw U32 Y in_32 Y (GValue.len r'4),rt,trivial⟩,trivial⟩
   refine as2 [6] [_] [6] [_] Y (QK ?_)
   have z:=se H;subst z
   exact ⟨Y,Y⟩
  refine sg 2 Y (rp Y (pi Y) (ra Y (rz [6,8,9,80] [_,_,_,.b (decide (op0=7))] [6] [_] Y (if2 H Y (fun h14 H=>?_) (fun h14 H=>?_)))))
  ·refine QS (QS (AW2_mid (⟨[(6,.q 6 (0)),(8,.i v1.Int_),(9,.i w2.Int_),(87,.b (decide ((v1.Int_=0)∨(w2.Int_=0))))],[(6,.pure (GValue.cs GValue.zero))],118⟩:TS) ?_ ?_))
   ·refine ar 6 Y (rm Y (rp Y (pi Y) (rm Y ?_)))
    refine (Classical.em (v1.Int_=0)).elim (fun h15=>?_) (fun h15=>?_)
    ·iterate 2 (refine rO Y (dT h15) Y ?_)
     exact rp Y (p_pkt Y Y (dT h15) (tb (dT (p:=(v1.Int_=0)∨(w2.Int_=0)) (Or.inl h15)).symm)) (rend Y Y)
    exact rn Y (dF h15) Y (p_move Y Y) (rn Y (dF h15) Y (pi Y) (rp Y (p_pkf Y Y (dF h15) (tb ((or_l (q:=w2.Int_=0) h15)))) (rend Y Y)))
   refine if2 H Y (fun h16 H=>?_) (fun h16 H=>?_)
   ·refine sg 3 Y (bindK H fun r'5 h17 H=>rp Y (pc Y Tryz.func112 Y (g_eval_number_ac h17) Y) (rq Y (u_sw Y Y in_32 (GValue.len r'5) (GValue.len GValue.zero)) (ra Y (rz [6,7] [_,.i 0] [6] [.pure (GValue.cs r'5)] Y (QR ?_)))))
    have z:=se H;subst z
    exact ⟨Y,⟨rcw U32 Y in_32 Y (GValue.len r'5),rt,trivial⟩,trivial⟩
   refine as2 [6,8,9] [_,_,_] [6] [_] Y (QK (sg 4 Y (rm Y (rm Y (rp Y (pb Y Y) (ra Y (rz [6,8,9,12] [_,_,_,.i (w64 (v1.Int_ * w2.Int_))] [6] [_] Y (QS (bindK H fun g'6 h31 H=>AW2_mid (⟨[(6,.q 6 (0)),(12,.i (w64 (v1.Int_ * w2.Int_))),(114,.b g'6)],[(6,.pure (GValue.cs GValue.zero))],118⟩:TS) ?_ ?_)))))))))
   ·clear H
    have H:=h31
    clear h31
    refine ar 23 Y (rm Y (rp Y (pi Y) (rm Y (em2 H (fun h19 H=>?_) (fun h19 H=>?_)))))
    ·refine rn Y (dT h19) Y (p_move Y Y) (rn Y (dT h19) Y (pi Y) (rp Y (p_pkt Y Y (dT h19) (.same _)) (rp Y (p_notp Y Y) (rm Y (em2 H (fun h20 H=>?_) (fun h20 H=>?_))))))
     ·have qq1:=dF (p:=¬ (w2.Int_=(-9223372036854775808:Int))) (fun h=>h h20)
      iterate 3 (refine rO Y qq1 Y ?_)
      iterate 2 (refine r_off2 rfl rfl rfl rfl rfl rfl ?_)
      iterate 2 (refine rO Y qq1 Y ?_)
      refine rp Y (p_pkf Y Y qq1 (.same _)) (rm Y ?_)
      iterate 5 (refine rO Y (bfalse (by decide)) Y ?_)
      refine rp Y (p_pkf Y Y (bfalse (by decide)) (.same _)) (rs [6,12,114] [.q 6 (0),.i (w64 (v1.Int_ * w2.Int_)),.b false] [6] [.pure (GValue.cs GValue.zero)] Y ?_)
      have z:=se H;subst z
      exact RunW_nil rfl
     have qq2:=dT h20
     refine rn Y qq2 Y (p_move Y Y) (rn Y qq2 Y (pi Y) (rn Y qq2 Y (p_move Y Y) (em2 H (fun h21 H=>?_) (fun h21 H=>?_))))
     ·refine rn Y (dT h21) Y (p_move Y Y) (rn Y (dT h21) Y (pi Y) (rn Y qq2 Y (p_pkt Y Y (dT h21) (.same _)) (rn Y qq2 Y (p_notp Y Y) (rp Y (p_pkt Y Y qq2 (.same _)) (rm Y (em2 H (fun h22 H=>?_) (fun h22 H=>?_)))))))
      ·have qq3:=dF (p:=¬ (v1.Int_=(-9223372036854775808:Int))) (fun h=>h h22)
       iterate 5 (refine rO Y qq3 Y ?_)
       refine rp Y (p_pkf Y Y qq3 (.same _)) (rs [6,12,114] [.q 6 (0),.i (w64 (v1.Int_ * w2.Int_)),.b false] [6] [.pure (GValue.cs GValue.zero)] Y ?_)
       have z:=se H;subst z
       exact RunW_nil rfl
      have qq4:=dT h22
      refine rn Y qq4 Y (p_move Y Y) (rn Y qq4 Y (p_move Y Y) (chkK H fun h23 H=>rn Y qq4 Y (p_iquo Y Y Y h23) (rn Y qq4 Y (p_move Y Y) (rn Y qq4 Y (pi Y) (rp Y (p_pkt Y Y qq4 (.same _)) (rs [6,12,114] [.q 6 (0),.i (w64 (v1.Int_ * w2.Int_)),.b (decide (w64 ((w64 (v1.Int_ * w2.Int_)).tdiv w2.Int_)=v1.Int_))] [6] [.pure (GValue.cs GValue.zero)] Y ?_))))))
      have z:=se H;subst z
      exact RunW_nil rfl
     iterate 2 (refine rO Y (dF h21) Y ?_)
     refine rn Y qq2 Y (p_pkf Y Y (dF h21) (.same _)) (rn Y qq2 Y (p_not Y Y) (rp Y (p_pkt Y Y qq2 (.same _)) (rm Y (em2 H (fun h24 H=>?_) (fun h24 H=>?_)))))
     ·refine rn Y h24 Y (p_move Y Y) (rn Y h24 Y (p_move Y Y) (chkK H fun h25 H=>rn Y h24 Y (p_iquo Y Y Y h25) (rn Y h24 Y (p_move Y Y) (rn Y h24 Y (pi Y) (rp Y (p_pkt Y Y h24 (.same _)) (rs [6,12,114] [.q 6 (0),.i (w64 (v1.Int_ * w2.Int_)),.b (decide (w64 ((w64 (v1.Int_ * w2.Int_)).tdiv w2.Int_)=v1.Int_))] [6] [.pure (GValue.cs GValue.zero)] Y ?_))))))
      have z:=se H;subst z
      exact RunW_nil rfl
     iterate 5 (refine rO Y (bfalse h24) Y ?_)
     refine rp Y (p_pkf Y Y (bfalse h24) (.same _)) (rs [6,12,114] [.q 6 (0),.i (w64 (v1.Int_ * w2.Int_)),.b false] [6] [.pure (GValue.cs GValue.zero)] Y ?_)
     have z:=se H;subst z
     exact RunW_nil rfl
    iterate 2 (refine rO Y (dF h19) Y ?_)
    refine rp Y (p_pkf Y Y (dF h19) (.same _)) (rp Y (p_not Y Y) (rm Y (em2 H (fun h26 H=>?_) (fun h26 H=>?_))))
    ·refine rn Y h26 Y (p_move Y Y) (rn Y h26 Y (pi Y) (rn Y h26 Y (p_move Y Y) (em2 H (fun h27 H=>?_) (fun h27 H=>?_))))
     ·refine rn Y (dT h27) Y (p_move Y Y) (rn Y (dT h27) Y (pi Y) (rn Y h26 Y (p_pkt Y Y (dT h27) (.same _)) (rn Y h26 Y (p_notp Y Y) (rp Y (p_pkt Y Y h26 (.same _)) (rm Y (em2 H (fun h28 H=>?_) (fun h28 H=>?_)))))))
      ·have qq5:=dF (p:=¬ (v1.Int_=(-9223372036854775808:Int))) (fun h=>h h28)
       iterate 5 (refine rO Y qq5 Y ?_)
       refine rp Y (p_pkf Y Y qq5 (.same _)) (rs [6,12,114] [.q 6 (0),.i (w64 (v1.Int_ * w2.Int_)),.b false] [6] [.pure (GValue.cs GValue.zero)] Y ?_)
       have z:=se H;subst z
       exact RunW_nil rfl
      have qq6:=dT h28
      refine rn Y qq6 Y (p_move Y Y) (rn Y qq6 Y (p_move Y Y) (chkK H fun h29 H=>rn Y qq6 Y (p_iquo Y Y Y h29) (rn Y qq6 Y (p_move Y Y) (rn Y qq6 Y (pi Y) (rp Y (p_pkt Y Y qq6 (.same _)) (rs [6,12,114] [.q 6 (0),.i (w64 (v1.Int_ * w2.Int_)),.b (decide (w64 ((w64 (v1.Int_ * w2.Int_)).tdiv w2.Int_)=v1.Int_))] [6] [.pure (GValue.cs GValue.zero)] Y ?_))))))
      have z:=se H;subst z
      exact RunW_nil rfl
     iterate 2 (refine rO Y (dF h27) Y ?_)
     refine rn Y h26 Y (p_pkf Y Y (dF h27) (.same _)) (rn Y h26 Y (p_not Y Y) (rp Y (p_pkt Y Y h26 (.same _)) (rm Y (rn Y h26 Y (p_move Y Y) (rn Y h26 Y (p_move Y Y) (chkK H fun h30 H=>rn Y h26 Y (p_iquo Y Y Y h30) (rn Y h26 Y (p_move Y Y) (rn Y h26 Y (pi Y) (rp Y (p_pkt Y Y h26 (.same _)) (rs [6,12,114] [.q 6 (0),.i (w64 (v1.Int_ * w2.Int_)),.b (decide (w64 ((w64 (v1.Int_ * w2.Int_)).tdiv w2.Int_)=v1.Int_))] [6] [.pure (GValue.cs GValue.zero)] Y ?_))))))))))
     have z:=se H;subst z
     exact RunW_nil rfl
    iterate 3 (refine rO Y (bfalse h26) Y ?_)
    iterate 2 (refine r_off2 rfl rfl rfl rfl rfl rfl ?_)
    iterate 2 (refine rO Y (bfalse h26) Y ?_)
    refine rp Y (p_pkf Y Y (bfalse h26) (.same _)) (rm Y ?_)
    iterate 5 (refine rO Y (bfalse (by decide)) Y ?_)
    refine rp Y (p_pkf Y Y (bfalse (by decide)) (.same _)) (rs [6,12,114] [.q 6 (0),.i (w64 (v1.Int_ * w2.Int_)),.b false] [6] [.pure (GValue.cs GValue.zero)] Y ?_)
    have z:=se H;subst z
    exact RunW_nil rfl
   refine AW2_cond Y (fun h32=>?_) (fun h32=>?_)
   ·replace H:=ite_then h32 H
    refine sg 4 Y (rm Y (bindK H fun r'7 h33 H=>rp Y (pc Y Tryz.func112 Y (g_eval_number_ac h33) Y) (rq Y (u_sw Y Y in_32 (GValue.len r'7) (GValue.len GValue.zero)) (ra Y (rz [6,7] [.q 6 (0),.i 0] [6] [.pure (GValue.cs r'7)] Y (QR ?_))))))
    have z:=se H;subst z
    exact ⟨Y,⟨rcw U32 Y in_32 Y (GValue.len r'7),rt,trivial⟩,trivial⟩
   replace H:=ite_else (ne_true h32) H
   refine as2 [6] [.q 6 (0)] [6] [.pure (GValue.cs GValue.zero)] Y (QK ?_)
   have z:=se H;subst z
   exact ⟨Y,Y⟩
  refine QS (sg 2 Y (rm Y (rp Y (pi Y) (rz [6,8,9,33] [_,_,_,.b (decide (w2.Int_=0))] [6] [_] Y (if2 H Y (fun h35 H=>?_) (fun h35 H=>?_))))))
  ·refine sg 3 Y (rp Y (u_bld Y in_32 one_32 zc_32 pl_32 Y Y) (rq Y (u_sw Y Y in_32 (GValue.len GValue.zero) (GValue.len GValue.zero)) (ra Y (rz [6,7] [_,.i 7] [6] [_] Y (QR ?_)))))
   have z:=se H;subst z
   exact ⟨Y,⟨rcw U32 Y in_32 Y (GValue.len GValue.zero),rt,trivial⟩,trivial⟩
  refine as2 [6,8,9] [_,_,_] [6] [_] Y (QK (QS (AW2_mid (⟨[(6,.q 6 (0)),(8,.i v1.Int_),(9,.i w2.Int_),(41,.b (decide (¬ ((v1.Int_=(-9223372036854775808:Int))∧(w2.Int_=(-1:Int))))))],[(6,.pure (GValue.cs GValue.zero))],118⟩:TS) ?_ ?_)))
  ·refine ar 7 Y (rm Y (rp Y (pi Y) (rm Y ?_)))
   refine (Classical.em (v1.Int_=(-9223372036854775808:Int))).elim (fun h36=>?_) (fun h36=>?_)
   ·exact rn Y (dT h36) Y (p_move Y Y) (rn Y (dT h36) Y (pi Y) (rp Y (p_pkt Y Y (dT h36) (tb ((and_l (q:=w2.Int_=(-1:Int)) h36)))) (rp Y (p_notp Y Y) (rend Y Y))))
   iterate 2 (refine rO Y (dF h36) Y ?_)
   exact rp Y (p_pkf Y Y (dF h36) (tb (dF (p:=(v1.Int_=(-9223372036854775808:Int))∧(w2.Int_=(-1:Int))) (fun x=>h36 x.1)).symm)) (rp Y (p_notp Y Y) (rend Y Y))
  refine if2 H Y (fun h37 H=>?_) (fun h37 H=>?_)
  ·refine sg 6 Y (rm Y (rm Y (chkK H fun h38 H=>rp Y (p_iquo Y Y Y h38) (bindK H fun r'8 h39 H=>rp Y (pc Y Tryz.func112 Y (g_eval_number_ac h39) Y) (rq Y (u_sw Y Y in_32 (GValue.len r'8) (GValue.len GValue.zero)) (ra Y (rz [6,7] [_,.i 0] [6] [.pure (GValue.cs r'8)] Y (QR ?_))))))))
   have z:=se H;subst z
   exact ⟨Y,⟨rcw U32 Y in_32 Y (GValue.len r'8),rt,trivial⟩,trivial⟩
  refine as2 [6] [_] [6] [_] Y (QK ?_)
  have z:=se H;subst z
  exact ⟨Y,Y⟩
 ·subst hy
  refine sg 3 Y (rp Y (u_bld Y in_32 one_32 zc_32 pl_32 Y Y) (rq Y (u_sw Y Y in_32 (GValue.len GValue.zero) (GValue.len GValue.zero)) (ra Y (rz [6,7] [.q 6 (0),.i 6] [6] [.pure (GValue.cs GValue.zero)] Y (QR ?_)))))
  have z:=se H;subst z
  exact ⟨⟨rcw U32 Y in_32 Y (GValue.len GValue.zero),rt,trivial⟩,trivial⟩
 subst hy
 obtain ⟨rfl,hs⟩:=hs
 have z:=se H;subst z
 exact ⟨hs.1,hs.2⟩
end Go.Proofs.YthnkbagmaljjjaaGreatDoor.VM
