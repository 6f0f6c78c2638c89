/- Words and rules that the proof uses. -/
import Derived.Test.YthnkbagmaljjjaaGreatDoorVtShort
import Derived.Shelf.Utf8.RuneCount
import Derived.Shelf.Unicode.ValidAny
import Derived.Lib.ValidLaws
namespace Go.Proofs.YthnkbagmaljjjaaGreatDoor
open Go Go.Shelf
def ren195:Ren where
 f:=fun | 195=>56 | n=>n
 t:=fun | 9=>9 | 3=>3 | 0=>0 | 4=>4 | n=>n
 g:=fun  | n=>n
theorem lays195:Lays.n195 Tryz.prog ren195 where
 mixed:=by kernel_rfl
 f195:=Tryz.func56.trans (congrArg some (by kernel_rfl))
 t0:=Tryz.underlying0
 a0:=Tryz.isAgg0
 z0:=Tryz.sizeOf0
 v0:=Tryz.zeroValue0
 t3:=Tryz.underlying3
 a3:=Tryz.isAgg3
 z3:=Tryz.sizeOf3
 v3:=Tryz.zeroValue3
 t4:=Tryz.underlying4
 a4:=Tryz.isAgg4
 z4:=Tryz.sizeOf4
 v4:=Tryz.zeroValue4
 t9:=Tryz.underlying9
 a9:=Tryz.isAgg9
 z9:=Tryz.sizeOf9
 v9:=Tryz.zeroValue9
def ren196:Ren where
 f:=fun | 196=>62 | 259=>84 | n=>n
 t:=fun | 9=>9 | 4=>4 | 3=>3 | 5=>5 | 12=>12 | 119=>131 | 0=>0 | 46=>119 | 139=>134 | 138=>133 | 53=>30 | n=>n
 g:=fun | 3=>0 | 4=>1 | n=>n
theorem lays196:Lays.n196 Tryz.prog ren196 where
 mixed:=by kernel_rfl
 f196:=Tryz.func62.trans (congrArg some (by kernel_rfl))
 f259:=Tryz.func84.trans (congrArg some (by kernel_rfl))
 t0:=Tryz.underlying0
 a0:=Tryz.isAgg0
 z0:=Tryz.sizeOf0
 v0:=Tryz.zeroValue0
 t3:=Tryz.underlying3
 a3:=Tryz.isAgg3
 z3:=Tryz.sizeOf3
 v3:=Tryz.zeroValue3
 t4:=Tryz.underlying4
 a4:=Tryz.isAgg4
 z4:=Tryz.sizeOf4
 v4:=Tryz.zeroValue4
 t5:=Tryz.underlying5
 a5:=Tryz.isAgg5
 z5:=Tryz.sizeOf5
 v5:=Tryz.zeroValue5
 t9:=Tryz.underlying9
 a9:=Tryz.isAgg9
 z9:=Tryz.sizeOf9
 v9:=Tryz.zeroValue9
 t12:=Tryz.underlying12
 a12:=Tryz.isAgg12
 z12:=Tryz.sizeOf12
 v12:=Tryz.zeroValue12
 t46:=Tryz.underlying119
 a46:=Tryz.isAgg119
 z46:=Tryz.sizeOf119
 v46:=Tryz.zeroValue119
 t53:=Tryz.underlying30
 a53:=Tryz.isAgg30
 z53:=Tryz.sizeOf30
 v53:=Tryz.zeroValue30
 t119:=Tryz.underlying131
 a119:=Tryz.isAgg131
 z119:=Tryz.sizeOf131
 t138:=Tryz.underlying133
 a138:=Tryz.isAgg133
 z138:=Tryz.sizeOf133
 v138:=Tryz.zeroValue133
 t139:=Tryz.underlying134
 a139:=Tryz.isAgg134
 z139:=Tryz.sizeOf134
 v139:=Tryz.zeroValue134
 g3:=by kernel_rfl
 g4:=by kernel_rfl
namespace VM
open Go.RowKit
theorem ACp_below {P:Program} {f:FuncId} {args:List AV} {r:AV} (c:∀ (Z:Nat→Prop) (w:World) (vs:Array Value),Good Z Heap.empty w→args.length=vs.size→(∀ (i:Nat) (a:AV) (v:Value),args[i]?=some a→vs[i]?=some v→Rel Z w a v) →
  Calls P f vs w fun e w'=>∃ v,e=.returned v∧(∀ Z w,Rel Z w r v)∧Below w.heap.size w w'):ACp P f args r:=by
 intro Z w vs g hl hv
 refine (c Z w vs g hl hv).mono fun e w' ⟨v,he,hr,hb⟩=>?_
 have x:Ext Heap.empty Z w Heap.empty Z w':=⟨hb.os,hb.tape,hb.output,hb.size,fun b h _=>hb.block b h,fun b h=>by unfold World.shape?; rw [hb.block b h],fun _ h=>.inl h,fun _ h=>h,fun _ h=>.inl h⟩
 exact ⟨v,r,Heap.empty,Z,he,rfl,hr Z w',⟨fun b h=>Nat.lt_of_lt_of_le (g.zb b h) hb.size,fun b o h=>absurd h (by intro h; cases h),fun b o h=>absurd h (by intro h; cases h),g.tb.step g x⟩,x⟩
def g_utf8_RuneCountInString (s:List UInt8):Option Int:=if s.length < 9223372036854775807 then some ((Lib.runeCount (strB s):Nat):Int) else none
theorem below_iter (w:World) (s:ByteArray) (pos:Nat):Below w.heap.size w (w.iter s pos):=by
 refine ⟨rfl,rfl,rfl,?_,fun k hk=>?_⟩
 ·show w.heap.size≤(w.heap.push _).size
  simp
 ·show (w.heap.push _)[k]?=w.heap[k]?
  rw [Array.getElem?_push,if_neg (by omega)]
theorem g_utf8_RuneCountInString_ac {s0:List UInt8} {r:Int} (H:g_utf8_RuneCountInString s0=some r):ACp Tryz.prog 56 [AV.txt s0] (AV.int r):=by
 unfold g_utf8_RuneCountInString at H
 split at H
 case isFalse=>cases H
 case isTrue hc =>
 cases H
 refine ACp_below fun Z w vs g hl hv=>?_
 obtain ⟨v0,rfl⟩:∃ v0,vs=#[v0]:=by
  match vs,hl with
  | ⟨[v0]⟩,_=>exact ⟨v0,rfl⟩
 have e0:=(hv 0 _ v0 rfl rfl).sc_inv
 subst e0
 refine (Any.utf8_RuneCountInString lays195 (strB s0) w hc).mono fun e w' ⟨he,pos,hw⟩=>⟨_,he,fun Z w=>?_,?_⟩
 ·exact .sc _ rfl
 ·subst hw
  exact below_iter w _ pos
theorem tab_cell {Z:Nat→Prop} {w:World} {k:Nat} {vs:List Value} (hr:Rel Z w (.rptr (vs.map .sc) 0) (.pointer (some ⟨k,0,none⟩))) {i:Nat} {v:Value} (hv:vs[i]?=some v):w.cell? ⟨k,i,none⟩=some v:=by
 cases hr with
 | rptr _ _ _ _ f hz hs h =>
  have h0:(vs.map AV.sc)[i]?=some (.sc v):=by rw [List.getElem?_map,hv]; rfl
  have e:=(h i _ h0).sc_inv
  have c:=(hs i _ h0).1
  rw [Nat.zero_add] at c
  rw [c,e]
def firstV:List Value:=(List.range 256).map fun c=>.int .u8 (Lib.firstT c)
def accV:List Value:=(List.range 32).map fun j=>.int .u8 (if j % 2=0 then Lib.accLo (j / 2) else Lib.accHi (j / 2))
theorem first_tab:tabOf tabs 0=.rptr (firstV.map .sc) 0:=by kernel_rfl
theorem acc_tab:tabOf tabs 1=.rptr (accV.map .sc) 0:=by kernel_rfl
theorem utf8_tabs {Z:Nat→Prop} {w:World} (h:Tabs Z w):Lib.Utf8Tabs 0 1 w:=by
 have h3:=h.1 0
 have h4:=h.1 1
 rw [first_tab] at h3
 rw [acc_tab] at h4
 refine ⟨fun c hc=>tab_cell h3 ?_,fun i hi=>⟨tab_cell h4 ?_,tab_cell h4 ?_⟩⟩
 ·unfold firstV
  rw [List.getElem?_map,List.getElem?_range hc]
  rfl
 ·unfold accV
  rw [List.getElem?_map,List.getElem?_range (by omega)]
  simp
 ·unfold accV
  rw [List.getElem?_map,List.getElem?_range (by omega)]
  simp only [Option.map_some]
  rw [if_neg (by omega),show (2 * i+1) / 2=i by omega]
def g_utf8_ValidString (s:List UInt8):Option Bool:=if s.length≤9223372036854775807 then some (Lib.validD s) else none
theorem g_utf8_ValidString_ac {s0:List UInt8} {r:Bool} (H:g_utf8_ValidString s0=some r):ACp Tryz.prog 62 [AV.txt s0] (AV.bool r):=by
 unfold g_utf8_ValidString at H
 split at H
 case isFalse=>cases H
 case isTrue hc =>
 cases H
 refine ACp_below fun Z w vs g hl hv=>?_
 obtain ⟨v0,rfl⟩:∃ v0,vs=#[v0]:=by
  match vs,hl with
  | ⟨[v0]⟩,_=>exact ⟨v0,rfl⟩
 have e0:=(hv 0 _ v0 rfl rfl).sc_inv
 subst e0
 refine (Any.utf8_ValidString lays196 (strB s0) w hc (utf8_tabs g.tb)).mono fun e w' ⟨he,hw⟩=>⟨_,he,fun Z w=>?_,hw⟩
 exact .sc _ rfl
end VM
end Go.Proofs.YthnkbagmaljjjaaGreatDoor
