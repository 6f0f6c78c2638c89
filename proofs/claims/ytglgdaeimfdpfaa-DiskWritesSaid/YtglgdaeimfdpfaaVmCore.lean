/- Words and rules that the proof uses. -/
import Derived.Calls
import Derived.Below
import Derived.LoopN
import Derived.Deep.Draws
import Derived.Laws.Cells
import Derived.Laws.Sem
import Derived.Lib.FrozenHead
import Derived.Laws.CopyRow
import Derived.Laws.World
import Derived.Laws.BytesString
import Derived.Lib.ConvBytes
import Derived.Test.YtglgdaeimfdpfaaVmTabs
namespace Go.Proofs.Ytglgdaeimfdpfaa.VM
open Go Go.RowKit
inductive AV where
 | sc (v:Value)
 | agg (cs:List AV)
 | tup (vs:List AV)
 | nil
 | lst (cs:List AV) (n:Nat)
 | sl (b off n z:Nat)
 | ptr (b off:Nat)
 | rptr (cs:List AV) (off:Nat)
 | clo (f:FuncId) (cap:List AV)
 | mp (es:List (Value×Value))
 | mref (b:Nat)
 | any
instance : Inhabited AV := ⟨.any⟩
abbrev AV.int (n:Int):AV:=.sc (.int .i64 n)
abbrev AV.bool (b:Bool):AV:=.sc (.bool b)
abbrev Heap:=Nat→Option (List AV)
structure AS where
 t:Nat→AV
 h:Heap
 n:Nat
 sz:Nat
def AS.set (s:AS) (d:Nat) (v:AV):AS:={ s with t:=fun u=>if u=d then v else s.t u }
def AS.put (s:AS) (d:Option Nat) (v:AV):AS:=match d with | some d=>s.set d v | none=>s
def Heap.set (h:Heap) (b:Nat) (o:Option (List AV)):Heap:=fun k=>if k=b then o else h k
theorem Heap.set_eq (h:Heap) (b:Nat) (o:Option (List AV)):(h.set b o) b=o:=by simp [Heap.set]
theorem Heap.set_ne (h:Heap) (b k:Nat) (o:Option (List AV)) (hk:k≠b):(h.set b o) k=h k:=by simp [Heap.set,hk]
def encM (es:List (Value×Value)):Value:=.tuple (es.flatMap fun p=>[p.1,p.2]).toArray
inductive Rel (Z:Nat→Prop) (w:World):AV→Value→Prop where
 | sc (v:Value) (h1:v.oneCell'=true):Rel Z w (.sc v) v
 | agg (cs:List AV) (vs:Array Value) (hl:cs.length=vs.size) (h1:∀ v∈vs,v.oneCell'=true)
   (h:∀ (i:Nat) (a:AV) (v:Value),cs[i]?=some a→vs[i]?=some v→Rel Z w a v):Rel Z w (.agg cs) (.agg vs)
 | tup (cs:List AV) (vs:Array Value) (hl:cs.length=vs.size)
   (h:∀ (i:Nat) (a:AV) (v:Value),cs[i]?=some a→vs[i]?=some v→Rel Z w a v):Rel Z w (.tup cs) (.tuple vs)
 | nil:Rel Z w .nil (.slice none 0 0)
 | lnil (n c:Nat) (A:Option Addr) (hc:n≤c) (hA:A=none→n=0):Rel Z w (.lst [] n) (.slice A n c)
 | lst (cs:List AV) (n c b off:Nat) (f:Nat→Value) (hc:n≤c) (hz:Z b) (hs:∀ (i:Nat) (a:AV),cs[i]?=some a→w.cell? ⟨b,off+i,none⟩=some (f i)∧(f i).oneCell'=true)
   (h:∀ (i:Nat) (a:AV),cs[i]?=some a→Rel Z w a (f i)):Rel Z w (.lst cs n) (.slice (some ⟨b,off,none⟩) n c)
 | sl (b off n z c:Nat) (e:TypeId) (m:Nat) (hc:n≤c) (hs:w.shape? b=some (e,m)) (hm:off+c * z≤m):Rel Z w (.sl b off n z) (.slice (some ⟨b,off,none⟩) n c)
 | ptr (b off:Nat) (e:TypeId) (m:Nat) (hs:w.shape? b=some (e,m)):Rel Z w (.ptr b off) (.pointer (some ⟨b,off,none⟩))
 | rptr (cs:List AV) (o b off:Nat) (f:Nat→Value) (hz:Z b) (hs:∀ (i:Nat) (a:AV),cs[i]?=some a→w.cell? ⟨b,off+i,none⟩=some (f i)∧(f i).oneCell'=true)
   (h:∀ (i:Nat) (a:AV),cs[i]?=some a→Rel Z w a (f i)):Rel Z w (.rptr cs o) (.pointer (some ⟨b,off+o,none⟩))
 | clo (f:FuncId) (cs:List AV) (vs:Array Value) (hl:cs.length=vs.size)
   (h:∀ (i:Nat) (a:AV) (v:Value),cs[i]?=some a→vs[i]?=some v→Rel Z w a v):Rel Z w (.clo f cs) (.func (.func f) #[] vs)
 | mp (es:List (Value×Value)):Rel Z w (.mp es) (encM es)
 | mref (b:Nat):Rel Z w (.mref b) (.map (some b))
 | any (v:Value):Rel Z w .any v
def CellRel (Z:Nat→Prop) (w:World) (b:Nat) (o:List AV):Prop :=
 ∃ (arr:Array Value) (e lo hi:Nat),w.heap[b]?=some (.cells arr e (lo,hi))∧o.length≤arr.size ∧
  (∀ (i:Nat) (a:AV) (v:Value),o[i]?=some a→arr[i]?=some v→Rel Z w a v∧v.oneCell'=true) ∧
  (hi≤lo∨arr.size≤lo)
def entsM (es:Array MapEntry):List (Value×Value):=es.toList.map fun e=>(e.key,e.val)
def ObjRel (Z:Nat→Prop) (w:World) (b:Nat) (o:List AV):Prop :=
 CellRel Z w b o∨∃ (es:Array MapEntry) (clock:Nat),w.heap[b]?=some (.map es clock)∧∀ a,o[0]?=some a→Rel Z w a (encM (entsM es))
theorem ObjRel.cells {Z:Nat→Prop} {w:World} {b:Nat} {o:List AV} {x:TypeId×Nat} (r:ObjRel Z w b o) (hs:w.shape? b=some x):CellRel Z w b o:=by
 rcases r with r | ⟨es,clock,hh,_⟩
 ·exact r
 ·simp [World.shape?,hh] at hs
def tabOf:List (Nat×List Value)→Nat→AV
 | [],_=>.any
 | (k,vs)::l,g=>match Nat.beq g k with | true=>.rptr (vs.map .sc) 0 | false=>tabOf l g
def Tabs (Z:Nat→Prop) (w:World):Prop:=(∀ g,Rel Z w (tabOf tabs g) (.pointer (some ⟨g,0,none⟩)))∧∀ g∈openInts,Z g∧∃ m,w.cell? ⟨g,0,none⟩=some (.int .i64 m)
structure Good (Z:Nat→Prop) (h:Heap) (w:World):Prop where
 zb:∀ b,Z b→b < w.heap.size
 hz:∀ b o,h b=some o→¬ Z b
 hb:∀ b o,h b=some o→ObjRel Z w b o
 tb:Tabs Z w
theorem Good.lt {Z:Nat→Prop} {h:Heap} {w:World} (g:Good Z h w) {b:Nat} {o:List AV} (hb:h b=some o):b < w.heap.size:=by
 rcases g.hb b o hb with ⟨arr,e,lo,hi,hh,_⟩ | ⟨es,clock,hh,_⟩
 ·exact (Array.getElem?_eq_some_iff.1 hh).1
 ·exact (Array.getElem?_eq_some_iff.1 hh).1
structure Ext (h:Heap) (Z:Nat→Prop) (w:World) (h':Heap) (Z':Nat→Prop) (w':World):Prop where
 os:w'.os=w.os
 tape:w'.tape=w.tape
 output:w'.output=w.output
 size:w.heap.size≤w'.heap.size
 keep:∀ b,b < w.heap.size→h b=none→w'.heap[b]?=w.heap[b]?
 shp:∀ b,b < w.heap.size→w'.shape? b=w.shape? b
 own:∀ b,h' b≠none→h b≠none∨w.heap.size≤b
 zz:∀ b,Z b→Z' b
 zf:∀ b,Z' b→Z b∨h b≠none∨w.heap.size≤b
theorem Ext.refl (h:Heap) (Z:Nat→Prop) (w:World):Ext h Z w h Z w :=
 ⟨rfl,rfl,rfl,Nat.le_refl _,fun _ _ _=>rfl,fun _ _=>rfl,fun _ hb=>.inl hb,fun _ hb=>hb,fun _ hb=>.inl hb⟩
theorem Ext.trans {h h1 h2:Heap} {Z Z1 Z2:Nat→Prop} {w w1 w2:World} (a:Ext h Z w h1 Z1 w1) (c:Ext h1 Z1 w1 h2 Z2 w2):Ext h Z w h2 Z2 w2 where
 os:=c.os.trans a.os
 tape:=c.tape.trans a.tape
 output:=c.output.trans a.output
 size:=Nat.le_trans a.size c.size
 keep b hb hn:=by
  have h1n:h1 b=none:=by
   rcases Option.eq_none_or_eq_some (h1 b) with e | ⟨o,e⟩
   ·exact e
   ·rcases a.own b (by rw [e]; simp) with hx | hx
    ·exact absurd hn hx
    ·omega
  exact (c.keep b (Nat.lt_of_lt_of_le hb a.size) h1n).trans (a.keep b hb hn)
 shp b hb:=(c.shp b (Nat.lt_of_lt_of_le hb a.size)).trans (a.shp b hb)
 own b hb:=by
  rcases c.own b hb with hx | hx
  ·exact a.own b hx
  ·exact .inr (Nat.le_trans a.size hx)
 zz b hb:=c.zz b (a.zz b hb)
 zf b hb:=by
  rcases c.zf b hb with hx | hx | hx
  ·exact a.zf b hx
  ·rcases a.own b hx with hy | hy
   ·exact .inr (.inl hy)
   ·exact .inr (.inr hy)
  ·exact .inr (.inr (Nat.le_trans a.size hx))
theorem Ext.below {h':Heap} {Z Z':Nat→Prop} {w w':World} (a:Ext (fun _=>none) Z w h' Z' w'):Below w.heap.size w w' :=
 ⟨a.os,a.tape,a.output,a.size,fun k hk=>a.keep k hk rfl⟩
theorem cell_keep {w w':World} {b off:Nat} (h:w'.heap[b]?=w.heap[b]?):w'.cell? ⟨b,off,none⟩=w.cell? ⟨b,off,none⟩:=by
 simp [World.cell?,h]
theorem shape_lt {w:World} {b:Nat} {x:TypeId×Nat} (h:w.shape? b=some x):b < w.heap.size:=by
 rcases Nat.lt_or_ge b w.heap.size with hl | hl
 ·exact hl
 ·simp [World.shape?,Array.getElem?_eq_none hl] at h
theorem Rel.mono {h h':Heap} {Z Z':Nat→Prop} {w w':World} {a:AV} {v:Value} (r:Rel Z w a v) (g:∀ b,Z b→b < w.heap.size∧h b=none) (x:Ext h Z w h' Z' w'):Rel Z' w' a v:=by
 induction r with
 | sc v h1=>exact .sc v h1
 | agg cs vs hl h1 _ ih=>exact .agg cs vs hl h1 ih
 | tup cs vs hl _ ih=>exact .tup cs vs hl ih
 | nil=>exact .nil
 | lnil n c A hc hA=>exact .lnil n c A hc hA
 | lst cs n c b off f hc hz hs _ ih =>
  refine .lst cs n c b off f hc (x.zz b hz) (fun i a ha=>?_) ih
  rw [cell_keep (x.keep b (g b hz).1 (g b hz).2)]
  exact hs i a ha
 | sl b off n z c e m hc hs hm=>exact .sl b off n z c e m hc (by rw [x.shp b (shape_lt hs)]; exact hs) hm
 | ptr b off e m hs=>exact .ptr b off e m (by rw [x.shp b (shape_lt hs)]; exact hs)
 | rptr cs o b off f hz hs _ ih =>
  refine .rptr cs o b off f (x.zz b hz) (fun i a ha=>?_) ih
  rw [cell_keep (x.keep b (g b hz).1 (g b hz).2)]
  exact hs i a ha
 | clo f cs vs hl _ ih=>exact .clo f cs vs hl ih
 | mp es=>exact .mp es
 | mref b=>exact .mref b
 | any v=>exact .any v
theorem Good.none {Z:Nat→Prop} {h:Heap} {w:World} (g:Good Z h w) (b:Nat) (hb:Z b):b < w.heap.size∧h b=none:=by
 refine ⟨g.zb b hb,?_⟩
 rcases Option.eq_none_or_eq_some (h b) with e | ⟨o,e⟩
 ·exact e
 ·exact absurd hb (g.hz b o e)
theorem Rel.step {h h':Heap} {Z Z':Nat→Prop} {w w':World} {a:AV} {v:Value} (r:Rel Z w a v) (g:Good Z h w) (x:Ext h Z w h' Z' w'):Rel Z' w' a v :=
 r.mono g.none x
theorem Tabs.step' {h h':Heap} {Z Z':Nat→Prop} {w w':World} (r:Tabs Z w) (g:∀ b,Z b→b < w.heap.size∧h b=none) (x:Ext h Z w h' Z' w'):Tabs Z' w' :=
 ⟨fun k=>(r.1 k).mono g x,fun k hk=>by
  obtain ⟨hz,m,hm⟩:=r.2 k hk
  exact ⟨x.zz k hz,m,by rw [cell_keep (x.keep k (g k hz).1 (g k hz).2)]; exact hm⟩⟩
theorem Tabs.step {h h':Heap} {Z Z':Nat→Prop} {w w':World} (r:Tabs Z w) (g:Good Z h w) (x:Ext h Z w h' Z' w'):Tabs Z' w':=r.step' g.none x
theorem tabOf_kind:∀ (l:List (Nat×List Value)) (g:Nat),tabOf l g=.any∨∃ vs:List Value,tabOf l g=.rptr (vs.map .sc) 0
 | [],_=>.inl rfl
 | (k,vs)::l,g=>by
  unfold tabOf
  split
  ·exact .inr ⟨vs,rfl⟩
  ·exact tabOf_kind l g
theorem Tabs.mono {Z Z':Nat→Prop} {w:World} (r:Tabs Z w) (hz:∀ b,Z b→Z' b):Tabs Z' w:=by
 refine ⟨fun g=>?_,fun k hk=>⟨hz k (r.2 k hk).1,(r.2 k hk).2⟩⟩
 have h:=r.1 g
 rcases tabOf_kind tabs g with e | ⟨vs,e⟩
 ·rw [e]; exact .any _
 ·rw [e] at h ⊢
  generalize hv:(Value.pointer (some ⟨g,0,none⟩))=v at h
  cases h with | rptr _ o b off f hz2 hs hr =>
  refine .rptr _ _ _ _ f (hz _ hz2) hs (fun i a ha=>?_)
  have:=hr i a ha
  rw [List.getElem?_map] at ha
  obtain ⟨x,_,rfl⟩:=Option.map_eq_some_iff.1 ha
  have h1:f i=x:=by cases this; rfl
  have h2:=(hs i (.sc x) (by rw [List.getElem?_map]; simp [*])).2
  rw [h1] at h2 ⊢
  exact .sc _ h2
theorem ObjRel.step {h h':Heap} {Z Z':Nat→Prop} {w w':World} {b:Nat} {o:List AV} (r:ObjRel Z w b o) (g:Good Z h w) (x:Ext h Z w h' Z' w') (hk:w'.heap[b]?=w.heap[b]?):ObjRel Z' w' b o:=by
 rcases r with ⟨arr,e,lo,hi,hh,hl,hc,hf⟩ | ⟨es,clock,hh,hr⟩
 ·exact .inl ⟨arr,e,lo,hi,hk.trans hh,hl,fun i a v ha hv=>⟨(hc i a v ha hv).1.step g x,(hc i a v ha hv).2⟩,hf⟩
 ·exact .inr ⟨es,clock,hk.trans hh,fun a ha=>(hr a ha).step g x⟩
theorem ObjRel.upd {Z Z':Nat→Prop} {w:World} {b:Nat} {o o':List AV} (r:ObjRel Z w b o) (hlen:o'.length≤o.length) (h:∀ (i:Nat) (a a':AV) (v:Value),o[i]?=some a→o'[i]?=some a'→Rel Z w a v→Rel Z' w a' v):ObjRel Z' w b o':=by
 rcases r with ⟨arr,e,lo,hi,hh,hl,hc,hf⟩ | ⟨es,clock,hh,hr⟩
 ·refine .inl ⟨arr,e,lo,hi,hh,Nat.le_trans hlen hl,fun i a v ha hv=>?_,hf⟩
  have hi2:i < o.length:=Nat.lt_of_lt_of_le (List.getElem?_eq_some_iff.1 ha).1 hlen
  obtain ⟨h1,h2⟩:=hc i o[i] v (List.getElem?_eq_getElem hi2) hv
  exact ⟨h i _ a v (List.getElem?_eq_getElem hi2) ha h1,h2⟩
 ·refine .inr ⟨es,clock,hh,fun a ha=>?_⟩
  have hi2:0 < o.length:=Nat.lt_of_lt_of_le (List.getElem?_eq_some_iff.1 ha).1 hlen
  exact h 0 _ a _ (List.getElem?_eq_getElem hi2) ha (hr _ (List.getElem?_eq_getElem hi2))
theorem Rel.ptr_inv {Z:Nat→Prop} {w:World} {b off:Nat} {v:Value} (r:Rel Z w (.ptr b off) v):∃ e m,w.shape? b=some (e,m)∧v=.pointer (some ⟨b,off,none⟩):=by
 cases r with | ptr _ _ e m hs=>exact ⟨e,m,hs,rfl⟩
structure SR (Z:Nat→Prop) (s:AS) (a:Act) (w:World):Prop where
 tm:∀ t,Rel Z w (s.t t) (a.tmps.getD t undef)
 ts:a.tmps.size=s.sz
 df:a.defers=[]
 gd:Good Z s.h w
 hn:s.n≤w.heap.size
 hl:∀ b o,s.h b=some o→b < s.n
def AW (P:Program) (c:Code) (Q:Go.Exit→AS→Prop) (s:AS):Prop :=
 ∀ Z a w,SR Z s a w→c.wp P (fun e a' w'=>∃ s' Z',Q e s'∧SR Z' s' a' w'∧Ext s.h Z w s'.h Z' w') a w
def AC (P:Program) (f:FuncId) (args:List AV) (h:Heap) (R:AV→Heap→Prop):Prop :=
 ∀ Z w (vs:Array Value),Good Z h w→args.length=vs.size→(∀ (i:Nat) (a:AV) (v:Value),args[i]?=some a→vs[i]?=some v→Rel Z w a v) →
  Calls P f vs w fun e w'=>∃ v r h' Z',e=.returned v∧R r h'∧Rel Z' w' r v∧Good Z' h' w'∧Ext h Z w h' Z' w'
theorem rounds_more {P:Program} {c:Code} {Q:Go.Exit→Act→World→Prop} (d:Nat):∀ {n:Nat} {a:Act} {w:World},Code.rounds P c Q n a w→Code.rounds P c Q (n+d) a w
 | 0,_,_,h=>h.elim
 | n+1,a,w,h=>by
  rw [show n+1+d=(n+d)+1 by omega,rounds_succ]
  rw [rounds_succ] at h
  refine wp_mono h fun e a' w' q=>?_
  cases e with
  | normal=>exact rounds_more d q
  | exit id=>exact q
  | goto l=>exact q
  | ret=>exact q
  | panic ch=>exact q
  | outgrown=>exact q
section rules
variable {P:Program} {Q:Go.Exit→AS→Prop} {s:AS}
theorem AW.mono {c:Code} {Q':Go.Exit→AS→Prop} (h:AW P c Q s) (hq:∀ e s',Q e s'→Q' e s'):AW P c Q' s :=
 fun Z a w r=>wp_mono (h Z a w r) fun _ _ _ ⟨s',Z',q,x⟩=>⟨s',Z',hq _ _ q,x⟩
theorem AW_skip (h:Q .normal s):AW P .skip Q s:=fun Z _ w r=>wp_skip ⟨s,Z,h,r,Ext.refl _ _ w⟩
theorem AW_exit {id:Nat} (h:Q (.exit id) s):AW P (.exit id) Q s:=fun Z _ w r=>wp_exit ⟨s,Z,h,r,Ext.refl _ _ w⟩
theorem AW_ret (h:Q .ret s):AW P .ret Q s:=fun Z _ w r=>wp_ret ⟨s,Z,h,r,Ext.refl _ _ w⟩
def thenQ (next:AS→Prop) (Q:Go.Exit→AS→Prop):Go.Exit→AS→Prop
 | .normal,s=>next s
 | e,s=>Q e s
theorem AW_seq {x y:Code} (h:AW P x (thenQ (AW P y Q) Q) s):AW P (.seq x y) Q s:=by
 intro Z a w r
 refine wp_seq (wp_mono (h Z a w r) ?_)
 rintro e a1 w1 ⟨s1,Z1,q,r1,x1⟩
 cases e with
 | normal=>exact wp_mono (q Z1 a1 w1 r1) fun _ _ _ ⟨s2,Z2,q2,r2,x2⟩=>⟨s2,Z2,q2,r2,x1.trans x2⟩
 | exit id=>exact ⟨s1,Z1,q,r1,x1⟩
 | goto l=>exact ⟨s1,Z1,q,r1,x1⟩
 | ret=>exact ⟨s1,Z1,q,r1,x1⟩
 | panic ch=>exact ⟨s1,Z1,q,r1,x1⟩
 | outgrown=>exact ⟨s1,Z1,q,r1,x1⟩
def blockQ (id:Nat) (Q:Go.Exit→AS→Prop):Go.Exit→AS→Prop
 | .exit id',s=>if id'=id then Q .normal s else Q (.exit id') s
 | e,s=>Q e s
theorem AW_block {id:Nat} {c:Code} (h:AW P c (blockQ id Q) s):AW P (.block id c) Q s:=by
 intro Z a w r
 refine wp_block (wp_mono (h Z a w r) ?_)
 rintro e a1 w1 ⟨s1,Z1,q,r1,x1⟩
 cases e with
 | exit id' =>
  by_cases hid:id'=id
  ·simp only [blockQ,hid,if_true] at q
   simp only [Go.Exit.inBlock,hid,if_true]
   exact ⟨s1,Z1,q,r1,x1⟩
  ·simp only [blockQ,hid,if_false] at q
   simp only [Go.Exit.inBlock,hid,if_false]
   exact ⟨s1,Z1,q,r1,x1⟩
 | normal=>exact ⟨s1,Z1,q,r1,x1⟩
 | goto l=>exact ⟨s1,Z1,q,r1,x1⟩
 | ret=>exact ⟨s1,Z1,q,r1,x1⟩
 | panic ch=>exact ⟨s1,Z1,q,r1,x1⟩
 | outgrown=>exact ⟨s1,Z1,q,r1,x1⟩
theorem AW_loop {c:Code} (I:Nat→AS→Prop) {n:Nat} (h0:I n s)
  (round:∀ n s,I n s→AW P c (thenQ (fun s'=>∃ m,m < n∧I m s') Q) s):AW P (.loop c) Q s:=by
 intro Z a w r
 refine wp_loop_rounds (n+1) ?_
 have key:∀ (n:Nat) (s1:AS) (Z1:Nat→Prop) (a1:Act) (w1:World),I n s1→SR Z1 s1 a1 w1→Ext s.h Z w s1.h Z1 w1 →
   Code.rounds P c (fun e a' w'=>∃ s' Z',Q e s'∧SR Z' s' a' w'∧Ext s.h Z w s'.h Z' w') (n+1) a1 w1:=by
  intro n
  induction n using Nat.strongRecOn with
  | _ n ih =>
   intro s1 Z1 a1 w1 hI r1 x1
   rw [rounds_succ]
   refine wp_mono (round n s1 hI Z1 a1 w1 r1) ?_
   rintro e a2 w2 ⟨s2,Z2,q,r2,x2⟩
   cases e with
   | normal =>
    obtain ⟨m,hm,hI2⟩:=q
    have hk:=ih m hm s2 Z2 a2 w2 hI2 r2 (x1.trans x2)
    show Code.rounds P c _ n a2 w2
    obtain ⟨d,rfl⟩:∃ d,n=m+1+d:=⟨n - (m+1),by omega⟩
    exact rounds_more d hk
   | exit id=>exact ⟨s2,Z2,q,r2,x1.trans x2⟩
   | goto l=>exact ⟨s2,Z2,q,r2,x1.trans x2⟩
   | ret=>exact ⟨s2,Z2,q,r2,x1.trans x2⟩
   | panic ch=>exact ⟨s2,Z2,q,r2,x1.trans x2⟩
   | outgrown=>exact ⟨s2,Z2,q,r2,x1.trans x2⟩
 exact key n s Z a w h0 r (Ext.refl _ _ _)
end rules
end Go.Proofs.Ytglgdaeimfdpfaa.VM
