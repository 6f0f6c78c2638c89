/- Words and rules that the proof uses. -/
import Derived.Test.YtglgdaeimfdpfaaVtDraw
namespace Go.Proofs.Ytglgdaeimfdpfaa.VM
open Go Go.RowKit
abbrev w64 (n:Int):Int:=IntKind.i64.wrap n
abbrev AV.b8 (n:UInt8):AV:=.sc (.int .u8 n.toNat)
def letO {α β:Type} (x:α) (f:α→Option β):Option β:=f x
theorem letO_eq {α β:Type} (x:α) (f:α→Option β):letO x f=f x:=rfl
theorem ixe {i:Int} {n:Nat} (h:0≤i∧i < (n:Int)):i=(i.toNat:Int):=(Int.toNat_of_nonneg h.1).symm
theorem ixn {i:Int} {n:Nat} (h:0≤i∧i < (n:Int)):i.toNat < n:=by omega
def Sub (cs:List AV) (off:Nat) (sub:List AV):Prop:=off+sub.length≤cs.length∧(cs.drop off).take sub.length=sub
theorem Sub.refl (cs:List AV):Sub cs 0 cs:=⟨by omega,by simp⟩
theorem Sub.get {cs sub:List AV} {off i:Nat} (h:Sub cs off sub) (hi:i < sub.length):cs[off+i]?=sub[i]?:=by
 have:((cs.drop off).take sub.length)[i]?=sub[i]?:=by rw [h.2]
 rw [List.getElem?_take,if_pos hi,List.getElem?_drop] at this
 exact this
theorem Sub.of {cs sub:List AV} {off:Nat} (hl:off+sub.length≤cs.length) (h:∀ i,i < sub.length→cs[off+i]?=sub[i]?):Sub cs off sub:=by
 refine ⟨hl,List.ext_getElem? fun i=>?_⟩
 rw [List.getElem?_take]
 by_cases hi:i < sub.length
 ·rw [if_pos hi,List.getElem?_drop]; exact h i hi
 ·rw [if_neg hi,List.getElem?_eq_none (by omega)]
theorem Sub.one {cs:List AV} {off:Nat} {c:AV} (h:Sub cs off [c]):cs[off]?=some c:=by
 have:=h.get (i:=0) (by simp)
 simpa using this
theorem Sub.take {cs sub:List AV} {off z:Nat} (h:Sub cs off sub) (hz:sub.length=z):(cs.drop off).take z=sub:=by rw [← hz]; exact h.2
theorem Sub.le {cs sub:List AV} {off z:Nat} (h:Sub cs off sub) (hz:sub.length=z):off+z≤cs.length:=by rw [← hz]; exact h.1
theorem Sub.head (a b:List AV):Sub (a++b) 0 a:=⟨by simp,by simp⟩
theorem Sub.skip {a b s:List AV} {k o:Nat} (hk:a.length=k) (h:Sub b o s):Sub (a++b) (k+o) s:=by
 subst hk
 have:=h.1
 refine ⟨by simp; omega,?_⟩
 rw [← List.drop_drop,List.drop_left]
 exact h.2
theorem Sub.map {α:Type} {f:α→AV} {l:List α} {j:Nat} (d:α) (h:j < l.length):Sub (l.map f) (j * 1) [f (l.getD j d)]:=by
 refine .of (by simp; omega) fun i hi=>?_
 simp only [List.length_singleton] at hi
 have:i=0:=by omega
 subst this
 simp [h,List.getD]
theorem fm_length {α:Type} {f:α→List AV} {z:Nat} (hz:∀ x,(f x).length=z):∀ (l:List α),(l.flatMap f).length=l.length * z
 | []=>by simp
 | x::l=>by simp only [List.flatMap_cons,List.length_append,hz,fm_length hz l,List.length_cons,Nat.add_mul]; omega
theorem fm_get {α:Type} {f:α→List AV} {z:Nat} (hz:∀ x,(f x).length=z) (d:α):∀ (l:List α) (j i:Nat),j < l.length→i < z→(l.flatMap f)[j * z+i]?=(f (l.getD j d))[i]?
 | [],j,i,h,_=>by simp at h
 | x::l,0,i,h,hi=>by
  simp only [List.flatMap_cons,Nat.zero_mul,Nat.zero_add,List.getD_cons_zero]
  rw [List.getElem?_append_left (by rw [hz]; exact hi)]
 | x::l,j+1,i,h,hi=>by
  simp only [List.flatMap_cons,List.getD_cons_succ]
  rw [List.getElem?_append_right (by rw [hz,Nat.add_mul]; omega),hz,show (j+1) * z+i - z=j * z+i by rw [Nat.add_mul]; omega]
  exact fm_get hz d l j i (by simpa using h) hi
theorem Sub.fm {α:Type} {f:α→List AV} {l:List α} {j z:Nat} (d:α) (hz:∀ x,(f x).length=z) (h:j < l.length):Sub (l.flatMap f) (j * z) (f (l.getD j d)):=by
 refine .of ?_ fun i hi=>?_
 ·rw [hz,fm_length hz]
  have:j * z+z=(j+1) * z:=by rw [Nat.add_mul]; omega
  rw [this]
  exact Nat.mul_le_mul_right _ h
 ·rw [hz] at hi
  exact fm_get hz d l j i h hi
def Upd (cs:List AV) (off:Nat) (new cs':List AV):Prop:=off+new.length≤cs.length∧wCells cs off new=cs'
theorem Upd.refl {cs new:List AV} (h:new.length=cs.length):Upd cs 0 new new:=⟨by omega,by simp [wCells,h]⟩
theorem Upd.head {a a' b:List AV} (h:a'.length=a.length):Upd (a++b) 0 a' (a'++b):=⟨by simp; omega,by simp [wCells,h]⟩
theorem Upd.skip {a b n b':List AV} {k o:Nat} (hk:a.length=k) (h:Upd b o n b'):Upd (a++b) (k+o) n (a++b'):=by
 subst hk
 have:=h.1
 refine ⟨by simp; omega,?_⟩
 rw [← h.2]
 simp only [wCells,List.take_append,List.drop_append,List.append_assoc]
 rw [show a.length+o - a.length=o by omega,show a.length+o+n.length - a.length=o+n.length by omega,List.take_of_length_le (by omega),List.drop_eq_nil_of_le (by omega)]
 simp
abbrev vrd {α:Type} [Inhabited α] {n:Nat} (v:Vector α n) (j:Nat):α:=v.toList.getD j default
abbrev lrd {α:Type} [Inhabited α] (l:List α) (j:Nat):α:=l.getD j default
theorem vlen {α:Type} {n:Nat} (v:Vector α n):v.toList.length=n:=by simp
theorem Sub.vmap {α:Type} [Inhabited α] {f:α→AV} {n:Nat} {v:Vector α n} {j:Nat} (h:j < n):Sub (v.toList.map f) (j * 1) [f (vrd v j)]:=Sub.map default (by rw [vlen]; exact h)
section joints
variable {P:Program} {Q:Go.Exit→TS→Prop} {s:TS}
theorem blockQ2_exit {id:Nat} (h:Q .normal s):blockQ2 id Q (.exit id) s:=by simp only [blockQ2,if_true]; exact h
theorem gen1 {α β:Type} {e:α} {F:α→Option β} {r:β} {C:TS→Prop} (S:α→TS) (H:letO e F=some r) (k:∀ x,F x=some r→C (S x)):C (S e):=k e H
def midQ (S:TS) (Q:Go.Exit→TS→Prop):Go.Exit→TS→Prop
 | .normal,s=>s=S
 | e,s=>Q e s
theorem AW2_mid {c:Code} (S:TS) (h1:AW2 P c (midQ S Q) s) (h2:Q .normal S):AW2 P c Q s:=by
 refine h1.mono fun e s' q=>?_
 cases e with
 | normal=>cases q; exact h2
 | _=>exact q
theorem r_on {ops:Array Oper} {K:TS→Prop} {l:List Nat} {i j d:Nat} {o:Oper} {want g:Bool} {s':TS} (ho:ops[i]?=some o) (hg:o.guard=some (j,want)) (hj:((ops[j]?).bind (·.dst))=some d) (hv:s.t d=.c (.p (.sc (.bool g)))) (hgw:g=want) (hd:dOk2 s (some d)=true) (h:OpD P { o with guard:=none } s s') (hk:RunW P ops l K s'):RunW P ops (i::l) K s:=by
 subst hgw
 intro m h1 n hm
 refine OpsW_guard_on ho hg hj (by show (s.t d).rn m=_; rw [hv]; rfl) (Nat.lt_of_succ_le (Nat.le_of_ble_eq_true hd)) ((h m h1 n hm).mono ?_)
 rintro s1 ⟨m',pn,f⟩
 exact (f.run hk).mono fun s2 ⟨s3,m3,q,pn3,f3⟩=>⟨s3,m3,q,pn.trans pn3,f3⟩
theorem r_off {ops:Array Oper} {K:TS→Prop} {l:List Nat} {i j d:Nat} {o:Oper} {want g:Bool} (ho:ops[i]?=some o) (hg:o.guard=some (j,want)) (hj:((ops[j]?).bind (·.dst))=some d) (hv:s.t d=.c (.p (.sc (.bool g)))) (hgw:g = !want) (hd:dOk2 s (some d)=true) (hdst:dOk2 s o.dst=true) (hk:RunW P ops l K (s.put o.dst (.c (.p (.tup []))))):RunW P ops (i::l) K s:=by
 subst hgw
 intro m h1 n hm
 refine OpsW_guard_off ho hg hj (.inl (by show (s.t d).rn m=_; rw [hv]; rfl)) (Nat.lt_of_succ_le (Nat.le_of_ble_eq_true hd)) (dOk_can hdst) ?_
 exact (put_fit (v:=.c (.p (.tup []))) hm (fun _ _=>.same _) (.same _)).run hk
end joints
section ops
variable {P:Program} {s:TS} {dst:Option Tmp} {ty:TypeId} {pos:String} {after:Array Edge}
theorem p_pkt {c x y:Operand} {b:Bool} {v:TV} (hd:dOk2 s dst=true) (hc:tev s c=.c (.p (.sc (.bool b)))) (hb:b=true) (hv:TLes (tev s x) v):PureD P ⟨dst,.pick c x y,ty,pos,after,none⟩ s v:=by
 subst hb
 exact (p_pick hd hc (if_pos rfl)).les hv
theorem p_pkf {c x y:Operand} {b:Bool} {v:TV} (hd:dOk2 s dst=true) (hc:tev s c=.c (.p (.sc (.bool b)))) (hb:b=false) (hv:TLes (tev s y) v):PureD P ⟨dst,.pick c x y,ty,pos,after,none⟩ s v:=by
 subst hb
 exact (p_pick hd hc (if_neg (by decide))).les hv
theorem tb {a b:Bool} (h:a=b):TLes (.c (.p (.sc (.bool a)))) (.c (.p (.sc (.bool b)))):=by subst h; exact .same _
theorem db {p q:Prop} [Decidable p] [Decidable q] (h:p↔q):decide p=decide q:=by
 by_cases hp:p
 ·rw [decide_eq_true hp,decide_eq_true (h.1 hp)]
 ·rw [decide_eq_false hp,decide_eq_false (fun hq=>hp (h.2 hq))]
theorem or_l {p q:Prop} [Decidable q] (h:¬ p) [Decidable (p∨q)]:decide q=decide (p∨q):=db ⟨.inr,fun x=>x.resolve_left h⟩
theorem p_ieq {t yt:TypeId} {x y:Operand} {k:IntKind} {a b:Int} (hd:dOk2 s dst=true) (hx:tev s x=.c (.p (.sc (.int k a)))) (hy:tev s y=.c (.p (.sc (.int k b)))):PureD P ⟨dst,.binOp .eql t x y yt,ty,pos,after,none⟩ s (.c (.p (.bool (decide (a=b))))) :=
 p_bin hd hx hy (v:=.bool (decide (a=b))) (by simp only [ibin,Option.some.injEq,Value.bool.injEq]; by_cases h:a=b<;>simp [h])
theorem p_ine {t yt:TypeId} {x y:Operand} {k:IntKind} {a b:Int} (hd:dOk2 s dst=true) (hx:tev s x=.c (.p (.sc (.int k a)))) (hy:tev s y=.c (.p (.sc (.int k b)))):PureD P ⟨dst,.binOp .neq t x y yt,ty,pos,after,none⟩ s (.c (.p (.bool (decide (a≠b))))) :=
 p_bin hd hx hy (v:=.bool (decide (a≠b))) (by simp only [ibin,Option.some.injEq,Value.bool.injEq]; by_cases h:a=b<;>simp [h])
end ops
end Go.Proofs.Ytglgdaeimfdpfaa.VM
