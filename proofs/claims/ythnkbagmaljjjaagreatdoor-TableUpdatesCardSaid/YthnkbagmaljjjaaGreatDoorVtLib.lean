/- Words and rules that the proof uses. -/
import Derived.Test.YthnkbagmaljjjaaGreatDoorVtDraw
namespace Go.Proofs.YthnkbagmaljjjaaGreatDoor.VM
open Go Go.RowKit
abbrev w64 (n:Int):Int:=IntKind.i64.wrap n
abbrev AV.b8 (n:UInt8):AV:=.sc (.int .u8 n.toNat)
abbrev AV.u64 (n:UInt64):AV:=.sc (.int .u64 n.toNat)
abbrev iand (a b:Int):Int:=Go.bits .and .i64 a b
abbrev ishr (a:Int) (n:Nat):Int:=a.fdiv (2 ^ min n 64)
def letO {α β:Type} (x:α) (f:α→Option β):Option β:=f x
theorem letO_eq {α β:Type} (x:α) (f:α→Option β):letO x f=f x:=rfl
theorem ixe {i:Int} {n:Nat} (h:0≤i∧i < (n:Int)):i=(i.toNat:Int):=(Int.toNat_of_nonneg h.1).symm
theorem ixn {i:Int} {n:Nat} (h:0≤i∧i < (n:Int)):i.toNat < n:=by omega
def Sub (cs:List AV) (off:Nat) (sub:List AV):Prop:=off+sub.length≤cs.length∧(cs.drop off).take sub.length=sub
theorem Sub.refl (cs:List AV):Sub cs 0 cs:=⟨by omega,by simp⟩
theorem Sub.get {cs sub:List AV} {off i:Nat} (h:Sub cs off sub) (hi:i < sub.length):cs[off+i]?=sub[i]?:=by
 have:((cs.drop off).take sub.length)[i]?=sub[i]?:=by rw [h.2]
 rw [List.getElem?_take,if_pos hi,List.getElem?_drop] at this
 exact this
theorem Sub.of {cs sub:List AV} {off:Nat} (hl:off+sub.length≤cs.length) (h:∀ i,i < sub.length→cs[off+i]?=sub[i]?):Sub cs off sub:=by
 refine ⟨hl,List.ext_getElem? fun i=>?_⟩
 rw [List.getElem?_take]
 by_cases hi:i < sub.length
 ·rw [if_pos hi,List.getElem?_drop]; exact h i hi
 ·rw [if_neg hi,List.getElem?_eq_none (by omega)]
theorem Sub.trans {cs mid sub:List AV} {off o:Nat} (h:Sub cs off mid) (k:Sub mid o sub):Sub cs (off+o) sub:=by
 have h1:=h.1
 have k1:=k.1
 refine .of (by omega) fun i hi=>?_
 rw [Nat.add_assoc,h.get (by omega),k.get hi]
theorem Sub.one {cs:List AV} {off:Nat} {c:AV} (h:Sub cs off [c]):cs[off]?=some c:=by
 have:=h.get (i:=0) (by simp)
 simpa using this
theorem Sub.take {cs sub:List AV} {off z:Nat} (h:Sub cs off sub) (hz:sub.length=z):(cs.drop off).take z=sub:=by rw [← hz]; exact h.2
theorem Sub.le {cs sub:List AV} {off z:Nat} (h:Sub cs off sub) (hz:sub.length=z):off+z≤cs.length:=by rw [← hz]; exact h.1
theorem Sub.head (a b:List AV):Sub (a++b) 0 a:=⟨by simp,by simp⟩
theorem Sub.skip {a b s:List AV} {k o:Nat} (hk:a.length=k) (h:Sub b o s):Sub (a++b) (k+o) s:=by
 subst hk
 have:=h.1
 refine ⟨by simp; omega,?_⟩
 rw [← List.drop_drop,List.drop_left]
 exact h.2
theorem Sub.map {α:Type} {f:α→AV} {l:List α} {j:Nat} (d:α) (h:j < l.length):Sub (l.map f) (j * 1) [f (l.getD j d)]:=by
 refine .of (by simp; omega) fun i hi=>?_
 simp only [List.length_singleton] at hi
 have:i=0:=by omega
 subst this
 simp [h,List.getD]
theorem fm_length {α:Type} {f:α→List AV} {z:Nat} (hz:∀ x,(f x).length=z):∀ (l:List α),(l.flatMap f).length=l.length * z
 | []=>by simp
 | x::l=>by simp only [List.flatMap_cons,List.length_append,hz,fm_length hz l,List.length_cons,Nat.add_mul]; omega
theorem fm_get {α:Type} {f:α→List AV} {z:Nat} (hz:∀ x,(f x).length=z) (d:α):∀ (l:List α) (j i:Nat),j < l.length→i < z→(l.flatMap f)[j * z+i]?=(f (l.getD j d))[i]?
 | [],j,i,h,_=>by simp at h
 | x::l,0,i,h,hi=>by
  simp only [List.flatMap_cons,Nat.zero_mul,Nat.zero_add,List.getD_cons_zero]
  rw [List.getElem?_append_left (by rw [hz]; exact hi)]
 | x::l,j+1,i,h,hi=>by
  simp only [List.flatMap_cons,List.getD_cons_succ]
  rw [List.getElem?_append_right (by rw [hz,Nat.add_mul]; omega),hz,show (j+1) * z+i - z=j * z+i by rw [Nat.add_mul]; omega]
  exact fm_get hz d l j i (by simpa using h) hi
theorem Sub.fm {α:Type} {f:α→List AV} {l:List α} {j z:Nat} (d:α) (hz:∀ x,(f x).length=z) (h:j < l.length):Sub (l.flatMap f) (j * z) (f (l.getD j d)):=by
 refine .of ?_ fun i hi=>?_
 ·rw [hz,fm_length hz]
  have:j * z+z=(j+1) * z:=by rw [Nat.add_mul]; omega
  rw [this]
  exact Nat.mul_le_mul_right _ h
 ·rw [hz] at hi
  exact fm_get hz d l j i h hi
def Upd (cs:List AV) (off:Nat) (new cs':List AV):Prop:=off+new.length≤cs.length∧wCells cs off new=cs'
theorem wCells_get {cs xs:List AV} {off i:Nat} (h:off+xs.length≤cs.length):(wCells cs off xs)[i]?=if off≤i∧i < off+xs.length then xs[i - off]? else cs[i]?:=by
 by_cases hi:off≤i∧i < off+xs.length
 ·rw [if_pos hi]
  obtain ⟨j,rfl⟩:∃ j,i=off+j:=⟨i - off,by omega⟩
  rw [wCells_in h (by omega)]
  congr 1
  omega
 ·rw [if_neg hi,wCells_out h (by omega)]
theorem Upd.refl {cs new:List AV} (h:new.length=cs.length):Upd cs 0 new new:=⟨by omega,by simp [wCells,h]⟩
theorem Upd.trans {cs mid new mid' cs':List AV} {off o:Nat} (h:Sub cs off mid) (k:Upd mid o new mid') (u:Upd cs off mid' cs'):Upd cs (off+o) new cs':=by
 have h1:=h.1
 have k1:=k.1
 have hl:mid'.length=mid.length:=by rw [← k.2,wCells_length k1]
 refine ⟨by omega,?_⟩
 rw [← u.2]
 apply List.ext_getElem?
 intro i
 rw [wCells_get (by omega),wCells_get u.1]
 by_cases hi:off+o≤i∧i < off+o+new.length
 ·rw [if_pos hi,if_pos (by omega),← k.2,wCells_get k1,if_pos (by omega)]
  congr 1
  omega
 ·rw [if_neg hi]
  by_cases hi2:off≤i∧i < off+mid'.length
  ·rw [if_pos hi2,← k.2,wCells_get k1,if_neg (by omega),← h.get (by omega)]
   congr 1
   omega
  ·rw [if_neg hi2]
theorem Upd.head {a a' b:List AV} (h:a'.length=a.length):Upd (a++b) 0 a' (a'++b):=⟨by simp; omega,by simp [wCells,h]⟩
theorem Upd.skip {a b n b':List AV} {k o:Nat} (hk:a.length=k) (h:Upd b o n b'):Upd (a++b) (k+o) n (a++b'):=by
 subst hk
 have:=h.1
 refine ⟨by simp; omega,?_⟩
 rw [← h.2]
 simp only [wCells,List.take_append,List.drop_append,List.append_assoc]
 rw [show a.length+o - a.length=o by omega,show a.length+o+n.length - a.length=o+n.length by omega,List.take_of_length_le (by omega),List.drop_eq_nil_of_le (by omega)]
 simp
theorem Upd.fm {α:Type} {f:α→List AV} {l:List α} {j z:Nat} {y:α} (hz:∀ x,(f x).length=z) (h:j < l.length):Upd (l.flatMap f) (j * z) (f y) ((l.set j y).flatMap f):=by
 have hle:j * z+(f y).length≤(l.flatMap f).length:=by
  rw [hz,fm_length hz]
  have:j * z+z=(j+1) * z:=by rw [Nat.add_mul]; omega
  rw [this]
  exact Nat.mul_le_mul_right _ h
 refine ⟨hle,?_⟩
 apply List.ext_getElem?
 intro i
 rw [wCells_get hle]
 rcases Nat.lt_or_ge i (l.length * z) with hi | hi
 ·have hz0:0 < z:=by
   rcases Nat.eq_zero_or_pos z with h0 | h0
   ·rw [h0,Nat.mul_zero] at hi; omega
   ·exact h0
  have hq:i / z < l.length:=by rw [Nat.div_lt_iff_lt_mul hz0]; exact hi
  have hr:i % z < z:=Nat.mod_lt _ hz0
  have hi2:i=i / z * z+i % z:=by rw [Nat.mul_comm]; exact (Nat.div_add_mod i z).symm
  rw [hz]
  by_cases hj:i / z=j
  ·rw [if_pos (by rw [hj] at hi2; omega)]
   rw [hi2,fm_get hz y _ _ _ (by rw [List.length_set]; exact hq) hr]
   rw [hj]
   have:(l.set j y).getD j y=y:=by simp [List.getD,h]
   rw [this]
   congr 1
   omega
  ·rw [if_neg (by
    intro hc
    apply hj
    have h1:j≤i / z:=by rw [Nat.le_div_iff_mul_le hz0]; exact hc.1
    have h2:i / z < j+1:=by rw [Nat.div_lt_iff_lt_mul hz0,Nat.add_mul]; omega
    omega)]
   rw [hi2,fm_get hz y _ _ _ hq hr,fm_get hz y _ _ _ (by rw [List.length_set]; exact hq) hr]
   have:(l.set j y).getD (i / z) y=l.getD (i / z) y:=by
    simp only [List.getD,List.getElem?_set]
    rw [if_neg (fun e=>hj e.symm)]
   rw [this]
 ·have hjl:(j+1) * z≤l.length * z:=Nat.mul_le_mul_right _ h
  rw [Nat.add_mul] at hjl
  rw [if_neg (by rw [hz]; omega)]
  rw [List.getElem?_eq_none (by rw [fm_length hz]; exact hi),List.getElem?_eq_none (by rw [fm_length hz,List.length_set]; exact hi)]
abbrev vrd {α:Type} [Inhabited α] {n:Nat} (v:Vector α n) (j:Nat):α:=v.toList.getD j default
abbrev vwr {α:Type} {n:Nat} (v:Vector α n) (j:Nat) (x:α):Vector α n:=v.setIfInBounds j x
abbrev lrd {α:Type} [Inhabited α] (l:List α) (j:Nat):α:=l.getD j default
theorem vlen {α:Type} {n:Nat} (v:Vector α n):v.toList.length=n:=by simp
theorem vwr_list {α:Type} {n:Nat} (v:Vector α n) (j:Nat) (x:α):(vwr v j x).toList=v.toList.set j x:=by simp [vwr]
theorem Sub.vfm {α:Type} [Inhabited α] {f:α→List AV} {n z:Nat} {v:Vector α n} {j:Nat} (hz:∀ x,(f x).length=z) (h:j < n):Sub (v.toList.flatMap f) (j * z) (f (vrd v j)):=Sub.fm default hz (by rw [vlen]; exact h)
theorem Upd.vfm {α:Type} {f:α→List AV} {n z:Nat} {v:Vector α n} {j:Nat} {y:α} (hz:∀ x,(f x).length=z) (h:j < n):Upd (v.toList.flatMap f) (j * z) (f y) ((vwr v j y).toList.flatMap f):=by
 rw [vwr_list]
 exact Upd.fm hz (by rw [vlen]; exact h)
theorem vfm_len {α:Type} {f:α→List AV} {n z:Nat} (hz:∀ x,(f x).length=z) (v:Vector α n):(v.toList.flatMap f).length=n * z:=by rw [fm_length hz,vlen]
section joints
variable {P:Program} {Q:Go.Exit→TS→Prop} {s:TS}
theorem blockQ2_exit {id:Nat} (h:Q .normal s):blockQ2 id Q (.exit id) s:=by simp only [blockQ2,if_true]; exact h
theorem gen1 {α β:Type} {e:α} {F:α→Option β} {r:β} {C:TS→Prop} (S:α→TS) (H:letO e F=some r) (k:∀ x,F x=some r→C (S x)):C (S e):=k e H
def midQ (S:TS) (Q:Go.Exit→TS→Prop):Go.Exit→TS→Prop
 | .normal,s=>s=S
 | e,s=>Q e s
theorem AW2_mid {c:Code} (S:TS) (h1:AW2 P c (midQ S Q) s) (h2:Q .normal S):AW2 P c Q s:=by
 refine h1.mono fun e s' q=>?_
 cases e with
 | normal=>cases q; exact h2
 | _=>exact q
def joinQ {ρ ν:Type} (S:ν→TS) (R:ρ→Go.Exit→TS→Prop):ρ⊕ν→Go.Exit→TS→Prop
 | .inr v,e,s=>e=.normal∧s=S v
 | .inl r,e,s=>R r e s
theorem AW2_join {c:Code} {ρ ν:Type} (S:ν→TS) (R:ρ→Go.Exit→TS→Prop) {x:ρ⊕ν} (h1:AW2 P c (joinQ S R x) s) (hn:∀ v,x=.inr v→Q .normal (S v)) (hr:∀ r e s,x=.inl r→R r e s→Q e s):AW2 P c Q s:=by
 refine h1.mono fun e s' q=>?_
 cases x with
 | inl r=>exact hr r e s' rfl q
 | inr v=>obtain ⟨rfl,rfl⟩:=q; exact hn v rfl
theorem r_on {ops:Array Oper} {K:TS→Prop} {l:List Nat} {i j d:Nat} {o:Oper} {want g:Bool} {s':TS} (ho:ops[i]?=some o) (hg:o.guard=some (j,want)) (hj:((ops[j]?).bind (·.dst))=some d) (hv:s.t d=.c (.p (.sc (.bool g)))) (hgw:g=want) (hd:dOk2 s (some d)=true) (h:OpD P { o with guard:=none } s s') (hk:RunW P ops l K s'):RunW P ops (i::l) K s:=by
 subst hgw
 intro m h1 n hm
 refine OpsW_guard_on ho hg hj (by show (s.t d).rn m=_; rw [hv]; rfl) (Nat.lt_of_succ_le (Nat.le_of_ble_eq_true hd)) ((h m h1 n hm).mono ?_)
 rintro s1 ⟨m',pn,f⟩
 exact (f.run hk).mono fun s2 ⟨s3,m3,q,pn3,f3⟩=>⟨s3,m3,q,pn.trans pn3,f3⟩
theorem r_off {ops:Array Oper} {K:TS→Prop} {l:List Nat} {i j d:Nat} {o:Oper} {want g:Bool} (ho:ops[i]?=some o) (hg:o.guard=some (j,want)) (hj:((ops[j]?).bind (·.dst))=some d) (hv:s.t d=.c (.p (.sc (.bool g)))) (hgw:g = !want) (hd:dOk2 s (some d)=true) (hdst:dOk2 s o.dst=true) (hk:RunW P ops l K (s.put o.dst (.c (.p (.tup []))))):RunW P ops (i::l) K s:=by
 subst hgw
 intro m h1 n hm
 refine OpsW_guard_off ho hg hj (.inl (by show (s.t d).rn m=_; rw [hv]; rfl)) (Nat.lt_of_succ_le (Nat.le_of_ble_eq_true hd)) (dOk_can hdst) ?_
 exact (put_fit (v:=.c (.p (.tup []))) hm (fun _ _=>.same _) (.same _)).run hk
theorem r_off2 {ops:Array Oper} {K:TS→Prop} {l:List Nat} {i j d:Nat} {o:Oper} {want:Bool} (ho:ops[i]?=some o) (hg:o.guard=some (j,want)) (hj:((ops[j]?).bind (·.dst))=some d) (hv:s.t d=.c (.p (.tup []))) (hd:dOk2 s (some d)=true) (hdst:dOk2 s o.dst=true) (hk:RunW P ops l K (s.put o.dst (.c (.p (.tup []))))):RunW P ops (i::l) K s:=by
 intro m h1 n hm
 refine OpsW_guard_off ho hg hj (.inr (by show (s.t d).rn m=_; rw [hv]; rfl)) (Nat.lt_of_succ_le (Nat.le_of_ble_eq_true hd)) (dOk_can hdst) ?_
 exact (put_fit (v:=.c (.p (.tup []))) hm (fun _ _=>.same _) (.same _)).run hk
end joints
section ops
variable {P:Program} {s:TS} {dst:Option Tmp} {ty:TypeId} {pos:String} {after:Array Edge}
theorem p_pkt {c x y:Operand} {b:Bool} {v:TV} (hd:dOk2 s dst=true) (hc:tev s c=.c (.p (.sc (.bool b)))) (hb:b=true) (hv:TLes (tev s x) v):PureD P ⟨dst,.pick c x y,ty,pos,after,none⟩ s v:=by
 subst hb
 exact (p_pick hd hc (if_pos rfl)).les hv
theorem p_pkf {c x y:Operand} {b:Bool} {v:TV} (hd:dOk2 s dst=true) (hc:tev s c=.c (.p (.sc (.bool b)))) (hb:b=false) (hv:TLes (tev s y) v):PureD P ⟨dst,.pick c x y,ty,pos,after,none⟩ s v:=by
 subst hb
 exact (p_pick hd hc (if_neg (by decide))).les hv
theorem tb {a b:Bool} (h:a=b):TLes (.c (.p (.sc (.bool a)))) (.c (.p (.sc (.bool b)))):=by subst h; exact .same _
theorem db {p q:Prop} [Decidable p] [Decidable q] (h:p↔q):decide p=decide q:=by
 by_cases hp:p
 ·rw [decide_eq_true hp,decide_eq_true (h.1 hp)]
 ·rw [decide_eq_false hp,decide_eq_false (fun hq=>hp (h.2 hq))]
theorem or_l {p q:Prop} [Decidable q] (h:¬ p) [Decidable (p∨q)]:decide q=decide (p∨q):=db ⟨.inr,fun x=>x.resolve_left h⟩
theorem and_l {p q:Prop} [Decidable q] (h:p) [Decidable (p∧q)]:decide q=decide (p∧q):=db ⟨fun x=>⟨h,x⟩,fun x=>x.2⟩
theorem dnot {p:Prop} [Decidable p]:(!(decide p))=decide (¬ p):=by by_cases h:p<;>simp [h]
theorem p_ieq {t yt:TypeId} {x y:Operand} {k:IntKind} {a b:Int} (hd:dOk2 s dst=true) (hx:tev s x=.c (.p (.sc (.int k a)))) (hy:tev s y=.c (.p (.sc (.int k b)))):PureD P ⟨dst,.binOp .eql t x y yt,ty,pos,after,none⟩ s (.c (.p (.bool (decide (a=b))))) :=
 p_bin hd hx hy (v:=.bool (decide (a=b))) (by simp only [ibin,Option.some.injEq,Value.bool.injEq]; by_cases h:a=b<;>simp [h])
theorem p_ine {t yt:TypeId} {x y:Operand} {k:IntKind} {a b:Int} (hd:dOk2 s dst=true) (hx:tev s x=.c (.p (.sc (.int k a)))) (hy:tev s y=.c (.p (.sc (.int k b)))):PureD P ⟨dst,.binOp .neq t x y yt,ty,pos,after,none⟩ s (.c (.p (.bool (decide (a≠b))))) :=
 p_bin hd hx hy (v:=.bool (decide (a≠b))) (by simp only [ibin,Option.some.injEq,Value.bool.injEq]; by_cases h:a=b<;>simp [h])
theorem p_notp {t:TypeId} {x:Operand} {p:Prop} [Decidable p] (hd:dOk2 s dst=true) (hx:tev s x=.c (.p (.sc (.bool (decide p))))):PureD P ⟨dst,.unOp .not t x,ty,pos,after,none⟩ s (.c (.p (.sc (.bool (decide (¬ p)))))):=by
 have:=p_not (P:=P) (ty:=ty) (pos:=pos) (after:=after) (t:=t) hd hx
 rwa [dnot] at this
theorem p_beqp {t yt:TypeId} {x y:Operand} {a b:Bool} (hd:dOk2 s dst=true) (ht:P.underlying t=some .bool) (hx:tev s x=.c (.p (.sc (.bool a)))) (hy:tev s y=.c (.p (.sc (.bool b)))):PureD P ⟨dst,.binOp .eql t x y yt,ty,pos,after,none⟩ s (.c (.p (.sc (.bool (decide (a=b)))))):=by
 have:=p_beq (P:=P) (ty:=ty) (pos:=pos) (after:=after) (yt:=yt) hd ht hx hy
 rwa [show (a == b)=decide (a=b) by cases a<;>cases b<;>rfl] at this
theorem p_bnep {t yt:TypeId} {x y:Operand} {a b:Bool} (hd:dOk2 s dst=true) (ht:P.underlying t=some .bool) (hx:tev s x=.c (.p (.sc (.bool a)))) (hy:tev s y=.c (.p (.sc (.bool b)))):PureD P ⟨dst,.binOp .neq t x y yt,ty,pos,after,none⟩ s (.c (.p (.sc (.bool (decide (a≠b)))))):=by
 have:=p_bne (P:=P) (ty:=ty) (pos:=pos) (after:=after) (yt:=yt) hd ht hx hy
 rwa [show (!(a == b))=decide (a≠b) by cases a<;>cases b<;>rfl] at this
theorem p_u8eq {t yt:TypeId} {x y:Operand} {a b:UInt8} (hd:dOk2 s dst=true) (hx:tev s x=.c (.p (.sc (.int .u8 a.toNat)))) (hy:tev s y=.c (.p (.sc (.int .u8 b.toNat)))):PureD P ⟨dst,.binOp .eql t x y yt,ty,pos,after,none⟩ s (.c (.p (.bool (decide (a=b))))) :=
 (p_ieq hd hx hy).les (tb (db ⟨fun h=>UInt8.toNat_inj.1 (by exact_mod_cast h),fun h=>by rw [h]⟩))
theorem p_u8ne {t yt:TypeId} {x y:Operand} {a b:UInt8} (hd:dOk2 s dst=true) (hx:tev s x=.c (.p (.sc (.int .u8 a.toNat)))) (hy:tev s y=.c (.p (.sc (.int .u8 b.toNat)))):PureD P ⟨dst,.binOp .neq t x y yt,ty,pos,after,none⟩ s (.c (.p (.bool (decide (a≠b))))) :=
 (p_ine hd hx hy).les (tb (db (not_congr ⟨fun h=>UInt8.toNat_inj.1 (by exact_mod_cast h),fun h=>by rw [h]⟩)))
theorem p_u8lt {t yt:TypeId} {x y:Operand} {a b:UInt8} (hd:dOk2 s dst=true) (hx:tev s x=.c (.p (.sc (.int .u8 a.toNat)))) (hy:tev s y=.c (.p (.sc (.int .u8 b.toNat)))):PureD P ⟨dst,.binOp .lss t x y yt,ty,pos,after,none⟩ s (.c (.p (.bool (decide (a < b))))) :=
 (p_bin hd hx hy (v:=.bool (decide ((a.toNat:Int) < b.toNat))) rfl).les (tb (db ⟨fun h=>UInt8.lt_iff_toNat_lt.2 (by exact_mod_cast h),fun h=>by exact_mod_cast UInt8.lt_iff_toNat_lt.1 h⟩))
theorem p_u8le {t yt:TypeId} {x y:Operand} {a b:UInt8} (hd:dOk2 s dst=true) (hx:tev s x=.c (.p (.sc (.int .u8 a.toNat)))) (hy:tev s y=.c (.p (.sc (.int .u8 b.toNat)))):PureD P ⟨dst,.binOp .leq t x y yt,ty,pos,after,none⟩ s (.c (.p (.bool (decide (a≤b))))) :=
 (p_bin hd hx hy (v:=.bool (decide ((a.toNat:Int)≤b.toNat))) rfl).les (tb (db ⟨fun h=>UInt8.le_iff_toNat_le.2 (by exact_mod_cast h),fun h=>by exact_mod_cast UInt8.le_iff_toNat_le.1 h⟩))
theorem p_u8ge {t yt:TypeId} {x y:Operand} {a b:UInt8} (hd:dOk2 s dst=true) (hx:tev s x=.c (.p (.sc (.int .u8 a.toNat)))) (hy:tev s y=.c (.p (.sc (.int .u8 b.toNat)))):PureD P ⟨dst,.binOp .geq t x y yt,ty,pos,after,none⟩ s (.c (.p (.bool (decide (b≤a))))) :=
 (p_bin hd hx hy (v:=.bool (decide ((a.toNat:Int)≥b.toNat))) rfl).les (tb (db ⟨fun h=>UInt8.le_iff_toNat_le.2 (by exact_mod_cast h),fun h=>by exact_mod_cast UInt8.le_iff_toNat_le.1 h⟩))
theorem p_u64eq {t yt:TypeId} {x y:Operand} {a b:UInt64} (hd:dOk2 s dst=true) (hx:tev s x=.c (.p (.sc (.int .u64 a.toNat)))) (hy:tev s y=.c (.p (.sc (.int .u64 b.toNat)))):PureD P ⟨dst,.binOp .eql t x y yt,ty,pos,after,none⟩ s (.c (.p (.bool (decide (a=b))))) :=
 (p_ieq hd hx hy).les (tb (db ⟨fun h=>UInt64.toNat_inj.1 (by exact_mod_cast h),fun h=>by rw [h]⟩))
theorem p_u64ne {t yt:TypeId} {x y:Operand} {a b:UInt64} (hd:dOk2 s dst=true) (hx:tev s x=.c (.p (.sc (.int .u64 a.toNat)))) (hy:tev s y=.c (.p (.sc (.int .u64 b.toNat)))):PureD P ⟨dst,.binOp .neq t x y yt,ty,pos,after,none⟩ s (.c (.p (.bool (decide (a≠b))))) :=
 (p_ine hd hx hy).les (tb (db (not_congr ⟨fun h=>UInt64.toNat_inj.1 (by exact_mod_cast h),fun h=>by rw [h]⟩)))
theorem p_u64lt {t yt:TypeId} {x y:Operand} {a b:UInt64} (hd:dOk2 s dst=true) (hx:tev s x=.c (.p (.sc (.int .u64 a.toNat)))) (hy:tev s y=.c (.p (.sc (.int .u64 b.toNat)))):PureD P ⟨dst,.binOp .lss t x y yt,ty,pos,after,none⟩ s (.c (.p (.bool (decide (a < b))))) :=
 (p_bin hd hx hy (v:=.bool (decide ((a.toNat:Int) < b.toNat))) rfl).les (tb (db ⟨fun h=>UInt64.lt_iff_toNat_lt.2 (by exact_mod_cast h),fun h=>by exact_mod_cast UInt64.lt_iff_toNat_lt.1 h⟩))
theorem p_u64le {t yt:TypeId} {x y:Operand} {a b:UInt64} (hd:dOk2 s dst=true) (hx:tev s x=.c (.p (.sc (.int .u64 a.toNat)))) (hy:tev s y=.c (.p (.sc (.int .u64 b.toNat)))):PureD P ⟨dst,.binOp .leq t x y yt,ty,pos,after,none⟩ s (.c (.p (.bool (decide (a≤b))))) :=
 (p_bin hd hx hy (v:=.bool (decide ((a.toNat:Int)≤b.toNat))) rfl).les (tb (db ⟨fun h=>UInt64.le_iff_toNat_le.2 (by exact_mod_cast h),fun h=>by exact_mod_cast UInt64.le_iff_toNat_le.1 h⟩))
theorem p_u64gt {t yt:TypeId} {x y:Operand} {a b:UInt64} (hd:dOk2 s dst=true) (hx:tev s x=.c (.p (.sc (.int .u64 a.toNat)))) (hy:tev s y=.c (.p (.sc (.int .u64 b.toNat)))):PureD P ⟨dst,.binOp .gtr t x y yt,ty,pos,after,none⟩ s (.c (.p (.bool (decide (b < a))))) :=
 (p_bin hd hx hy (v:=.bool (decide ((a.toNat:Int) > b.toNat))) rfl).les (tb (db ⟨fun h=>UInt64.lt_iff_toNat_lt.2 (by exact_mod_cast h),fun h=>by exact_mod_cast UInt64.lt_iff_toNat_lt.1 h⟩))
theorem p_u64ge {t yt:TypeId} {x y:Operand} {a b:UInt64} (hd:dOk2 s dst=true) (hx:tev s x=.c (.p (.sc (.int .u64 a.toNat)))) (hy:tev s y=.c (.p (.sc (.int .u64 b.toNat)))):PureD P ⟨dst,.binOp .geq t x y yt,ty,pos,after,none⟩ s (.c (.p (.bool (decide (b≤a))))) :=
 (p_bin hd hx hy (v:=.bool (decide ((a.toNat:Int)≥b.toNat))) rfl).les (tb (db ⟨fun h=>UInt64.le_iff_toNat_le.2 (by exact_mod_cast h),fun h=>by exact_mod_cast UInt64.le_iff_toNat_le.1 h⟩))
theorem wrap_u64 (n:Nat):IntKind.u64.wrap (n:Int)=((UInt64.ofNat n).toNat:Int):=by
 unfold IntKind.wrap
 simp [IntKind.bits,IntKind.signed]
theorem p_u64add {t yt:TypeId} {x y:Operand} {a b:UInt64} (hd:dOk2 s dst=true) (hx:tev s x=.c (.p (.sc (.int .u64 a.toNat)))) (hy:tev s y=.c (.p (.sc (.int .u64 b.toNat)))):PureD P ⟨dst,.binOp .add t x y yt,ty,pos,after,none⟩ s (.c (.p (.sc (.int .u64 (a+b).toNat)))) :=
 p_bin hd hx hy (by simp only [ibin]; rw [← Int.natCast_add,wrap_u64]; congr 4)
theorem p_u64mul {t yt:TypeId} {x y:Operand} {a b:UInt64} (hd:dOk2 s dst=true) (hx:tev s x=.c (.p (.sc (.int .u64 a.toNat)))) (hy:tev s y=.c (.p (.sc (.int .u64 b.toNat)))):PureD P ⟨dst,.binOp .mul t x y yt,ty,pos,after,none⟩ s (.c (.p (.sc (.int .u64 (a * b).toNat)))) :=
 p_bin hd hx hy (by simp only [ibin]; rw [← Int.natCast_mul,wrap_u64]; congr 4)
theorem bits_u64 (a:UInt64):BitVec.ofInt IntKind.u64.bits (a.toNat:Int)=a.toBitVec:=by
 apply BitVec.eq_of_toNat_eq
 rw [BitVec.ofInt_natCast,BitVec.toNat_ofNat]
 exact Nat.mod_eq_of_lt a.toNat_lt
theorem p_u64and {t yt:TypeId} {x y:Operand} {a b:UInt64} (hd:dOk2 s dst=true) (hx:tev s x=.c (.p (.sc (.int .u64 a.toNat)))) (hy:tev s y=.c (.p (.sc (.int .u64 b.toNat)))):PureD P ⟨dst,.binOp .and t x y yt,ty,pos,after,none⟩ s (.c (.p (.sc (.int .u64 (a &&& b).toNat)))):=by
 have e:UInt64.ofNat (a.toBitVec &&& b.toBitVec).toNat=a &&& b:=by rw [← UInt64.toNat_inj]; simp [UInt64.toNat_and]
 exact p_bin hd hx hy (by simp only [ibin,Go.bits]; rw [bits_u64,bits_u64,wrap_u64]; exact congrArg (fun q:UInt64=>some (Value.int .u64 (q.toNat:Int))) e)
end ops
end Go.Proofs.YthnkbagmaljjjaaGreatDoor.VM
