/- Words and rules that the proof uses. -/
import Derived.Test.YtglgdaeimfdpfaaVtCore
namespace Go.Proofs.Ytglgdaeimfdpfaa.VM
open Go Go.RowKit
theorem PureD_same {P:Program} {o:Oper} {s:TS} {v:TV} (h:∀ m h1 n,HM m s.h h1→∀ K,(∀ av,Les av (v.rn m)→K ((can m s h1 n).put o.dst av))→OpW P o K (can m s h1 n)):PureD P o s v:=by
 intro m h1 n hm
 refine OpW_hl fun hl=>h m h1 n hm _ fun av hav=>?_
 exact ⟨h1,n,av,hl,.refl h1,rfl,hav⟩
theorem PureD.les {P:Program} {o:Oper} {s:TS} {v v':TV} (h:PureD P o s v) (hl:TLes v v'):PureD P o s v' :=
 fun m h1 n hm=>(h m h1 n hm).mono fun _ ⟨h2,n2,av,a,b,c,d⟩=>⟨h2,n2,av,a,b,c,d.trans (hl m)⟩
def place (s:TS):TV→Option (List AV×Nat)
 | .c (.ptr b off)=>match s.h.get b with
  | some (.pure cs)=>some (cs,off)
  | _=>none
 | .c (.p (.rptr cs off))=>some (cs,off)
 | _=>none
section ops
variable {P:Program} {s:TS} {dst:Option Tmp} {ty:TypeId} {pos:String} {after:Array Edge}
theorem blk_real {m:Nm} {h1:Heap} {b:Nat} {k:Blk} (hm:HM m s.h h1) (hb:s.h.get b=some k) (hne:k.cells m≠[]):∃ r,m b=some r∧h1 r=some (k.cells m):=by
 rcases hm.blk b k hb with h | ⟨_,h⟩
 ·exact h
 ·exact absurd h hne
theorem place_atp {m:Nm} {h1:Heap} {n:Nat} {p:Operand} {cs:List AV} {off:Nat} (hm:HM m s.h h1) (hx0:isConst p=false) (h:place s (tev s p)=some (cs,off)) (hne:cs≠[]):atp (can m s h1 n) (aev (can m s h1 n) p)=some (cs,off):=by
 rw [aev_eq hx0]
 unfold place at h
 split at h
 ·rename_i b off' he
  rw [he]
  split at h
  ·rename_i cs' hb
   simp only [Option.some.injEq,Prod.mk.injEq] at h
   obtain ⟨rfl,rfl⟩:=h
   obtain ⟨r,hr,hh⟩:=blk_real hm hb hne
   simp only [TV.rn,T1.rn,hr,atp]
   show (h1 r).map _=_
   rw [hh]
   rfl
  ·cases h
 ·rename_i cs' off' he
  rw [he]
  simp only [Option.some.injEq,Prod.mk.injEq] at h
  obtain ⟨rfl,rfl⟩:=h
  rfl
 ·cases h
theorem p_move {x:Operand} {v:TV} (hd:dOk2 s dst=true) (hx:tev s x=v):PureD P ⟨dst,.move x,ty,pos,after,none⟩ s v:=by
 subst hx
 exact PureD_same fun m h1 n hm K hk=>OpW_move (dOk_can hd) (hk _ (aev_les x))
theorem p_asg {x:Operand} {v:TV} (hd:dOk2 s dst=true) (hx:tev s x=v):PureD P ⟨dst,.assign x,ty,pos,after,none⟩ s v:=by
 subst hx
 exact PureD_same fun m h1 n hm K hk=>OpW_assign (dOk_can hd) (hk _ (aev_les x))
theorem p_ext {x:Operand} {i:Nat} {cs:List AV} {c:AV} (hd:dOk2 s dst=true) (hx:tev s x=.c (.p (.tup cs))) (hx0:isConst x=false) (hi:cs[i]?=some c):PureD P ⟨dst,.extract x i,ty,pos,after,none⟩ s (.c (.p c)) :=
 PureD_same fun m h1 n hm K hk=>OpW_extract (by rw [aev_eq hx0,hx]; rfl) hi (dOk_can hd) (hk _ (.same _))
theorem p_bin {op:BinOp} {t yt:TypeId} {x y:Operand} {k:IntKind} {a b:Int} {v:Value} (hd:dOk2 s dst=true) (hx:tev s x=.c (.p (.sc (.int k a)))) (hy:tev s y=.c (.p (.sc (.int k b)))) (hv:ibin op k a b=some v):PureD P ⟨dst,.binOp op t x y yt,ty,pos,after,none⟩ s (.c (.p (.sc v))) :=
 PureD_same fun m h1 n hm K hk=>OpW_ibin (aev_sc hx) (aev_sc hy) hv (dOk_can hd) (hk _ (.same _))
theorem p_pick {c x y:Operand} {b:Bool} {v:TV} (hd:dOk2 s dst=true) (hc:tev s c=.c (.p (.sc (.bool b)))) (hv:(if b then tev s x else tev s y)=v):PureD P ⟨dst,.pick c x y,ty,pos,after,none⟩ s v:=by
 subst hv
 refine PureD_same fun m h1 n hm K hk=>OpW_pick (aev_sc hc) (dOk_can hd) (hk _ ?_)
 cases b with
 | true=>exact aev_les x
 | false=>exact aev_les y
def lenT:TV→Option Nat
 | .c (.p (.lst _ n))=>some n
 | .c (.own _ n _)=>some n
 | .c (.sl _ _ n _)=>some n
 | _=>none
theorem p_len {x:Operand} {t e:TypeId} {n:Nat} (hd:dOk2 s dst=true) (hx0:isConst x=false) (ht:P.underlying t=some (.slice e)) (hx:lenT (tev s x)=some n) (hok:∀ b z,tev s x=.c (.own b n z)→∃ cs,s.h.get b=some (.pure cs)∧cs.length=n * z∧0 < z) (hok2:∀ b o z,tev s x=.c (.sl b o n z)→∃ k,s.h.get b=some (.pure k)∧k≠[]) :
  PureD P ⟨dst,.call { callee:=.builtin .len,args:=#[x],argTypes:=#[t] },ty,pos,after,none⟩ s (.c (.p (.sc (.int .i64 n)))):=by
 refine PureD_same fun m h1 n' hm K hk=>OpW_len ht ?_ (dOk_can hd) (hk _ (.same _))
 rw [aev_eq hx0]
 unfold lenT at hx
 split at hx
 ·rename_i he; rw [he]; cases hx; rfl
 ·rename_i b n0 z he
  cases hx
  rw [he]
  obtain ⟨cs,h2,h3,h4⟩:=hok b z he
  simp only [TV.rn,T1.rn]
  rcases hm.blk b _ h2 with ⟨r,hr,_⟩ | ⟨hr,hc⟩
  ·rw [hr]; rfl
  ·rw [hr]
   simp only [Blk.cells] at hc
   subst hc
   have:n=0:=by
    rcases Nat.eq_zero_or_pos n with h0 | h0
    ·exact h0
    ·have:=Nat.mul_pos h0 h4
     simp at h3
     omega
   subst this
   rfl
 ·rename_i b o n0 z he
  cases hx
  rw [he]
  obtain ⟨k,h2,h3⟩:=hok2 b o z he
  obtain ⟨r,hr,_⟩:=blk_real hm h2 (by simpa [Blk.cells] using h3)
  simp only [TV.rn,T1.rn,hr]
  rfl
 ·cases hx
theorem p_lenl {x:Operand} {t e:TypeId} {n:Nat} {cs:List AV} (hd:dOk2 s dst=true) (ht:P.underlying t=some (.slice e)) (hx0:isConst x=false) (hx:tev s x=.c (.p (.lst cs n))) :
  PureD P ⟨dst,.call { callee:=.builtin .len,args:=#[x],argTypes:=#[t] },ty,pos,after,none⟩ s (.c (.p (.sc (.int .i64 n)))) :=
 p_len hd hx0 ht (by rw [hx]; rfl) (fun b z h=>by rw [hx] at h; cases h) (fun b o z h=>by rw [hx] at h; cases h)
theorem p_ld {t:TypeId} {p:Operand} {cs:List AV} {off:Nat} {c:AV} {d:TypeDesc} (hd:dOk2 s dst=true) (hx0:isConst p=false) (ht:P.underlying t=some d) (hag:isAggD d=false) (hp:place s (tev s p)=some (cs,off)) (hc:cs[off]?=some c):PureD P ⟨dst,.load t p,ty,pos,after,none⟩ s (.c (.p c)) :=
 PureD_same fun m h1 n hm K hk=>OpW_load (place_atp hm hx0 hp (by rintro rfl; simp at hc)) ht hag hc (dOk_can hd) (hk _ (.same _))
theorem p_ldm {t:TypeId} {p:Operand} {b off:Nat} {cs:List T1} {c:T1} {d:TypeDesc} (hd:dOk2 s dst=true) (hx0:isConst p=false) (ht:P.underlying t=some d) (hag:isAggD d=false) (hp:tev s p=.c (.ptr b off)) (hb:s.h.get b=some (.mix cs)) (hc:cs[off]?=some c):PureD P ⟨dst,.load t p,ty,pos,after,none⟩ s (.c c):=by
 refine PureD_same fun m h1 n hm K hk=>OpW_load (cs:=cs.map (T1.rn m)) (off:=off) (c:=c.rn m) ?_ ht hag (by rw [List.getElem?_map,hc]; rfl) (dOk_can hd) (hk _ (.same _))
 obtain ⟨r,hr,hh⟩:=blk_real hm hb (by simp only [Blk.cells]; intro h; rw [List.map_eq_nil_iff] at h; rw [h] at hc; simp at hc)
 rw [aev_eq hx0,hp]
 simp only [TV.rn,T1.rn,hr,atp]
 show (h1 r).map _=_
 rw [hh]
 rfl
theorem p_lda {t:TypeId} {p:Operand} {cs sub:List AV} {off z:Nat} {d:TypeDesc} (hd:dOk2 s dst=true) (hx0:isConst p=false) (ht:P.underlying t=some d) (hag:isAggD d=true) (hz:(P.info? t).map (·.size)=some z) (hp:place s (tev s p)=some (cs,off)) (hb:off+z≤cs.length) (h0:0 < z) (hs:(cs.drop off).take z=sub):PureD P ⟨dst,.load t p,ty,pos,after,none⟩ s (.c (.p (.agg sub))):=by
 subst hs
 exact PureD_same fun m h1 n hm K hk=>OpW_load_agg (place_atp hm hx0 hp (by rintro rfl; simp at hb; omega)) ht hag hz hb (dOk_can hd) (hk _ (.same _))
theorem p_ldam {t:TypeId} {p:Operand} {b off z:Nat} {cs sub:List T1} {d:TypeDesc} (hd:dOk2 s dst=true) (hx0:isConst p=false) (ht:P.underlying t=some d) (hag:isAggD d=true) (hz:(P.info? t).map (·.size)=some z) (hp:tev s p=.c (.ptr b off)) (hb:s.h.get b=some (.mix cs)) (hl:off+z≤cs.length) (h0:0 < z) (hs:(cs.drop off).take z=sub):PureD P ⟨dst,.load t p,ty,pos,after,none⟩ s (.agg sub):=by
 subst hs
 refine PureD_same fun m h1 n hm K hk=>OpW_load_agg (cs:=cs.map (T1.rn m)) (off:=off) ?_ ht hag hz (by simpa using hl) (dOk_can hd) (hk _ ?_)
 ·obtain ⟨r,hr,hh⟩:=blk_real hm hb (by simp only [Blk.cells]; intro h; rw [List.map_eq_nil_iff] at h; rw [h] at hl; simp at hl; omega)
  rw [aev_eq hx0,hp]
  simp only [TV.rn,T1.rn,hr,atp]
  show (h1 r).map _=_
  rw [hh]
  rfl
 ·simp only [TV.rn,List.map_take,List.map_drop]
  exact .same _
theorem p_fa {t:TypeId} {p:Operand} {f:Nat} {b off:Nat} {k:Blk} {fs:Array Field} {fd:Field} {z:Nat} (hd:dOk2 s dst=true) (hx0:isConst p=false) (ht:P.underlying t=some (.struct fs)) (hf:fs[f]?=some fd) (hz:(P.info? fd.type).map (·.size)=some z) (hz0:z≠0) (hp:tev s p=.c (.ptr b off)) (hb:s.h.get b=some k) (hne:∀ m,k.cells m≠[]):PureD P ⟨dst,.fieldAddr t p f,ty,pos,after,none⟩ s (.c (.ptr b (off+fd.offset))):=by
 refine PureD_same fun m h1 n hm K hk=>?_
 obtain ⟨r,hr,hh⟩:=blk_real hm hb (hne m)
 refine OpW_fieldAddr (b:=r) (off:=off) (by rw [aev_eq hx0,hp]; simp only [TV.rn,T1.rn,hr]) ht hf hz hz0 (dOk_can hd) (hk _ ?_)
 simp only [TV.rn,T1.rn,hr]
 exact .same _
theorem p_ixl {t e:TypeId} {x y:Operand} {cs:List AV} {n z:Nat} {k:IntKind} {i:Int} {j:Nat} (hd:dOk2 s dst=true) (hx0:isConst x=false) (ht:P.underlying t=some (.slice e)) (hz:(P.info? e).map (·.size)=some z) (hx:tev s x=.c (.p (.lst cs n))) (hy:tev s y=.c (.p (.sc (.int k i)))) (hi:i=(j:Int)) (hj:j < n) (hne:cs≠[]):PureD P ⟨dst,.indexAddr t x y,ty,pos,after,none⟩ s (.c (.p (.rptr cs (j * z)))) :=
 PureD_same fun m h1 n hm K hk=>OpW_indexAddr_l (by rw [aev_eq hx0,hx]; rfl) (aev_sc hy) hi hj ht hz hne (dOk_can hd) (hk _ (.same _))
theorem own_cont {m:Nm} {h1:Heap} {n':Nat} {b n z:Nat} {cs:List AV} (hm:HM m s.h h1) (hb:s.h.get b=some (.pure cs)) (hl:cs.length=n * z) (hz:0 < z):Row h1 (T1.rn m (.own b n z)) cs n z:=by
 refine ⟨hl,?_⟩
 rcases hm.blk b _ hb with ⟨r,hr,hh⟩ | ⟨hr,hc⟩
 ·right
  exact ⟨r,by simp only [T1.rn,hr],hh⟩
 ·left
  simp only [Blk.cells] at hc
  subst hc
  have:n=0:=by
   rcases Nat.eq_zero_or_pos n with h0 | h0
   ·exact h0
   ·have:=Nat.mul_pos h0 hz
    simp at hl
    omega
  exact ⟨by simp only [T1.rn,hr],this⟩
end ops
end Go.Proofs.Ytglgdaeimfdpfaa.VM
