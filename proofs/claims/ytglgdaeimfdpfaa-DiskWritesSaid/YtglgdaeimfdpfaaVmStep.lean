/- Words and rules that the proof uses. -/
import Derived.Test.YtglgdaeimfdpfaaVmCall
namespace Go.Proofs.Ytglgdaeimfdpfaa.VM
open Go Go.RowKit
theorem AW_cond {P:Program} {x y:Code} {c:Operand} {Q:Go.Exit→AS→Prop} {s:AS} {b:Bool} (hc:aev s c=.sc (.bool b)) (h1:b=true→AW P x Q s) (h2:b=false→AW P y Q s):AW P (.cond c x y) Q s:=by
 intro Z a w r
 have hv:=aev_rel r c
 rw [hc] at hv
 cases b with
 | true=>exact wp_cond hv.sc_inv (by simpa using h1 rfl Z a w r)
 | false=>exact wp_cond hv.sc_inv (by simpa using h2 rfl Z a w r)
def blk:AV→Option Nat
 | .sl b _ _ _=>some b
 | .ptr b _=>some b
 | _=>none
def Row (h:Heap) (v:AV) (cs:List AV) (n z:Nat):Prop :=
 cs.length=n * z∧(v=.nil∧n=0∨∃ b,v=.sl b 0 n z∧h b=some cs)
theorem Row.nil (h:Heap) (z:Nat):Row h .nil [] 0 z:=⟨by simp,.inl ⟨rfl,rfl⟩⟩
theorem Row.lent {h:Heap} {v:AV} {cs:List AV} {n z:Nat} (r:Row h v cs n z):Lent h v (.lst cs n):=by
 obtain ⟨hl,⟨rfl,rfl⟩ | ⟨b,rfl,hb⟩⟩:=r
 ·have:cs=[]:=List.eq_nil_of_length_eq_zero (by omega)
  rw [this]
  exact .nil
 ·have:=Lent.sl (h:=h) b 0 n z cs hb (by omega)
  rwa [List.drop_zero,← hl,List.take_length] at this
theorem Row.cont {s:AS} {v:AV} {cs:List AV} {n z:Nat} (r:Row s.h v cs n z):acont s v=some (cs,n):=by
 obtain ⟨hl,⟨rfl,rfl⟩ | ⟨b,rfl,hb⟩⟩:=r
 ·have:cs=[]:=List.eq_nil_of_length_eq_zero (by omega)
  rw [this]; rfl
 ·simp only [acont,hb]
  rw [if_pos (by omega),List.drop_zero,← hl,List.take_length]
section ops
variable {P:Program} {K:AS→Prop} {s:AS} {dst:Option Tmp} {ty:TypeId} {pos:String} {after:Array Edge}
theorem OpW_hl {o:Oper} (h:(∀ b o,s.h b=some o→b < s.n)→OpW P o K s):OpW P o K s :=
 fun Z a w r=>h r.hl Z a w r
theorem OpW_app {x y:Operand} {t tx e:TypeId} {i:TypeInfo} {zv:Value} {n z m:Nat} {cs ys:List AV} (hx:Row s.h (aev s x) cs n z) (hy:asrc s (aev s y)=some (ys,m)) (hyl:ys.length=m * z)
  (hk2:(∃ e',P.underlying tx=some (.slice e')∧acont s (aev s y)=some (ys,m))∨(P.underlying tx=some .string∧z=1∧∃ b,aev s y=.sc (.string b)))
  (ht:P.underlying t=some (.slice e)) (hi:P.info? e=some i) (hz:i.zero=some zv) (hsz:i.size=z) (hzc:zv.cells.size=z) (hroom:(n+m) * i.bytes≤140737488355328) (hmax:n+m≤9223372036854775807) (hd:dOk s dst=true)
  (hk:∀ v' h' n',Row h' v' (cs++ys) (n+m) z→(∀ b o,h' b=some o→b < n')→(∀ b,s.h b≠none→blk (aev s x)≠some b→h' b=s.h b∧blk v'≠some b)→K ((AS.mk s.t h' n' s.sz).put dst v')) :
  OpW P ⟨dst,.call { callee:=.builtin .append,args:=#[x,y],argTypes:=#[t,tx] },ty,pos,after,none⟩ K s:=by
 refine OpW_hl fun hl=>?_
 obtain ⟨hcl,⟨hv,rfl⟩ | ⟨b,hv,hb⟩⟩:=hx
 ·have hcs:cs=[]:=List.eq_nil_of_length_eq_zero (by omega)
  subst hcs
  rcases Nat.eq_zero_or_pos m with rfl | hm
  ·have hys:ys=[]:=List.eq_nil_of_length_eq_zero (by omega)
   subst hys
   refine OpW_append_nil0 hv hy hyl hk2 ht hi hsz hd ?_
   have:=hk .nil s.h s.n (by simpa using Row.nil s.h z) hl (fun b _ _=>⟨rfl,by simp [blk]⟩)
   exact this
  ·refine OpW_append_nil hv hy hyl hm hk2 ht hi hz hsz hzc (by simpa using hroom) (by omega) hd (fun b hb=>?_)
   refine hk (.sl b 0 m z) _ (b+1) ⟨by simpa using hyl,.inr ⟨b,by simp,by rw [Heap.set_eq]; simp⟩⟩ (fun k o hk=>?_) (fun k hk1 _=>?_)
   ·by_cases hkb:k=b
    ·omega
    ·rw [Heap.set_ne _ _ _ _ hkb] at hk
     have:=hl k o hk
     omega
   ·have hkb:k≠b:=by
     rintro rfl
     rcases Option.eq_none_or_eq_some (s.h k) with e | ⟨o,e⟩
     ·exact hk1 e
     ·have:=hl k o e
      omega
    refine ⟨Heap.set_ne _ _ _ _ hkb,?_⟩
    simp only [blk,ne_eq,Option.some.injEq]
    exact fun e=>hkb e.symm
 ·refine OpW_append hv hb hcl hy hyl hk2 ht hi hz hsz hzc hroom hmax hd (fun b' n' hbb hlt hn=>?_)
  refine hk (.sl b' 0 (n+m) z) _ n' ⟨by rw [List.length_append,hcl,hyl,Nat.add_mul],.inr ⟨b',rfl,by rw [Heap.set_eq]⟩⟩ (fun k o hk=>?_) (fun k hk1 hk3=>?_)
  ·by_cases hkb:k=b'
   ·omega
   ·rw [Heap.set_ne _ _ _ _ hkb] at hk
    by_cases hkb2:k=b
    ·rw [hkb2,Heap.set_eq] at hk; cases hk
    ·rw [Heap.set_ne _ _ _ _ hkb2] at hk
     have:=hl k o hk
     omega
  ·have hkb:k≠b:=by
    rintro rfl
    exact hk3 (by rw [hv]; rfl)
   have hkb':k≠b':=by
    rintro rfl
    rcases hbb with h1 | h1
    ·exact hkb h1
    ·rcases Option.eq_none_or_eq_some (s.h k) with e | ⟨o,e⟩
     ·exact hk1 e
     ·have:=hl k o e
      omega
   refine ⟨by rw [Heap.set_ne _ _ _ _ hkb',Heap.set_ne _ _ _ _ hkb],?_⟩
   simp only [blk,ne_eq,Option.some.injEq]
   exact fun e=>hkb' e.symm
end ops
end Go.Proofs.Ytglgdaeimfdpfaa.VM
