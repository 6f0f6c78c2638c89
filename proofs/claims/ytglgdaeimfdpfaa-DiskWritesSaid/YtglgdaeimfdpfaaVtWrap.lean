/- Words and rules that the proof uses. -/
import Derived.Test.YtglgdaeimfdpfaaVtLib
namespace Go.Proofs.Ytglgdaeimfdpfaa.VM
open Go Go.RowKit
theorem Info.sz {P:Program} {e:TypeId} {z by':Nat} {zv:Value} (h:Info P e z by' zv):(P.info? e).map (·.size)=some z:=by
 obtain ⟨i,hi,hs,_,_⟩:=h.get
 rw [hi]; exact congrArg some hs
theorem Info.zr {P:Program} {e:TypeId} {z by':Nat} {zv:Value} (h:Info P e z by' zv):(P.info? e).map (·.zero)=some (some zv):=by
 obtain ⟨i,hi,_,_,hz⟩:=h.get
 rw [hi]; exact congrArg some hz
abbrev room (n k:Nat):Prop:=n * k≤140737488355328
theorem room_max {n k:Nat} (h:room n k) (hk:1≤k):n≤9223372036854775807:=by
 have:n * 1≤n * k:=Nat.mul_le_mul_left _ hk
 unfold room at h
 omega
theorem fne {α:Type} {f:α→List AV} {z:Nat} (hz:∀ x,(f x).length=z) (h0:0 < z) {l:List α} {j:Nat} (h:j < l.length):l.flatMap f≠[]:=by
 intro e
 have:=fm_length hz l
 rw [e] at this
 simp only [List.length_nil] at this
 have h2:0 < l.length * z:=Nat.mul_pos (by omega) h0
 omega
theorem fapp {α:Type} (f:α→List AV) (a b:List α):a.flatMap f++b.flatMap f=(a++b).flatMap f:=by simp
theorem lapp {α:Type} (a b:List α):a.length+b.length=(a++b).length:=by simp
theorem TLes.own {b n n' z:Nat} (h:n=n'):TLes (.c (.own b n z)) (.c (.own b n' z)):=by subst h; exact .same _
section ops
variable {P:Program} {s:TS} {dst:Option Tmp} {ty:TypeId} {pos:String} {after:Array Edge}
theorem u_ld {t:TypeId} {p:Operand} {cs:List AV} {off:Nat} {c:AV} {d:TypeDesc} (hd:dOk2 s dst=true) (hx0:isConst p=false) (ht:P.underlying t=some d) (hag:isAggD d=false) (hp:place s (tev s p)=some (cs,off)) (S:Sub cs off [c]):PureD P ⟨dst,.load t p,ty,pos,after,none⟩ s (.c (.p c)):=p_ld hd hx0 ht hag hp S.one
theorem u_lda {t:TypeId} {p:Operand} {cs sub:List AV} {off z by':Nat} {d:TypeDesc} {zv:Value} (hd:dOk2 s dst=true) (hx0:isConst p=false) (ht:P.underlying t=some d) (hag:isAggD d=true) (hI:Info P t z by' zv) (hp:place s (tev s p)=some (cs,off)) (h0:0 < z) (S:Sub cs off sub) (hl:sub.length=z):PureD P ⟨dst,.load t p,ty,pos,after,none⟩ s (.c (.p (.agg sub))) :=
 p_lda hd hx0 ht hag hI.sz hp (S.le hl) h0 (S.take hl)
theorem u_st {t:TypeId} {p x:Operand} {b off z by':Nat} {o xs o':List AV} {zv:Value} (hx0:isConst p=false) (hd:dOk2 s dst=true) (hp:tev s p=.c (.ptr b off)) (hb:s.h.get b=some (.pure o)) (hx:pcells (tev s x)=some xs) (hI:Info P t z by' zv) (hl:xs.length=z) (h0:o≠[]) (U:Upd o off xs o') :
  OpD P ⟨dst,.store t p x,ty,pos,after,none⟩ s ((s.wr b (.pure o')).put dst (.c (.p (.tup [])))):=d_st hx0 hd hp hb hx (by rw [hl]; exact hI.sz) U.1 h0 U.2
theorem u_fa {t:TypeId} {p:Operand} {f:Nat} {b off by':Nat} {o:List AV} {fs:Array Field} {fd:Field} {z:Nat} {zv:Value} (hd:dOk2 s dst=true) (hx0:isConst p=false) (ht:P.underlying t=some (.struct fs)) (hf:fs[f]?=some fd) (hI:Info P fd.type z by' zv) (hz0:z≠0) (hp:tev s p=.c (.ptr b off)) (hb:s.h.get b=some (.pure o)) (hne:o≠[]):PureD P ⟨dst,.fieldAddr t p f,ty,pos,after,none⟩ s (.c (.ptr b (off+fd.offset))) :=
 p_fa hd hx0 ht hf hI.sz hz0 hp hb (fun _=>hne)
theorem u_ixl {t e:TypeId} {x y:Operand} {cs:List AV} {n z by':Nat} {zv:Value} {k:IntKind} {i:Int} {j:Nat} (hd:dOk2 s dst=true) (hx0:isConst x=false) (ht:P.underlying t=some (.slice e)) (hI:Info P e z by' zv) (hx:tev s x=.c (.p (.lst cs n))) (hy:tev s y=.c (.p (.sc (.int k i)))) (hi:i=(j:Int)) (hj:j < n) (hne:cs≠[]):PureD P ⟨dst,.indexAddr t x y,ty,pos,after,none⟩ s (.c (.p (.rptr cs (j * z)))) :=
 p_ixl hd hx0 ht hI.sz hx hy hi hj hne
theorem u_alloc {e:TypeId} {z by':Nat} {zv:Value} {d:Nat} {cs:List AV} (b:Nat) (hd:dOk2 s (some d)=true) (hI:Info P e z by' zv) (h1:zv.cells.all (·.oneCell')=true) (hcs:zv.cells.toList.map zcell=cs) :
  MakeD P ⟨some d,.alloc e,ty,pos,after,none⟩ s (.c (.ptr b 0)) b cs:=n_alloc b hd hI.zr h1 hcs
theorem af_cons {place:Nat→Option (Nat×Nat)} {cells cells' xs cs:List AV} {i off z:Nat} {ps:List (Nat×List AV)} (hp:place i=some (off,z)) (hl:xs.length=z) (U:Upd cells off xs cells') (h:afill place cells' ps=some cs):afill place cells ((i,xs)::ps)=some cs:=by
 simp only [afill,hp]
 rw [if_pos ⟨hl,U.1⟩,U.2]
 exact h
theorem u_bld {t:TypeId} {parts:Array (Nat×Operand)} {z by':Nat} {zv:Value} {pl:List (Nat×Nat)} {ps:List (Nat×List AV)} {zs cs:List AV} (hd:dOk2 s dst=true) (hI:Info P t z by' zv) (h1:zv.cells.all (·.oneCell')=true) (hzs:zv.cells.toList.map zcell=zs)
  (hpl:placesOf P t=some pl) (hp:tparts s parts.toList=some ps) (hf:afill (fun i=>pl[i]?) zs ps=some cs):PureD P ⟨dst,.build t parts,ty,pos,after,none⟩ s (.c (.p (.agg cs))):=by
 subst hzs
 obtain ⟨i,hi,_,_,hz⟩:=hI.get
 exact p_bld hd hi hz h1 hpl hp hf
theorem u_bs {t e:TypeId} {len z d:Nat} {parts:Array (Nat×Operand)} {by':Nat} {zv:Value} {ps:List (Nat×List AV)} {zs cs:List AV} (b:Nat) (hd:dOk2 s (some d)=true) (hu:P.underlying t=some (.slice e)) (hI:Info P e z by' zv)
  (hzc:zv.cells.size=z) (h1:zv.cells.all (·.oneCell')=true) (hpos:len * z≠0) (hsmall:len * z≤16777216) (hzs:zv.cells.toList.map zcell=zs) (hp:tparts s parts.toList=some ps) (hf:afill (fun i=>some (i * z,z)) (azeros len zs) ps=some cs) :
  MakeD P ⟨some d,.buildSlice t len parts,ty,pos,after,none⟩ s (.c (.own b len z)) b cs:=by
 subst hzs
 exact n_bs b hd hu hI hzc h1 hpos hsmall hp hf
theorem srcT_o {y:Operand} {b n z:Nat} {cs:List AV} (h:tev s y=.c (.own b n z)) (hb:s.h.get b=some (.pure cs)) (hl:cs.length=n * z) (hz:0 < z):srcT s (tev s y)=some (cs,n):=by
 rw [h]
 simp only [srcT,hb]
 exact if_pos ⟨hl,hz⟩
theorem u_app {x y:Operand} {t tx e e':TypeId} {by':Nat} {zv:Value} {b n z k d n':Nat} {cs ys cs':List AV} (ds:List Nat) (hb2:Nat.blt b 2000=true) (hd:dOk2 s (some d)=true) (hx0:isConst x=false) (hy0:isConst y=false) (ht:P.underlying t=some (.slice e)) (htx:P.underlying tx=some (.slice e')) (hI:Info P e z by' zv) (hzc:zv.cells.size=z)
  (hx:tev s x=.c (.own b n z)) (hb:s.h.get b=some (.pure cs)) (hcl:cs.length=n * z) (hz0:0 < z) (hy:srcT s (tev s y)=some (ys,k)) (hyl:ys.length=k * z) (hroom:room (n+k) by') (hby:1≤by')
  (hl:lno b (ldel (ds.foldl ldel s.l) d)=true) (hh:hno b (s.h.del b)=true) (hcs:cs++ys=cs') (hn:n+k=n') :
  OpD P ⟨some d,.call { callee:=.builtin .append,args:=#[x,y],argTypes:=#[t,tx] },ty,pos,after,none⟩ s ((TS.mk (ds.foldl ldel s.l) (s.h.set b (.pure cs')) s.sz).put (some d) (.c (.own b n' z))):=by
 subst hn
 exact d_app ds hb2 hd hx0 hy0 ht htx hI hzc hx hb hcl hz0 hy hyl hroom (room_max hroom hby) hl hh hcs
end ops
end Go.Proofs.Ytglgdaeimfdpfaa.VM
