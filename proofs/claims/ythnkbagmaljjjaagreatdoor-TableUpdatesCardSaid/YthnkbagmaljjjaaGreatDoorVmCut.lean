/- Words and rules that the proof uses. -/
import Derived.Test.YthnkbagmaljjjaaGreatDoorVmMake
namespace Go.Proofs.YthnkbagmaljjjaaGreatDoor.VM
open Go Go.RowKit
def strB (bs:List UInt8):ByteArray:=⟨bs.toArray⟩
def bnd (s:AS) (o:Option Operand) (d v:Nat):Prop:=match o with
 | none=>v=d
 | some x=>∃ k,aev s x=.sc (.int k v)
theorem run_bounds {P:Program} {Z:Nat→Prop} {s:AS} {a:Act} {w:World} (r:SR Z s a w) {lo hi mx:Option Operand} {l h n c m:Nat} (isS:Bool) (hl:bnd s lo 0 l) (hh:bnd s hi n h) (hm:bnd s mx c m) (hmh:mx.isSome=true→hi.isSome=true) (h1:l≤h) (h2:h≤m) (h3:m≤c) :
  (Instr.sliceBounds isS n c (lo.map a.eval) (hi.map a.eval) (mx.map a.eval)).run P w=.ok (l,h,m) w:=by
 have ev:∀ (x:Operand) (k:IntKind) (v:Nat),aev s x=.sc (.int k v)→a.eval x=.int k v:=by
  intro x k v hx
  have:=aev_rel r x
  rw [hx] at this
  exact this.sc_inv
 have sb:∀ (k:IntKind) (v y:Nat) (code:BoundsCode),v≤y→(Instr.sliceBound (.int k v) y code).run P w=.ok v w:=by
  intro k v y code hv
  have:=run_sliceBound (P:=P) w k (v:Int) y code (by omega) (by omega)
  simpa using this
 cases lo<;>cases hi<;>cases mx<;>simp only [bnd] at hl hh hm<;>(try (simp at hmh; done))
 case none.none.none=>subst hl; subst hh; subst hm; simp [Instr.sliceBounds]
 case none.some.none y =>
  obtain ⟨k,hy⟩:=hh
  subst hl; subst hm
  simp [Instr.sliceBounds,ev _ _ _ hy,sb k h _ _ h2]
 case none.some.some y z =>
  obtain ⟨k,hy⟩:=hh
  obtain ⟨k',hz⟩:=hm
  subst hl
  simp [Instr.sliceBounds,ev _ _ _ hy,ev _ _ _ hz,sb k h _ _ h2,sb k' m _ _ h3]
 case some.none.none x =>
  obtain ⟨k,hx⟩:=hl
  subst hh; subst hm
  simp [Instr.sliceBounds,ev _ _ _ hx,sb k l _ _ h1]
 case some.some.none x y =>
  obtain ⟨k,hx⟩:=hl
  obtain ⟨k',hy⟩:=hh
  subst hm
  simp [Instr.sliceBounds,ev _ _ _ hx,ev _ _ _ hy,sb k l _ _ h1,sb k' h _ _ h2]
 case some.some.some x y z =>
  obtain ⟨k,hx⟩:=hl
  obtain ⟨k',hy⟩:=hh
  obtain ⟨k'',hz⟩:=hm
  simp [Instr.sliceBounds,ev _ _ _ hx,ev _ _ _ hy,ev _ _ _ hz,sb k l _ _ h1,sb k' h _ _ h2,sb k'' m _ _ h3]
theorem cut_lst {Z:Nat→Prop} {w:World} {cs:List AV} {A:Option Addr} {n c l h m z:Nat} (r:Rel Z w (.lst cs n) (.slice A n c)) (h1:l≤h) (h2:h≤m) (hn:h≤n) :
  Rel Z w (.lst ((cs.drop (l * z)).take ((h - l) * z)) (h - l)) (.slice (if m=l then A else A.map (·.add (l * z))) (h - l) (m - l)):=by
 by_cases he:((cs.drop (l * z)).take ((h - l) * z))=[]
 ·rw [he]
  refine .lnil _ _ _ (by omega) (fun hA=>?_)
  cases r with
  | lnil _ _ _ hc hA' =>
   have hnone:A=none:=by
    split at hA
    ·exact hA
    ·simpa using hA
   have:=hA' hnone
   omega
  | lst _ _ _ b off f hc hz hs hr =>
   split at hA<;>simp at hA
 ·cases r with
  | lnil=>simp at he
  | lst _ _ _ b off f hc hz hs hr =>
   have hlh:l < h:=by
    rcases Nat.lt_or_ge l h with hx | hx
    ·exact hx
    ·exact absurd (by rw [show h - l=0 by omega,Nat.zero_mul,List.take_zero]) he
   rw [if_neg (by omega)]
   simp only [Option.map_some,add_none]
   have hget:∀ (i:Nat) (a:AV),((cs.drop (l * z)).take ((h - l) * z))[i]?=some a→cs[l * z+i]?=some a:=by
    intro i a ha
    rw [List.getElem?_take] at ha
    split at ha
    ·rwa [List.getElem?_drop] at ha
    ·cases ha
   exact .lst _ _ _ b (off+l * z) (fun i=>f (l * z+i)) (by omega) hz (fun i a ha=>by rw [Nat.add_assoc]; exact hs _ a (hget i a ha)) (fun i a ha=>hr _ a (hget i a ha))
section ops
variable {P:Program} {K:AS→Prop} {s:AS} {dst:Option Tmp} {ty:TypeId} {pos:String} {after:Array Edge} {t e:TypeId} {x:Operand} {lo hi mx:Option Operand} {l h n m z:Nat}
theorem OpW_cut_l {cs:List AV} (hx:aev s x=.lst cs n) (ht:P.underlying t=some (.slice e)) (hz:(P.info? e).map (·.size)=some z) (hl:bnd s lo 0 l) (hh:bnd s hi n h) (hm:mx=none∨(bnd s mx n m∧h≤m∧m≤n∧hi.isSome=true)) (h1:l≤h) (h2:h≤n) (hd:dOk s dst=true)
  (hk:K (s.put dst (.lst ((cs.drop (l * z)).take ((h - l) * z)) (h - l)))):OpW P ⟨dst,.slice t x lo hi mx,ty,pos,after,none⟩ K s:=by
 refine OpW_same hd (fun Z a w r=>?_) hk
 have hv:=aev_rel r x
 rw [hx] at hv
 obtain ⟨A,c,hxe,hnc⟩:=hv.lst_inv
 rw [hxe] at hv
 obtain ⟨m',hmb,hhm,hmc,hmh⟩:∃ m',bnd s mx c m'∧h≤m'∧m'≤c∧(mx.isSome=true→hi.isSome=true):=by
  rcases hm with rfl | ⟨hm1,hm2,hm3,hm4⟩
  ·exact ⟨c,rfl,by omega,Nat.le_refl _,fun hc=>by simp at hc⟩
  ·cases mx with
   | none=>exact ⟨c,rfl,by omega,Nat.le_refl _,fun hc=>by simp at hc⟩
   | some y=>exact ⟨m,hm1,hm2,by omega,fun _=>hm4⟩
 have hb:=run_bounds (P:=P) r true hl hh hmb hmh h1 hhm hmc
 refine ⟨_,?_,cut_lst (m:=m') (z:=z) hv h1 hhm h2⟩
 simp only [execOp,Instr.sliceAt,hxe]
 simp [run_underlying ht,Instr.slice,hb,info_run hz]
theorem OpW_cut_a {b off:Nat} {o:List AV} (hx:aev s x=.ptr b off) (ho:s.h b=some o) (hol:off+n * z≤o.length) (ht:P.underlying t=some (.array n e)) (hz:(P.info? e).map (·.size)=some z) (hl:bnd s lo 0 l) (hh:bnd s hi n h) (hm:mx=none) (h1:l≤h) (h2:h≤n) (h0:l=0∨l < h) (hd:dOk s dst=true)
  (hk:K (s.put dst (.sl b (off+l * z) (h - l) z))):OpW P ⟨dst,.slice t x lo hi mx,ty,pos,after,none⟩ K s:=by
 refine OpW_same hd (fun Z a w r=>?_) hk
 subst hm
 have hv:=aev_rel r x
 rw [hx] at hv
 obtain ⟨e1,m1,hs1,hxe⟩:=hv.ptr_inv
 obtain ⟨arr,e0,lo0,hi0,hh0,hl0,_,_⟩:=(r.gd.hb b o ho).cells hs1
 have hb:=run_bounds (P:=P) (c:=n) (mx:=none) r false hl hh rfl (fun hc=>by simp at hc) h1 h2 (Nat.le_refl _)
 simp only [Option.map_none] at hb
 refine ⟨.slice (some ⟨b,off+l * z,none⟩) (h - l) (n - l),?_,.sl b (off+l * z) (h - l) z (n - l) e0 arr.size (by omega) (by simp [World.shape?,hh0]) ?_⟩
 ·simp only [execOp,Instr.sliceAt,hxe,Instr.sureAddr]
  simp [run_underlying ht,hb,info_run hz]
  by_cases hcl:n=l
  ·have:l=0:=by omega
   subst this
   simp [hcl]
  ·rw [if_neg hcl,add_none]
 ·have:l * z+(n - l) * z=n * z:=by rw [← Nat.add_mul]; congr 1; omega
  omega
end ops
end Go.Proofs.YthnkbagmaljjjaaGreatDoor.VM
