/- Words and rules that the proof uses. -/
import Derived.Test.YthnkbagmaljjjaaGreatDoorVtDrawU
namespace Go.Proofs.YthnkbagmaljjjaaGreatDoor.VM
open Go Go.RowKit
section
variable {P:Program} {s:TS} {dst:Option Tmp} {ty:TypeId} {pos:String} {after:Array Edge}
end
theorem toNat_le {i:Int} {N:Nat} (h:0≤i∧i≤(N:Int)):i.toNat≤N:=by omega
section
variable {P:Program} {s:TS} {dst:Option Tmp} {ty:TypeId} {pos:String} {after:Array Edge}
theorem u_cutah {t e:TypeId} {x:Operand} {hi:Option Operand} {b off n h z by':Nat} {zv:Value} {o sub:List AV} (hd:dOk2 s dst=true) (hx0:isConst x=false) (ht:P.underlying t=some (.array n e)) (hI:Info P e z by' zv) (hx:tev s x=.c (.ptr b off)) (hb:s.h.get b=some (.pure o)) (hne:o≠[]) (S:Sub o off sub) (hl:sub.length=n * z) (hh:bndT s hi n h) (h2:h≤n) :
  PureD P ⟨dst,.slice t x none hi none,ty,pos,after,none⟩ s (.c (.sl b (off+0 * z) h z)) :=
 p_cuta (l:=0) (h:=h) hd hx0 ht hI.sz hx hb hne (S.le hl) rfl hh (Nat.zero_le _) h2 (.inl rfl)
theorem u_lens {x:Operand} {t e:TypeId} {b off n z:Nat} {o:List AV} (hd:dOk2 s dst=true) (ht:P.underlying t=some (.slice e)) (hx0:isConst x=false) (hx:tev s x=.c (.sl b off n z)) (hb:s.h.get b=some (.pure o)) (hne:o≠[]) :
  PureD P ⟨dst,.call { callee:=.builtin .len,args:=#[x],argTypes:=#[t] },ty,pos,after,none⟩ s (.c (.p (.sc (.int .i64 n)))) :=
 p_len hd hx0 ht (by rw [hx]; rfl) (fun b z h=>by rw [hx] at h; cases h) (fun b' o' z' h=>by rw [hx] at h; cases h; exact ⟨o,hb,hne⟩)
theorem u_ixs {t e:TypeId} {x y:Operand} {b off n z by':Nat} {zv:Value} {cs:List AV} {k:IntKind} {i:Int} {j:Nat} (hd:dOk2 s dst=true) (hx0:isConst x=false) (ht:P.underlying t=some (.slice e)) (hI:Info P e z by' zv) (hx:tev s x=.c (.sl b off n z)) (hb:s.h.get b=some (.pure cs)) (hne:cs≠[]) (hy:tev s y=.c (.p (.sc (.int k i)))) (hi:i=(j:Int)) (hj:j < n) :
  PureD P ⟨dst,.indexAddr t x y,ty,pos,after,none⟩ s (.c (.ptr b (off+j * z))):=p_ixs hd hx0 ht hI.sz hx hb hne hy hi hj
end
theorem OpW_cut_ar {P:Program} {K:AS→Prop} {s:AS} {dst:Option Tmp} {ty:TypeId} {pos:String} {after:Array Edge} {t e:TypeId} {x:Operand} {hi:Option Operand} {h n z off:Nat} {cs:List AV} (hx:aev s x=.rptr cs off) (ht:P.underlying t=some (.array n e)) (hz:(P.info? e).map (·.size)=some z) (hh:bnd s hi n h) (h2:h≤n) (hd:dOk s dst=true)
  (hk:K (s.put dst (.lst ((cs.drop off).take (h * z)) h))):OpW P ⟨dst,.slice t x none hi none,ty,pos,after,none⟩ K s:=by
 refine OpW_same hd (fun Z a w r=>?_) hk
 have hv:=aev_rel r x
 rw [hx] at hv
 generalize hu:a.eval x=u at hv
 cases hv with
 | rptr _ _ b off' f hzb hs hr =>
  have hb:=run_bounds (P:=P) (c:=n) (mx:=none) (lo:=none) (l:=0) r false rfl hh rfl (fun hc=>by simp at hc) (Nat.zero_le _) h2 (Nat.le_refl _)
  simp only [Option.map_none] at hb
  have hget:∀ (i:Nat) (a:AV),((cs.drop off).take (h * z))[i]?=some a→cs[off+i]?=some a:=by
   intro i a ha
   rw [List.getElem?_take] at ha
   split at ha
   ·rwa [List.getElem?_drop] at ha
   ·cases ha
  refine ⟨.slice (some ⟨b,off'+off,none⟩) h n,?_,.lst _ h n b (off'+off) (fun i=>f (off+i)) h2 hzb (fun i a ha=>by rw [Nat.add_assoc]; exact hs _ a (hget i a ha)) (fun i a ha=>hr _ a (hget i a ha))⟩
  simp only [execOp,Instr.sliceAt,hu,Instr.sureAddr]
  simp [run_underlying ht,hb,info_run hz]
  intro _
  rw [add_none]
  simp
section
variable {P:Program} {s:TS} {dst:Option Tmp} {ty:TypeId} {pos:String} {after:Array Edge}
theorem u_cutar {α:Type} {g:List α→List AV} {l:List α} {t e:TypeId} {x:Operand} {hi:Option Operand} {cs:List AV} {off n z by' h:Nat} {zv:Value} (hd:dOk2 s dst=true) (hx0:isConst x=false) (ht:P.underlying t=some (.array n e)) (hI:Info P e z by' zv) (hx:tev s x=.c (.p (.rptr cs off))) (S:Sub cs off (g l)) (hl:l.length=n) (hlg:(g l).length=n * z) (hh:bndT s hi n h) (h2:h≤n) (hg:∀ (l:List α) (i n:Nat),((g l).drop (i * z)).take (n * z)=g ((l.drop i).take n)) :
  PureD P ⟨dst,.slice t x none hi none,ty,pos,after,none⟩ s (.c (.p (.lst (g (l.take h)) (l.take h).length))):=by
 refine PureD_same fun m hp n' hm K hk=>OpW_cut_ar (by rw [aev_eq hx0,hx]; rfl) ht hI.sz (bnd_can hh) h2 (dOk_can hd) (hk _ ?_)
 have e1:(cs.drop off).take (h * z)=g (l.take h):=by
  have h3:=hg l 0 h
  rw [Nat.zero_mul,List.drop_zero,List.drop_zero] at h3
  rw [← h3,← S.take hlg,List.take_take,Nat.min_eq_left (Nat.mul_le_mul_right _ h2)]
 rw [e1,List.length_take,hl,Nat.min_eq_left h2]
 exact .same _
end
end Go.Proofs.YthnkbagmaljjjaaGreatDoor.VM
