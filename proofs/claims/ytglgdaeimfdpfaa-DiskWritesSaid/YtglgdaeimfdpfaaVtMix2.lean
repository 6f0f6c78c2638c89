/- Words and rules that the proof uses. -/
import Derived.Test.YtglgdaeimfdpfaaVtMix
namespace Go.Proofs.Ytglgdaeimfdpfaa.VM
open Go Go.RowKit
theorem res_cellam {P:Program} {s:TS} {t z:Nat} {ty:TypeId} {d:TypeDesc} {b off:Nat} {cs sub:List T1} (ht:P.underlying ty=some d) (hag:isAggD d=true) (hz:(P.info? ty).map (·.size)=some z) (hp:s.t t=.c (.ptr b off)) (hb:s.h.get b=some (.mix cs)) (hl:off+z≤cs.length) (h0:0 < z) (hs:(cs.drop off).take z=sub):ResOk P s (.cell t ty) (.agg sub):=by
 subst hs
 intro m h1 n hm Z a w r
 obtain ⟨q,hr,hh⟩:=blk_real hm hb (by simp only [Blk.cells]; intro h; rw [List.map_eq_nil_iff] at h; rw [h] at hl; simp at hl; omega)
 have hp2:atp (can m s h1 n) (aev (can m s h1 n) (.tmp t))=some (cs.map (T1.rn m),off):=by
  show atp (can m s h1 n) ((s.t t).rn m)=_
  rw [hp]
  simp only [TV.rn,T1.rn,hr,atp]
  show (h1 q).map _=_
  rw [hh]
  rfl
 have hb2:off+z≤(cs.map (T1.rn m)).length:=by rw [List.length_map]; exact hl
 obtain ⟨b',base,hv,hcs⟩:=atp_rel r.gd hp2 (aev_rel r (.tmp t))
 obtain ⟨us,hul,hrun,_,hrel⟩:=run_cells (P:=P) hb2 hcs
 have hsub:((cs.drop off).take z).map (T1.rn m)=((cs.map (T1.rn m)).drop off).take z:=by rw [List.map_take,List.map_drop]
 refine ⟨.agg us.toArray,?_,?_⟩
 ·have hv2:a.tmps.getD t undef=.pointer (some ⟨b',base+off,none⟩):=hv
  simp only [resRun,hv2,loadVar]
  simp [isAgg_run ht,hag,info_run hz,hrun,asAddr]
 ·show Rel Z w (.agg (((cs.drop off).take z).map (T1.rn m))) _
  rw [hsub]
  refine .agg _ _ (by simp [hul]; omega) (fun v hv'=>?_) (fun i c u hc' hu=>(hrel i c u hc' (by simpa using hu)).1)
  obtain ⟨i,hi,he⟩:=Array.getElem_of_mem hv'
  have hi':i < us.length:=by simpa using hi
  have hlt:i < (((cs.map (T1.rn m)).drop off).take z).length:=by simp; omega
  exact (hrel i _ v (List.getElem?_eq_getElem hlt) (by rw [List.getElem?_eq_getElem hi',← he]; simp)).2
section lit
variable {P:Program} {s:TS} {dst:Option Tmp} {ty:TypeId} {pos:String} {after:Array Edge}
end lit
section arr
variable {P:Program} {s:TS} {dst:Option Tmp} {ty:TypeId} {pos:String} {after:Array Edge}
end arr
end Go.Proofs.Ytglgdaeimfdpfaa.VM
