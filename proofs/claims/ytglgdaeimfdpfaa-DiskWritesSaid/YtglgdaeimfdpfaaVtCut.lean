/- Words and rules that the proof uses. -/
import Derived.Test.YtglgdaeimfdpfaaVtDrawU
namespace Go.Proofs.Ytglgdaeimfdpfaa.VM
open Go Go.RowKit
def CLes (cs cs':List AV):Prop:=cs'.length≤cs.length∧∀ (i:Nat) (a a':AV),cs[i]?=some a→cs'[i]?=some a'→Les a a'
theorem Gho_blk {s:TS} {b:Nat} {k k':Blk} (hb:s.h.get b=some k) (hc:∀ m,CLes (k.cells m) (k'.cells m)):Gho s ⟨s.l,s.h.set b k',s.sz⟩:=by
 intro m h1 n' hm Z a w r
 obtain ⟨hlen,hle⟩:=hc m
 rcases hm.blk b k hb with ⟨rb,hr,hh⟩ | ⟨hr,h0⟩
 ·have hh1:(can m s h1 n').h rb=some (k.cells m):=hh
  refine ⟨m,⟨(can m s h1 n').t,h1.set rb (some (k'.cells m)),n',s.sz⟩,Z,.refl m,⟨rfl,hm.write hb hr,fun u=>.same _⟩,⟨r.tm,r.ts,r.df,⟨r.gd.zb,fun q o hq=>?_,fun q o hq=>?_,r.gd.tb⟩,r.hn,fun q o hq=>?_⟩,⟨rfl,rfl,rfl,Nat.le_refl _,fun _ _ _=>rfl,fun _ _=>rfl,fun q hq=>?_,fun _ hz=>hz,fun _ hz=>.inl hz⟩⟩
  ·have hq:(h1.set rb (some (k'.cells m))) q=some o:=hq
   by_cases hq2:q=rb
   ·subst hq2; exact r.gd.hz q _ hh1
   ·rw [Heap.set_ne _ _ _ _ hq2] at hq; exact r.gd.hz q o hq
  ·have hq:(h1.set rb (some (k'.cells m))) q=some o:=hq
   by_cases hq2:q=rb
   ·subst hq2
    rw [Heap.set_eq] at hq
    cases hq
    exact (r.gd.hb q _ hh1).upd hlen (fun i a a' v ha ha' h3=>hle i a a' ha ha' _ _ _ h3)
   ·rw [Heap.set_ne _ _ _ _ hq2] at hq; exact r.gd.hb q o hq
  ·have hq:(h1.set rb (some (k'.cells m))) q=some o:=hq
   by_cases hq2:q=rb
   ·subst hq2; exact r.hl q _ hh1
   ·rw [Heap.set_ne _ _ _ _ hq2] at hq; exact r.hl q o hq
  ·by_cases hq2:q=rb
   ·subst hq2; exact .inl (by show h1 q≠none; rw [show h1 q=some _ from hh1]; simp)
   ·have hq3:(h1.set rb (some (k'.cells m))) q≠none:=hq
    rw [Heap.set_ne _ _ _ _ hq2] at hq3; exact .inl hq3
 ·have h00:k'.cells m=[]:=List.eq_nil_of_length_eq_zero (by rw [h0] at hlen; simpa using hlen)
  refine ⟨m,can m s h1 n',Z,.refl m,⟨rfl,⟨fun c q hq=>?_,fun c c' q hc2 hc'=>?_⟩,fun u=>.same _⟩,r,Ext.refl _ _ _⟩
  ·rw [Hp.get_set] at hq
   by_cases hcb:c=b
   ·rw [if_pos hcb] at hq
    cases hq
    exact .inr ⟨by rw [hcb]; exact hr,h00⟩
   ·rw [if_neg hcb] at hq
    exact hm.blk c q hq
  ·have nn:∀ x,(s.h.set b k').get x≠none→s.h.get x≠none:=fun x hx=>by
    rw [Hp.get_set] at hx
    by_cases hxb:x=b
    ·rw [hxb,hb]; simp
    ·rwa [if_neg hxb] at hx
   exact hm.inj c c' q (nn c hc2) (nn c' hc')
section
variable {P:Program} {s:TS} {dst:Option Tmp} {ty:TypeId} {pos:String} {after:Array Edge}
end
section
variable {P:Program} {s:TS} {dst:Option Tmp} {ty:TypeId} {pos:String} {after:Array Edge}
end
section
variable {P:Program} {s:TS} {dst:Option Tmp} {ty:TypeId} {pos:String} {after:Array Edge}
end
end Go.Proofs.Ytglgdaeimfdpfaa.VM
