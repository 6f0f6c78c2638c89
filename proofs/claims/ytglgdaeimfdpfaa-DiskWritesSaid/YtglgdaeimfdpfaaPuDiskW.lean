/- Words and rules that the proof uses. -/
import Derived.Test.YtglgdaeimfdpfaaPuDisk0
namespace Go.Proofs.Ytglgdaeimfdpfaa.VM
open Go Go.RowKit
theorem check_few {d:GDisk} (h:g_disk_Check d=some 0):d.Writes.length≤60∧d.Lasts.length≤400:=by
 unfold g_disk_Check at h
 split at h
 ·cases h
 ·omega
def wroteD (d:GDisk) (i:Int) (b:Vector UInt8 32):GDisk:={ Lasts:=d.Lasts,Writes:=d.Writes++[⟨i,b⟩] }
theorem write_both {d:GDisk} {i:Int} {b:Vector UInt8 32} {e:Int} (h1:g_disk_Check d=some e) (h2:g_ref_DiskFault d=some e):∃ r:GDisk×Int,g_disk_Write d i b=some r∧g_ref_Wrote d i b=some r∧r.1.Lasts.length≤140737488355328∧r.1.Writes.length≤140737488355328:=by
 unfold g_disk_Write g_ref_Wrote g_ref_sectorFault
 rw [h1,h2,Option.bind_some,Option.bind_some]
 by_cases he:e≠0
 ·rw [if_pos he,if_pos he,Option.bind_some,if_pos he]
  exact ⟨_,rfl,rfl,Nat.zero_le _,Nat.zero_le _⟩
 rw [if_neg he,if_neg he]
 rw [Classical.not_not.1 he] at h1
 obtain ⟨hw,hl⟩:=check_few h1
 by_cases hi:(i < (0:Int))∨(i≥(d.Lasts.length:Int))
 ·rw [if_pos hi,if_pos hi,Option.bind_some,if_pos (show (6:Int)≠0 by decide)]
  exact ⟨_,rfl,rfl,Nat.zero_le _,Nat.zero_le _⟩
 rw [if_neg hi,if_neg hi,Option.bind_some,if_neg (fun q:(0:Int)≠0=>q rfl)]
 by_cases hf:(d.Writes.length:Int)=60
 ·rw [if_pos hf,if_pos hf]
  exact ⟨_,rfl,rfl,Nat.zero_le _,Nat.zero_le _⟩
 rw [if_neg hf,if_neg hf]
 have hfr:g_disk_fresh d=some d:=by
  unfold g_disk_fresh
  rw [if_pos (show room _ _ by simp only [room,List.length_nil]; omega),if_pos (show room _ _ by simp only [room,List.length_nil]; omega)]
  rfl
 rw [hfr,Option.bind_some,if_pos (show room _ _ by simp only [room,List.length_cons,List.length_nil]; omega),if_pos (show room _ _ by simp only [room,List.length_nil]; omega),if_pos (show room _ _ by simp only [room,List.nil_append,List.length_cons,List.length_nil]; omega),letO_eq,letO_eq,List.nil_append]
 refine ⟨(wroteD d i b,0),rfl,rfl,by show d.Lasts.length≤_; omega,?_⟩
 show (d.Writes++[(⟨i,b⟩:GPut)]).length≤_
 simp only [List.length_append,List.length_cons,List.length_nil]
 omega
theorem g_law_DiskWrites_true {x0:GDisk} {x1:Int} {x2:Vector UInt8 32} (q0:GDisk.ok x0) (_q1:okI x1) (_q2:(okV okA) x2):g_law_DiskWrites x0 x1 x2=some true:=by
 have hw:x0.Writes.length≤140737488355328:=by
  have:=q0.2.1
  simp only [reachBytes] at this
  omega
 obtain ⟨e,h1,h2⟩:=diskFault_eq x0 hw
 obtain ⟨r,h3,h4,h5,h6⟩:=write_both (i:=x1) (b:=x2) h1 h2
 unfold g_law_DiskWrites
 rw [h3,h4,Option.bind_some,Option.bind_some,if_pos rfl,sameDisk_true _ h5 h6]
 rfl
end Go.Proofs.Ytglgdaeimfdpfaa.VM
