/- Words and rules that the proof uses. -/
import Derived.Test.YtglgdaeimfdpfaaPuBase
namespace Go.Proofs.Ytglgdaeimfdpfaa.VM
open Go Go.RowKit
theorem diskFault_eq (d:GDisk) (_hd:d.Writes.length≤140737488355328):∃ e:Int,g_disk_Check d=some e∧g_ref_DiskFault d=some e:=by
 unfold g_disk_Check g_ref_DiskFault
 by_cases h:(((d.Lasts.length:Int) < 1)∨((d.Lasts.length:Int) > 400))∨((d.Writes.length:Int) > 60)
 ·rw [if_pos h,if_pos (by omega)]
  exact ⟨_,rfl,rfl⟩
 ·rw [if_neg h,if_neg (by omega)]
  obtain ⟨r,h1,_⟩:=loopO_times (step:=g_disk_Check_l0 d) (σ:=Unit) d.Writes.length (fun k _=>(k:Int)) (fun _ _=>True) (fun _=>True) (fun k u hk _=>by
   unfold g_disk_Check_l0
   dsimp only
   rw [if_pos (natLt hk),if_pos (natIn hk),w64_succ (by omega)]
   by_cases h2:((lrd d.Writes ((k:Int)).toNat).At < 0)∨((lrd d.Writes ((k:Int)).toNat).At≥(d.Lasts.length:Int))
   ·rw [if_pos h2]
    exact .inr ⟨_,rfl,trivial⟩
   ·rw [if_neg h2]
    exact .inl ⟨(),rfl,trivial⟩) (fun u _=>by
   unfold g_disk_Check_l0
   dsimp only
   rw [if_neg natNlt]
   exact ⟨_,rfl,trivial⟩) (s:=()) trivial
  rw [show ((0:Nat):Int)=0 from rfl] at h1
  have h2:loopO (g_ref_DiskFault_l0 d) (0:Int)=some r:=h1
  rw [h1,h2]
  cases r with
  | inl e=>exact ⟨e,rfl,rfl⟩
  | inr u=>exact ⟨0,rfl,rfl⟩
theorem sameDisk_true (a:GDisk) (h1:a.Lasts.length≤140737488355328) (h2:a.Writes.length≤140737488355328):g_law_sameDisk a a=some true:=by
 unfold g_law_sameDisk
 rw [if_neg (by omega)]
 obtain ⟨r,h3,rfl⟩:=loopO_times (step:=g_law_sameDisk_l0 a a) (σ:=Unit) a.Lasts.length (fun k _=>(k:Int)) (fun _ _=>True) (fun r=>r=.inr ()) (fun k u hk _=>by
  unfold g_law_sameDisk_l0
  dsimp only
  rw [if_pos (natLt hk),if_pos (natIn hk),if_pos (natIn hk),if_neg (by simp),w64_succ (by omega)]
  exact .inl ⟨(),rfl,trivial⟩) (fun u _=>by
  unfold g_law_sameDisk_l0
  dsimp only
  rw [if_neg natNlt]
  exact ⟨_,rfl,rfl⟩) (s:=()) trivial
 obtain ⟨r,h4,rfl⟩:=loopO_times (step:=g_law_sameDisk_l1 a a) (σ:=Unit) a.Writes.length (fun k _=>(k:Int)) (fun _ _=>True) (fun r=>r=.inr ()) (fun k u hk _=>by
  unfold g_law_sameDisk_l1
  dsimp only
  rw [if_pos (natLt hk),if_pos (natIn hk),if_pos (natIn hk),if_neg (by simp),w64_succ (by omega)]
  exact .inl ⟨(),rfl,trivial⟩) (fun u _=>by
  unfold g_law_sameDisk_l1
  dsimp only
  rw [if_neg natNlt]
  exact ⟨_,rfl,rfl⟩) (s:=()) trivial
 rw [show ((0:Nat):Int)=0 from rfl] at h3 h4
 rw [h3,Option.bind_some,h4]
 rfl
end Go.Proofs.Ytglgdaeimfdpfaa.VM
