/- Words and rules that the proof uses. -/
import Derived.Test.YtglgdaeimfdpfaaPuBase
import Derived.Test.YtglgdaeimfdpfaaVtLoop
namespace Go.Proofs.Ytglgdaeimfdpfaa.VM
open Go Go.RowKit
theorem fault_eq (d : GDisk) : g_ref_DiskFault d = g_disk_Check d := by
 unfold g_ref_DiskFault g_disk_Check
 have : g_ref_DiskFault_l0 = g_disk_Check_l0 := by
  funext d i
  rfl
 rw [this]
 have h : ((d.Lasts.length : Int) = 0) ↔ ((d.Lasts.length : Int) < 1) := by omega
 simp only [h]
theorem check_ex (d : GDisk) (q : d.ok) : ∃ e, g_disk_Check d = some e := by
 unfold g_disk_Check
 split
 ·exact ⟨_, rfl⟩
 ·rename_i hs
  have hw : d.Writes.length ≤ 60 := by omega
  obtain ⟨r, h1, _⟩ := loopO_rule (step := g_disk_Check_l0 d) (fun i => 0 ≤ i ∧ i ≤ d.Writes.length) (fun _ => True) (fun i => (d.Writes.length - i).toNat) (fun i hi => by
   unfold g_disk_Check_l0
   by_cases h : i < d.Writes.length
   ·rw [if_pos h, if_pos ⟨hi.1, h⟩]
    split
    ·exact .inr ⟨_, rfl, trivial⟩
    ·refine .inl ⟨_, rfl, ?_, ?_⟩
     ·rw [w64_id (by omega)]; omega
     ·rw [w64_id (by omega)]; omega
   ·rw [if_neg h]
    exact .inr ⟨_, rfl, trivial⟩) (a := 0) (by omega)
  rw [h1]
  cases r <;> exact ⟨_, rfl⟩
theorem check_bound (d : GDisk) (h : g_disk_Check d = some 0) : d.Writes.length ≤ 60 ∧ d.Lasts.length ≤ 400 := by
 unfold g_disk_Check at h
 split at h
 ·cases h
 ·omega
def lastW (i : Int) (b : Vector UInt8 32) (l : List GPut) : Vector UInt8 32 := l.foldl (fun b w => if w.At = i then w.Data else b) b
theorem lastW_app (i : Int) (b : Vector UInt8 32) (l m : List GPut) : lastW i b (l ++ m) = lastW i (lastW i b l) m := List.foldl_append
theorem lastW_one (i : Int) (b : Vector UInt8 32) (w : GPut) : lastW i b [w] = if w.At = i then w.Data else b := rfl
theorem lastW_none (i : Int) : ∀ (l : List GPut) (b : Vector UInt8 32), (∀ w ∈ l, w.At ≠ i) → lastW i b l = b
 | [], _, _ => rfl
 | w :: l, b, h => by
  have h1 := lastW_none i l b (fun x hx => h x (List.mem_cons_of_mem _ hx))
  unfold lastW at h1 ⊢
  rw [List.foldl_cons, if_neg (h w List.mem_cons_self), h1]
theorem read_loop (d : GDisk) (i : Int) (b : Vector UInt8 32) (hw : d.Writes.length ≤ 60) : loopO (g_disk_Read_l0 d i) (0, b) = some (lastW i b d.Writes) := by
 obtain ⟨r, h1, rfl⟩ := loopO_rule (step := g_disk_Read_l0 d i) (fun p => 0 ≤ p.1 ∧ p.1 ≤ d.Writes.length ∧ p.2 = lastW i b (d.Writes.take p.1.toNat)) (fun r => r = lastW i b d.Writes) (fun p => (d.Writes.length - p.1).toNat) (fun p hp => by
  obtain ⟨t, c⟩ := p
  obtain ⟨h1, h2, h3⟩ := hp
  simp only at h1 h2 h3
  unfold g_disk_Read_l0
  simp only
  by_cases h : t < d.Writes.length
  ·rw [if_pos h, if_pos ⟨h1, h⟩]
   have ht : (t + 1).toNat = t.toNat + 1 := by omega
   have hstep : lastW i b (d.Writes.take (t + 1).toNat) = if (lrd d.Writes t.toNat).At = i then (lrd d.Writes t.toNat).Data else c := by
    rw [ht, take_step (by omega), lastW_app, ← h3, lastW_one]
   by_cases h4 : (lrd d.Writes t.toNat).At = i
   ·rw [if_pos h4] at hstep ⊢
    refine .inl ⟨_, rfl, ?_⟩
    simp only
    rw [w64_id (by omega)]
    exact ⟨⟨by omega, by omega, hstep.symm⟩, by omega⟩
   ·rw [if_neg h4] at hstep ⊢
    refine .inl ⟨_, rfl, ?_⟩
    simp only
    rw [w64_id (by omega)]
    exact ⟨⟨by omega, by omega, hstep.symm⟩, by omega⟩
  ·rw [if_neg h]
   refine .inr ⟨_, rfl, ?_⟩
   rw [h3, List.take_of_length_le (by omega)]) (a := (0, b)) ⟨by simp, by simp, rfl⟩
 exact h1
theorem sector_loop (d : GDisk) (i : Int) (b : Vector UInt8 32) (hw : d.Writes.length ≤ 60) : ∃ o, loopO (g_ref_SectorOf_l0 d i) (w64 ((d.Writes.length : Int) - 1)) = some o ∧ ((∃ x, o = .inl (x, 0) ∧ x = lastW i b d.Writes) ∨ (o = .inr () ∧ lastW i b d.Writes = b)) := by
 refine loopO_rule (step := g_ref_SectorOf_l0 d i) (fun k => -1 ≤ k ∧ k < d.Writes.length ∧ ∀ w ∈ d.Writes.drop (k + 1).toNat, w.At ≠ i) _ (fun k => (k + 1).toNat) (fun k hk => ?_) (a := w64 ((d.Writes.length : Int) - 1)) ?_
 ·obtain ⟨h1, h2, h3⟩ := hk
  unfold g_ref_SectorOf_l0
  simp only
  by_cases h : k ≥ 0
  ·have hk : (k + 1).toNat = k.toNat + 1 := by omega
   rw [if_pos h, if_pos ⟨h, h2⟩]
   by_cases h4 : (lrd d.Writes k.toNat).At = i
   ·rw [if_pos h4, if_pos ⟨h, h2⟩]
    refine .inr ⟨_, rfl, .inl ⟨_, rfl, ?_⟩⟩
    rw [hk] at h3
    conv => rhs; rw [← List.take_append_drop (k.toNat + 1) d.Writes]
    rw [lastW_app, lastW_none i _ _ h3, take_step (by omega), lastW_app, lastW_one, if_pos h4]
   ·rw [if_neg h4]
    refine .inl ⟨_, rfl, ?_⟩
    rw [w64_id (by omega)]
    refine ⟨⟨by omega, by omega, ?_⟩, by omega⟩
    have : (k - 1 + 1).toNat = k.toNat := by omega
    rw [this, drop_step (by omega)]
    intro w hw
    rcases List.mem_cons.1 hw with rfl | hw
    ·exact h4
    ·exact h3 w (by rw [hk]; exact hw)
  ·rw [if_neg h]
   refine .inr ⟨_, rfl, .inr ⟨rfl, lastW_none i _ _ ?_⟩⟩
   have : (k + 1).toNat = 0 := by omega
   rw [this] at h3
   simpa using h3
 ·rw [w64_id (by omega)]
  refine ⟨by omega, by omega, ?_⟩
  have : ((d.Writes.length : Int) - 1 + 1).toNat = d.Writes.length := by omega
  rw [this]
  simp
def secV (d : GDisk) (i : Nat) : Vector UInt8 32 := lastW (i : Int) (lrd d.Lasts i) d.Writes
theorem read_both {d : GDisk} (he : g_disk_Check d = some 0) {i : Nat} (hi : i < d.Lasts.length) : g_disk_Read d (i : Int) = some (secV d i, 0) ∧ g_ref_SectorOf d (i : Int) = some (secV d i, 0) := by
 obtain ⟨hw, _⟩ := check_bound d he
 have hb : 0 ≤ (i : Int) ∧ (i : Int) < (d.Lasts.length : Int) := by omega
 have hn : ¬ ((i : Int) < 0 ∨ (i : Int) ≥ (d.Lasts.length : Int)) := by omega
 constructor
 ·unfold g_disk_Read
  rw [he, Option.bind_some, if_neg (show ¬ ((0 : Int) ≠ 0) by decide), if_neg hn, if_pos hb, read_loop _ _ _ hw, Int.toNat_natCast]
  rfl
 ·unfold g_ref_SectorOf g_ref_sectorFault
  rw [fault_eq, he, Option.bind_some, if_neg (show ¬ ((0 : Int) ≠ 0) by decide), if_neg hn, Option.bind_some, if_neg (show ¬ ((0 : Int) ≠ 0) by decide)]
  obtain ⟨o, h2, h3⟩ := sector_loop d (i : Int) (lrd d.Lasts i) hw
  rw [h2, Option.bind_some]
  rcases h3 with ⟨x, rfl, rfl⟩ | ⟨rfl, h3⟩
  ·rfl
  ·dsimp only
   rw [if_pos hb, Int.toNat_natCast]
   unfold secV
   rw [h3]
end Go.Proofs.Ytglgdaeimfdpfaa.VM
