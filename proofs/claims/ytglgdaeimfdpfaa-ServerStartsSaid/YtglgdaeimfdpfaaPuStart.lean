/- A server that is started. -/
import Derived.Test.YtglgdaeimfdpfaaPuSame
namespace Go.Proofs.Ytglgdaeimfdpfaa.VM
open Go Go.RowKit
theorem sameGrants_nil : g_law_sameGrants [] [] = some true := by
  unfold g_law_sameGrants
  rw [if_neg (fun q => q rfl), loopO_done (r := .inr ()) (by unfold g_law_sameGrants_l0; rfl)]
  rfl
theorem sameLists_nil : g_law_sameLists [] [] = some true := by
  unfold g_law_sameLists
  rw [if_neg (fun q => q rfl), loopO_done (r := .inr ()) (by unfold g_law_sameLists_l0; rfl)]
  rfl
theorem vrd_rep {α : Type} [Inhabited α] {n : Nat} {x : α} {j : Nat} (h : j < n) : vrd (Vector.replicate n x) j = x := by
  rw [vrd_at h, Vector.getElem_replicate]
theorem sameState_zero : g_law_sameState GState.zero GState.zero = some true := by
  unfold g_law_sameState
  have ht : g_law_sameTable GTable.zero GTable.zero = some true := by
    refine sameTable_refl GTable.zero (by decide) (fun i j hi hj => ?_)
    show (vrd (vrd (Vector.replicate 2 (Vector.replicate 4 GCell.zero)) i) j).Row.length < _
    rw [vrd_rep hi, vrd_rep hj]
    decide
  have hin : ∀ i : Nat, i < 3 → loopO (g_law_sameState_l1 GState.zero GState.zero (i : Int)) (0 : Int) = some (.inr ()) := by
    intro i hi
    refine same_loop (step := g_law_sameState_l1 GState.zero GState.zero (i : Int)) 2 (.inr ()) (by decide) (fun k hk => ?_) ?_
    · unfold g_law_sameState_l1
      dsimp only
      have h1 : (0 : Int) ≤ (i : Int) ∧ (i : Int) < 3 := by omega
      have h2 : (0 : Int) ≤ (k : Int) ∧ (k : Int) < 2 := by omega
      have e : vrd (vrd GState.zero.Tables i) k = GTable.zero := by
        show vrd (vrd (Vector.replicate 3 (Vector.replicate 2 GTable.zero)) i) k = _
        rw [vrd_rep hi, vrd_rep hk]
      rw [if_pos h2.2, if_pos h1, if_pos h2, if_pos h1, if_pos h2, Int.toNat_natCast, Int.toNat_natCast, e, ht, Option.bind_some, if_neg (by decide)]
    · unfold g_law_sameState_l1
      dsimp only
      rw [if_neg (by decide)]
  rw [same_loop (step := g_law_sameState_l0 GState.zero GState.zero) 3 (.inr ()) (by decide) (fun k hk => by
    unfold g_law_sameState_l0
    dsimp only
    rw [if_pos (by omega), hin k hk]
    rfl) (by
    unfold g_law_sameState_l0
    dsimp only
    rw [if_neg (by decide)])]
  show (g_law_sameGrants [] []).bind _ = _
  rw [sameGrants_nil]
  simp
theorem sameDisk_refl (a : GDisk) (h : a.Lasts.length < 9223372036854775807) (h2 : a.Writes.length < 9223372036854775807) : g_law_sameDisk a a = some true := by
  unfold g_law_sameDisk
  rw [if_neg (by simp), same_loop (step := g_law_sameDisk_l0 a a) a.Lasts.length (.inr ()) h (fun k hk => by
    unfold g_law_sameDisk_l0
    dsimp only
    rw [if_pos (natLt hk), if_pos (natIn hk), if_pos (natIn hk), if_neg (fun q => q rfl)]) (by
    unfold g_law_sameDisk_l0
    dsimp only
    rw [if_neg natNlt]), Option.bind_some]
  dsimp only
  rw [same_loop (step := g_law_sameDisk_l1 a a) a.Writes.length (.inr ()) h2 (fun k hk => by
    unfold g_law_sameDisk_l1
    dsimp only
    rw [if_pos (natLt hk), if_pos (natIn hk), if_pos (natIn hk), if_neg (fun q => q rfl)]) (by
    unfold g_law_sameDisk_l1
    dsimp only
    rw [if_neg natNlt])]
  rfl
/-- A server whose state is none, and whose roll is empty. -/
theorem sameServer_refl (a : GServer) (hs : a.State = GState.zero) (hr : a.Roll = []) (h : a.Disk.Lasts.length < 9223372036854775807) (h2 : a.Disk.Writes.length < 9223372036854775807) : g_law_sameServer a a = some true := by
  unfold g_law_sameServer g_law_sameBytes
  rw [if_pos rfl, Option.bind_some, if_pos (decide_eq_true rfl), hs, sameState_zero, Option.bind_some, if_pos rfl, hr, sameLists_nil, Option.bind_some, if_pos rfl, sameDisk_refl _ h h2]
  rfl
theorem g_law_ServerStarts_true {x0 : Int} {x1 : List UInt8} (q0 : okI x0) (q1 : (okL 1 okA) x1) : g_law_ServerStarts x0 x1 = some true := by
  have key : ∃ r : GServer × Int, g_server_Start x0 x1 = some r ∧ g_ref_Started x0 x1 = some r ∧ g_law_sameServer r.1 r.1 = some true := by
    unfold g_server_Start g_ref_Started g_ref_badMode
    rw [Option.bind_some]
    by_cases hm : (x0 ≠ (1 : Int)) ∧ (x0 ≠ (2 : Int))
    · rw [if_pos hm, if_pos (decide_eq_true hm)]
      exact ⟨_, rfl, rfl, sameServer_refl GServer.zero rfl rfl (by decide) (by decide)⟩
    · rw [if_neg hm, if_neg (show ¬ (decide ((x0 ≠ (1 : Int)) ∧ (x0 ≠ (2 : Int))) = true) by rw [decide_eq_false hm]; decide)]
      by_cases hl : (x1.length : Int) > 16
      · simp only [if_pos hl]
        exact ⟨_, rfl, rfl, sameServer_refl GServer.zero rfl rfl (by decide) (by decide)⟩
      · simp only [if_neg hl]
        unfold g_disk_New
        rw [if_neg (by decide), if_pos (by decide), if_pos (by decide), letO_eq, Option.bind_some, if_pos (show room _ _ by simp only [room, List.length_nil]; omega), letO_eq, letO_eq]
        exact ⟨_, rfl, rfl, sameServer_refl _ rfl rfl (by show (List.replicate (400 : Int).toNat _).length < _; rw [List.length_replicate]; decide) (by show ([] : List GPut).length < _; decide)⟩
  obtain ⟨r, h1, h2, h3⟩ := key
  unfold g_law_ServerStarts
  rw [h1, h2, Option.bind_some, Option.bind_some, if_pos rfl, h3]
  rfl
end Go.Proofs.Ytglgdaeimfdpfaa.VM
