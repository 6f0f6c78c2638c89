/- Receipts: whether a slot is in the roll. -/
import Derived.Test.YtfekkhinjdmcbaaDoorPuRoll1
import Derived.Test.YtfekkhinjdmcbaaDoorPuLeaf
namespace Go.Proofs.YtfekkhinjdmcbaaDoor.VM
open Go Go.RowKit
theorem g_law_AuditReceipts_true {x0 : Int} {x1 : List UInt8} {x2 : Int} {x3 : Int} {x4 : List UInt8} {x5 : GSlot} {x6 : List (List UInt8)} (_q0 : okI x0) (_q1 : (okL 1 okA) x1) (_q2 : okI x2) (_q3 : okI x3) (_q4 : (okL 1 okA) x4) (_q5 : GSlot.ok x5) (q6 : (okL 24 (okL 1 okA)) x6) : g_law_AuditReceipts x0 x1 x2 x3 x4 x5 x6 = some true := by
  have key : ∃ r : Int, g_audit_Receipt x0 x1 x2 x3 x4 x5 x6 = some r ∧ g_ref_ReceiptFault x0 x1 x2 x3 x4 x5 x6 = some r := by
    have he : ∃ r : List UInt8 × Int, g_audit_Entry x0 x4 x5 = some r ∧ g_ref_EntryOf x0 x4 x5 = some r := by
      unfold g_audit_Entry g_ref_EntryOf
      obtain ⟨r, h1, h2, _⟩ := leaf_eq x0 x5
      rw [h1, h2]
      simp only [Option.bind_some]
      by_cases h : r.2 ≠ 0
      · rw [if_pos h, if_pos h]
        exact ⟨_, rfl, rfl⟩
      · rw [if_neg h, if_neg h]
        obtain ⟨q, h3, h4, _⟩ := digest_eq x0 8 [x4, r.1]
        rw [h3, h4]
        exact ⟨_, rfl, rfl⟩
    obtain ⟨r, h1, h2⟩ := he
    unfold g_audit_Receipt g_ref_ReceiptFault
    rw [h1, h2]
    simp only [Option.bind_some]
    by_cases h : r.2 ≠ 0
    · rw [if_pos h, if_pos h]
      exact ⟨_, rfl, rfl⟩
    · rw [if_neg h, if_neg h]
      obtain ⟨e, h3, h4⟩ := include_eq (x0 := x0) (x1 := x1) (x2 := x2) (x3 := x3) (x4 := r.1) q6
      rw [h3, h4]
      exact ⟨_, rfl, rfl⟩
  obtain ⟨r, h1, h2⟩ := key
  unfold g_law_AuditReceipts
  rw [h1, h2]
  simp
end Go.Proofs.YtfekkhinjdmcbaaDoor.VM
