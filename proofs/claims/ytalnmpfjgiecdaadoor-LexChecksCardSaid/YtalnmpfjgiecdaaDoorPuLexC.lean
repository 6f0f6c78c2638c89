/- Tokens: the law of what is wrong with one. -/
import Derived.Test.YtalnmpfjgiecdaaDoorPuLex2
namespace Go.Proofs.YtalnmpfjgiecdaaDoor.VM
open Go Go.RowKit
theorem g_law_LexChecks_true {x0 : GToken} (q0 : GToken.ok x0) : g_law_LexChecks x0 = some true := by
  obtain ⟨e, h1, h2, _⟩ := tok_eq x0 (Nat.lt_of_le_of_lt q0.2.1 (by decide))
  unfold g_law_LexChecks
  rw [h1, h2]
  simp
end Go.Proofs.YtalnmpfjgiecdaaDoor.VM
