/- Words and rules that the proof uses. -/
import Derived.Test.YtalnmpfjgiecdaaDoorPuTab
namespace Go.Proofs.YtalnmpfjgiecdaaDoor.VM
open Go Go.RowKit
theorem g_law_TableChecks_true {x0 : GTable} (q0 : GTable.ok x0) : g_law_TableChecks x0 = some true := by
 obtain ⟨e, h1, h2, _⟩ := table_eq (tab_ok q0)
 unfold g_law_TableChecks
 rw [h1, h2]
 simp
end Go.Proofs.YtalnmpfjgiecdaaDoor.VM
