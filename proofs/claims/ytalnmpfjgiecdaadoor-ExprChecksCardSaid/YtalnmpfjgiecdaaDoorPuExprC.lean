/- Words and rules that the proof uses. -/
import Derived.Test.YtalnmpfjgiecdaaDoorPuExpr
namespace Go.Proofs.YtalnmpfjgiecdaaDoor.VM
open Go Go.RowKit
theorem g_law_ExprChecks_true {x0 : GExpr} (q0 : GExpr.ok x0) : g_law_ExprChecks x0 = some true := by
 obtain ⟨r, h1, h2⟩ := expr_eq q0
 unfold g_law_ExprChecks
 rw [h1, h2]
 simp
end Go.Proofs.YtalnmpfjgiecdaaDoor.VM
