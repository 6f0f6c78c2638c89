/- Words and rules that the proof uses. -/
import Derived.Test.YtcahembojhmpbaaDoorPuKOf2
namespace Go.Proofs.YtcahembojhmpbaaDoor.VM
open Go Go.RowKit
theorem g_law_KindsOf_true {x0 : GExpr} {x1 : List GColumn} (q0 : GExpr.ok x0) (q1 : (okL 32 GColumn.ok) x1) : g_law_KindsOf x0 x1 = some true := by
 obtain ⟨r, h1, h2, _⟩ := of_eq q0 (colsOk q1).1 (colsOk q1).2
 unfold g_law_KindsOf
 rw [h1, h2]
 simp
theorem g_law_TableConditions_true {x0 : GExpr} {x1 : List GColumn} (q0 : GExpr.ok x0) (q1 : (okL 32 GColumn.ok) x1) : g_law_TableConditions x0 x1 = some true := by
 obtain ⟨r, h1, h2⟩ := cond_eq q0 (colsOk q1).1 (colsOk q1).2
 unfold g_law_TableConditions
 rw [h1, h2]
 simp
end Go.Proofs.YtcahembojhmpbaaDoor.VM
