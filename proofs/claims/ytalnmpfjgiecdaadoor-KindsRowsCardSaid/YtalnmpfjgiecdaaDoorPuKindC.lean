/- Columns and rows: the laws. -/
import Derived.Test.YtalnmpfjgiecdaaDoorPuKind
namespace Go.Proofs.YtalnmpfjgiecdaaDoor.VM
open Go Go.RowKit
theorem g_law_KindsColumns_true {x0 : List GColumn} (q0 : (okL 32 GColumn.ok) x0) : g_law_KindsColumns x0 = some true := by
  obtain ⟨e, h1, h2⟩ := cols_eq x0 (colsOk q0).1 (colsOk q0).2
  unfold g_law_KindsColumns
  rw [h1, h2]
  simp
theorem g_law_KindsRows_true {x0 : List GValue} {x1 : List GColumn} (q0 : (okL 40 GValue.ok) x0) (q1 : (okL 32 GColumn.ok) x1) : g_law_KindsRows x0 x1 = some true := by
  obtain ⟨e, h1, h2⟩ := row_eq x0 x1 (colsOk q1).1 (colsOk q1).2 (fun v hv => (q0.2.2 v hv).2.1)
  unfold g_law_KindsRows
  rw [h1, h2]
  simp
end Go.Proofs.YtalnmpfjgiecdaaDoor.VM
