/- Words and rules that the proof uses. -/
import Derived.Test.YtalnmpfjgiecdaaDoorPuTab
import Derived.Test.YtalnmpfjgiecdaaDoorPuTRowsB
namespace Go.Proofs.YtalnmpfjgiecdaaDoor.VM
open Go Go.RowKit
theorem keyed_of {t : GTable} (q : GTable.ok t) (H : ∀ i, i < 2 → keysOk (vrd t.Drawers i)) : KeyedT t := by
 refine ⟨fun i k hi hk hf => ?_⟩
 have hc := q.2.2.2 (vrd t.Drawers i) (vrd_mem hi) (vrd (vrd t.Drawers i) k) (vrd_mem hk)
 have h0 : 0 < (cellAt t i k).Row.length := (H i hi k hk hf).1
 refine ⟨h0, ?_, Nat.le_trans hc.2.1 (by decide)⟩
 exact (hc.2.2.2 (lrd (cellAt t i k).Row 0) (lrd_mem h0)).2.1
theorem g_law_TableRows_true {x0 : GTable} {x1 : Vector Bool 2} (q0 : GTable.ok x0) (_q1 : (okV okA) x1) : g_law_TableRows x0 x1 = some true := by
 have key : ∃ r : List TRow × Int, g_table_Rows x0 x1 = some r ∧ g_ref_RowsOf x0 x1 = some r ∧ g_law_sameRows r.1 r.1 = some true := by
  obtain ⟨e, h1, h2, h3⟩ := table_eq (tab_ok q0)
  unfold g_table_Rows g_ref_RowsOf
  rw [h1, h2, Option.bind_some, Option.bind_some]
  by_cases he : e ≠ 0
  ·rw [if_pos he, if_pos he]
   exact ⟨_, rfl, rfl, sameRows_same (show 0 < 1000 by decide) (fun x hx => by cases hx)⟩
  ·have he0 : e = 0 := by omega
   obtain ⟨_, _, _, _, H⟩ := h3 he0
   have hk := keyed_of q0 H
   rw [if_neg he, if_neg he, prog_all hk, ref_all hk]
   refine ⟨_, rfl, rfl, sameRows_same ?_ (fun x hx => ?_)⟩
   ·have := all_len x0 x1 2
    show (allL x0 x1 2).length < 1000
    omega
   ·have := (all_keyed hk 2 (Nat.le_refl _) x hx).len
    omega
 obtain ⟨r, h1, h2, h3⟩ := key
 unfold g_law_TableRows
 rw [h1, h2, Option.bind_some, Option.bind_some, if_pos rfl, h3]
 rfl
end Go.Proofs.YtalnmpfjgiecdaaDoor.VM
