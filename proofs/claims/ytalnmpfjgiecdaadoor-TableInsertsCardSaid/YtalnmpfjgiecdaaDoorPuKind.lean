/- Words and rules that the proof uses. -/
import Derived.Test.YtalnmpfjgiecdaaDoorPuCols
namespace Go.Proofs.YtalnmpfjgiecdaaDoor.VM
open Go Go.RowKit
theorem rowStep (row : List GValue) (cols : List GColumn) (hlen : row.length = cols.length) (hr : ∀ v ∈ row, okI v.Int_) : g_kinds_fits_l0 row cols = g_ref_RowFault_l0 row cols := by
 funext t
 unfold g_kinds_fits_l0 g_ref_RowFault_l0
 dsimp only
 by_cases h : t < (row.length : Int)
 ·rw [if_pos h, if_pos h]
  by_cases h0 : 0 ≤ t ∧ t < (row.length : Int)
  ·obtain ⟨e, h1, h2, _⟩ := check_eq (lrd row t.toNat) (hr _ (lrd_mem (by omega)))
   have hc : 0 ≤ t ∧ t < (cols.length : Int) := by omega
   rw [if_pos h0, if_pos h0, h1, h2, Option.bind_some, Option.bind_some]
   by_cases he : e ≠ 0
   ·rw [if_pos he, if_pos he]; rfl
   ·rw [if_neg he, if_neg he]
    by_cases hk : (lrd row t.toNat).Kind = 0
    ·simp only [if_pos hc]
     rw [if_pos hk, if_pos hk, Option.bind_some]
     by_cases hn : (!((lrd cols t.toNat).Null)) = true
     ·rw [if_pos hn, if_pos hn]; rfl
     ·rw [if_neg hn, if_neg hn, if_neg (fun q => q hk), Option.bind_some, if_neg (by decide)]; rfl
    ·rw [if_neg hk, if_neg hk, if_pos hc, Option.bind_some, if_neg (show ¬ (false = true) by decide), if_pos hk, if_pos hc, Option.bind_some]
     by_cases hn : (lrd row t.toNat).Kind ≠ (lrd cols t.toNat).Kind
     ·rw [if_pos (decide_eq_true hn), if_pos hn]; rfl
     ·rw [if_neg (by rw [decide_eq_false hn]; decide), if_neg hn]; rfl
  ·rw [if_neg h0, if_neg h0]; rfl
 ·rw [if_neg h, if_neg h]
theorem row_eq (row : List GValue) (cols : List GColumn) (hl : cols.length < 9223372036854775807) (hc : ∀ c ∈ cols, c.Name.length < 9223372036854775807) (hr : ∀ v ∈ row, okI v.Int_) : ∃ e, g_kinds_Row row cols = some e ∧ g_ref_RowFault row cols = some e := by
 unfold g_kinds_Row g_kinds_fits g_ref_RowFault
 obtain ⟨e, h1, h2⟩ := cols_eq cols hl hc
 rw [h1, h2, Option.bind_some, Option.bind_some]
 by_cases he : e ≠ 0
 ·rw [if_pos he, if_pos he]; exact ⟨_, rfl, rfl⟩
 ·rw [if_neg he, if_neg he]
  by_cases hlen : (row.length : Int) ≠ (cols.length : Int)
  ·rw [if_pos hlen, if_pos hlen]; exact ⟨_, rfl, rfl⟩
  ·have hlen2 : row.length = cols.length := by omega
   rw [if_neg hlen, if_neg hlen, rowStep row cols hlen2 hr]
   have : ∃ r, loopO (g_ref_RowFault_l0 row cols) (0 : Int) = some r ∧ True := by
    refine loopO_times (step := g_ref_RowFault_l0 row cols) row.length (fun k (_ : Unit) => (k : Int)) (fun _ _ => True) (fun _ => True) (fun k _ hk _ => ?_) (fun _ _ => ?_) (s := ()) trivial
    ·unfold g_ref_RowFault_l0
     dsimp only
     obtain ⟨e, _, h2, _⟩ := check_eq (lrd row k) (hr _ (lrd_mem hk))
     rw [if_pos (natLt hk), if_pos (natIn hk), Int.toNat_natCast, h2, Option.bind_some]
     have hk2 : (0 : Int) ≤ (k : Int) ∧ (k : Int) < (cols.length : Int) := by omega
     rw [if_pos hk2, if_pos hk2]
     split
     ·exact .inr ⟨_, rfl, trivial⟩
     ·split
      ·split
       ·exact .inr ⟨_, rfl, trivial⟩
       ·exact .inl ⟨(), by rw [w64_succ (by omega)]; rfl, trivial⟩
      ·split
       ·exact .inr ⟨_, rfl, trivial⟩
       ·exact .inl ⟨(), by rw [w64_succ (by omega)]; rfl, trivial⟩
    ·unfold g_ref_RowFault_l0
     dsimp only
     rw [if_neg natNlt]
     exact ⟨_, rfl, trivial⟩
   obtain ⟨r, hr2, _⟩ := this
   rw [hr2, Option.bind_some]
   cases r with
   | inl y => exact ⟨y, rfl, rfl⟩
   | inr y => exact ⟨0, rfl, rfl⟩
end Go.Proofs.YtalnmpfjgiecdaaDoor.VM
