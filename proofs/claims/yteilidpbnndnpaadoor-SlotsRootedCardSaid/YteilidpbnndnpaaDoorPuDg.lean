/- Words and rules that the proof uses. -/
import Derived.Test.YteilidpbnndnpaaDoorPuDig
namespace Go.Proofs.YteilidpbnndnpaaDoor.VM
open Go Go.RowKit
noncomputable def dg (m tag : Int) (l : List (List UInt8)) : List UInt8 × Int := (g_oracle_Digest m tag l).getD ([], 0)
theorem dg_o (m tag : Int) (l : List (List UInt8)) : g_oracle_Digest m tag l = some (dg m tag l) := by
 obtain ⟨r, h1, _⟩ := digest_eq m tag l
 unfold dg
 rw [h1]
 rfl
theorem dg_r (m tag : Int) (l : List (List UInt8)) : g_ref_DigestOf m tag l = some (dg m tag l) := by
 obtain ⟨r, h1, h2, _⟩ := digest_eq m tag l
 unfold dg
 rw [h1, h2]
 rfl
theorem two_le {j : Nat} (h : j ≤ 6) : 2 ^ j ≤ 64 := Nat.pow_le_pow_right (n := 2) (by decide) h
end Go.Proofs.YteilidpbnndnpaaDoor.VM
