/- Words and rules that the proof uses. -/
import Derived.Test.YtfekkhinjdmcbaaDoorVtDrawU
namespace Go.Proofs.YtfekkhinjdmcbaaDoor.VM
open Go Go.RowKit
def CLes (cs cs' : List AV) : Prop := cs'.length ≤ cs.length ∧ ∀ (i : Nat) (a a' : AV), cs[i]? = some a → cs'[i]? = some a' → Les a a'
theorem CLes.pre {cs cs' : List AV} (h : cs' <+: cs) : CLes cs cs' := by
 obtain ⟨t, rfl⟩ := h
 refine ⟨by simp, fun i a a' h1 h2 => ?_⟩
 rw [List.getElem?_append_left (List.getElem?_eq_some_iff.1 h2).1, h2] at h1
 cases h1
 exact .same _
section
variable {P : Program} {s : TS} {dst : Option Tmp} {ty : TypeId} {pos : String} {after : Array Edge}
end
section
variable {P : Program} {s : TS} {dst : Option Tmp} {ty : TypeId} {pos : String} {after : Array Edge}
end
section
variable {P : Program} {s : TS} {dst : Option Tmp} {ty : TypeId} {pos : String} {after : Array Edge}
end
end Go.Proofs.YtfekkhinjdmcbaaDoor.VM
