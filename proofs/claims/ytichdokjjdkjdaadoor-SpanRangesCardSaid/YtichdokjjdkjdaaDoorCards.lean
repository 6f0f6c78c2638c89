/-
  DERIVED. GIVEN WITH THE SEED: THE CARDS: each row of YtichdokjjdkjdaaDoorRows.lean that lists a variable, with what it lists TIED to the program's text (the seventh form; the later family's looks); each row that meets fmt, with fmt's text TOLD by the authors' own Lean function (tested against real Go, not proved from fmt's source: count such statements apart). THE CARD IS WHAT COUNTS. Prove the row's statement (the work); the ties are given (YtichdokjjdkjdaaDoorTie.lean); close each card by the builder's one call (the guide's Derived/Test/ToyasCard.lean, 'card_holds'). Laid BY PROGRAM, IN A SANDBOX (cutbox-door.mjs). By AI agents, Wed Nov 11 2026. No macro, syntax, notation, axiom, sorry.
-/
import Derived.Test.YtichdokjjdkjdaaDoorRows
import GoSem.ClaimSeven
namespace Go.Proofs.YtichdokjjdkjdaaDoor
namespace Rows

/-- THE TIED CARD OF 'chirographlaw.SpanRanges'. -/
def spanRangesCard : Claim7 := { stood := { row := spanRangesRow, standIns := [], harness := (true, "e98c1a5260f30e8d35d0cce24fd88179f0a5e06020a1e83a719fe2e9d091b92d"), looks := false }, kinds := [], alts := [], laidByText := true, laidKinds := [.data, .pinned], laidTests := true, laidLooks := .later }
def SpanRangesCardSaid : Prop := Claim7.holds Tryd.pinned (.plain (OpenSpec.ofChange spanRangesSpec)) spanRangesCard

/-- THE SECOND FORM's CARD OF 'chirographlaw.SpanRanges'. -/
def spanRangesUptoCard : Claim7 := { stood := { row := spanRangesUptoRow, standIns := [], harness := (true, "e98c1a5260f30e8d35d0cce24fd88179f0a5e06020a1e83a719fe2e9d091b92d"), looks := false }, kinds := [], alts := [], laidByText := true, laidKinds := [.data, .pinned], laidTests := true, laidLooks := .later }
def SpanRangesUptoCardSaid : Prop := Claim7.holds Tryd.pinned (.plain (OpenSpec.upto spanRangesSpec)) spanRangesUptoCard
end Rows
end Go.Proofs.YtichdokjjdkjdaaDoor
