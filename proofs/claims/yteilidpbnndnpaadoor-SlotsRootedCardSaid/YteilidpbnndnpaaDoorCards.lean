/-
  DERIVED. GIVEN WITH THE SEED: THE CARDS: each row of YteilidpbnndnpaaDoorRows.lean that lists a variable, with what it lists TIED to the program's text (the seventh form; the later family's looks); each row that meets fmt, with fmt's text TOLD by the authors' own Lean function (tested against real Go, not proved from fmt's source: count such statements apart). THE CARD IS WHAT COUNTS. Prove the row's statement (the work); the ties are given (YteilidpbnndnpaaDoorTie.lean); close each card by the builder's one call (the guide's Derived/Test/ToyasCard.lean, 'card_holds'). Laid BY PROGRAM, IN A SANDBOX (cutbox-door.mjs). By AI agents, Wed Nov 11 2026. No macro, syntax, notation, axiom, sorry.
-/
import Derived.Test.YteilidpbnndnpaaDoorRows
import GoSem.ClaimSeven
namespace Go.Proofs.YteilidpbnndnpaaDoor
namespace Rows

/-- THE TIED CARD OF 'chirographlaw.SlotsRooted'. -/
def slotsRootedCard : Claim7 := { stood := { row := slotsRootedRow, standIns := [], harness := (true, "4f60bef23907c738bf59afedf0dc2b38a9a625d4ebe29c4f0eea8471663735f1"), looks := false }, kinds := [], alts := [], laidByText := true, laidKinds := [.data], laidTests := true, laidLooks := .later }
def SlotsRootedCardSaid : Prop := Claim7.holds Tryd.pinned (.plain (OpenSpec.ofChange slotsRootedSpec)) slotsRootedCard

/-- THE TIED CARD OF 'chirographlaw.SlotsCovers'. -/
def slotsCoversCard : Claim7 := { stood := { row := slotsCoversRow, standIns := [], harness := (true, "4f60bef23907c738bf59afedf0dc2b38a9a625d4ebe29c4f0eea8471663735f1"), looks := false }, kinds := [], alts := [], laidByText := true, laidKinds := [.data], laidTests := true, laidLooks := .later }
def SlotsCoversCardSaid : Prop := Claim7.holds Tryd.pinned (.plain (OpenSpec.ofChange slotsCoversSpec)) slotsCoversCard

/-- THE SECOND FORM's CARD OF 'chirographlaw.SlotsRooted'. -/
def slotsRootedUptoCard : Claim7 := { stood := { row := slotsRootedUptoRow, standIns := [], harness := (true, "4f60bef23907c738bf59afedf0dc2b38a9a625d4ebe29c4f0eea8471663735f1"), looks := false }, kinds := [], alts := [], laidByText := true, laidKinds := [.data], laidTests := true, laidLooks := .later }
def SlotsRootedUptoCardSaid : Prop := Claim7.holds Tryd.pinned (.plain (OpenSpec.upto slotsRootedSpec)) slotsRootedUptoCard

/-- THE SECOND FORM's CARD OF 'chirographlaw.SlotsCovers'. -/
def slotsCoversUptoCard : Claim7 := { stood := { row := slotsCoversUptoRow, standIns := [], harness := (true, "4f60bef23907c738bf59afedf0dc2b38a9a625d4ebe29c4f0eea8471663735f1"), looks := false }, kinds := [], alts := [], laidByText := true, laidKinds := [.data], laidTests := true, laidLooks := .later }
def SlotsCoversUptoCardSaid : Prop := Claim7.holds Tryd.pinned (.plain (OpenSpec.upto slotsCoversSpec)) slotsCoversUptoCard
end Rows
end Go.Proofs.YteilidpbnndnpaaDoor
