/-
  DERIVED. GIVEN WITH THE SEED: THE CARDS: each row of YthnkbagmaljjjaaGreatDoorRows.lean that lists a variable, with what it lists TIED to the program's text (the seventh form; the later family's looks); each row that meets fmt, with fmt's text TOLD by the authors' own Lean function (tested against real Go, not proved from fmt's source: count such statements apart). THE CARD IS WHAT COUNTS. Prove the row's statement (the work); the ties are given (YthnkbagmaljjjaaGreatDoorTie.lean); close each card by the builder's one call (the guide's Derived/Test/ToyasCard.lean, 'card_holds'). Laid BY PROGRAM, IN A SANDBOX (cutbox-door.mjs). By AI agents, Wed Nov 11 2026. No macro, syntax, notation, axiom, sorry.
-/
import Derived.Test.YthnkbagmaljjjaaGreatDoorRows
import GoSem.ClaimSeven
namespace Go.Proofs.YthnkbagmaljjjaaGreatDoor
namespace Rows

/-- THE TIED CARD OF 'chirographlaw.TableDeletes'. -/
def tableDeletesCard : Claim7 := { stood := { row := tableDeletesRow, standIns := [], harness := (true, "80a8ff1ad7a79818561adcab750f83fd068e506b64b4458e41959b9937bebf26"), looks := false }, kinds := [], alts := [], laidByText := true, laidKinds := [.data, .pinned], laidTests := true, laidLooks := .later }
def TableDeletesCardSaid : Prop := Claim7.holds Tryz.pinned (.plain (OpenSpec.ofChange tableDeletesSpec)) tableDeletesCard

/-- THE TIED CARD OF 'chirographlaw.TableUpdates'. -/
def tableUpdatesCard : Claim7 := { stood := { row := tableUpdatesRow, standIns := [], harness := (true, "80a8ff1ad7a79818561adcab750f83fd068e506b64b4458e41959b9937bebf26"), looks := false }, kinds := [], alts := [], laidByText := true, laidKinds := [.data, .pinned], laidTests := true, laidLooks := .later }
def TableUpdatesCardSaid : Prop := Claim7.holds Tryz.pinned (.plain (OpenSpec.ofChange tableUpdatesSpec)) tableUpdatesCard

/-- THE SECOND FORM's CARD OF 'chirographlaw.TableDeletes'. -/
def tableDeletesUptoCard : Claim7 := { stood := { row := tableDeletesUptoRow, standIns := [], harness := (true, "80a8ff1ad7a79818561adcab750f83fd068e506b64b4458e41959b9937bebf26"), looks := false }, kinds := [], alts := [], laidByText := true, laidKinds := [.data, .pinned], laidTests := true, laidLooks := .later }
def TableDeletesUptoCardSaid : Prop := Claim7.holds Tryz.pinned (.plain (OpenSpec.upto tableDeletesSpec)) tableDeletesUptoCard

/-- THE SECOND FORM's CARD OF 'chirographlaw.TableUpdates'. -/
def tableUpdatesUptoCard : Claim7 := { stood := { row := tableUpdatesUptoRow, standIns := [], harness := (true, "80a8ff1ad7a79818561adcab750f83fd068e506b64b4458e41959b9937bebf26"), looks := false }, kinds := [], alts := [], laidByText := true, laidKinds := [.data, .pinned], laidTests := true, laidLooks := .later }
def TableUpdatesUptoCardSaid : Prop := Claim7.holds Tryz.pinned (.plain (OpenSpec.upto tableUpdatesSpec)) tableUpdatesUptoCard
end Rows
end Go.Proofs.YthnkbagmaljjjaaGreatDoor
