/-
  DERIVED. GIVEN WITH THE SEED: THE CARDS: each row of YtpgimlllchibnaaDoorRows.lean that lists a variable, with what it lists TIED to the program's text (the seventh form; the later family's looks); each row that meets fmt, with fmt's text TOLD by the authors' own Lean function (tested against real Go, not proved from fmt's source: count such statements apart). THE CARD IS WHAT COUNTS. Prove the row's statement (the work); the ties are given (YtpgimlllchibnaaDoorTie.lean); close each card by the builder's one call (the guide's Derived/Test/ToyasCard.lean, 'card_holds'). Laid BY PROGRAM, IN A SANDBOX (cutbox-door.mjs). By AI agents, Wed Nov 11 2026. No macro, syntax, notation, axiom, sorry.
-/
import Derived.Test.YtpgimlllchibnaaDoorRows
import GoSem.ClaimSeven
namespace Go.Proofs.YtpgimlllchibnaaDoor
namespace Rows

/-- THE TIED CARD OF 'chirographlaw.DeedChecks'. -/
def deedChecksCard : Claim7 := { stood := { row := deedChecksRow, standIns := [], harness := (true, "8adedadecc3607415de1143f00f85fe43b0dba708bfbeed51416cc1c1d60c6ad"), looks := false }, kinds := [], alts := [], laidByText := true, laidKinds := [.data, .pinned], laidTests := true, laidLooks := .later }
def DeedChecksCardSaid : Prop := Claim7.holds Tryd.pinned (.plain (OpenSpec.ofChange deedChecksSpec)) deedChecksCard

/-- THE TIED CARD OF 'chirographlaw.DeedPlaces'. -/
def deedPlacesCard : Claim7 := { stood := { row := deedPlacesRow, standIns := [], harness := (true, "8adedadecc3607415de1143f00f85fe43b0dba708bfbeed51416cc1c1d60c6ad"), looks := false }, kinds := [], alts := [], laidByText := true, laidKinds := [.data, .pinned], laidTests := true, laidLooks := .later }
def DeedPlacesCardSaid : Prop := Claim7.holds Tryd.pinned (.plain (OpenSpec.ofChange deedPlacesSpec)) deedPlacesCard

/-- THE SECOND FORM's CARD OF 'chirographlaw.DeedChecks'. -/
def deedChecksUptoCard : Claim7 := { stood := { row := deedChecksUptoRow, standIns := [], harness := (true, "8adedadecc3607415de1143f00f85fe43b0dba708bfbeed51416cc1c1d60c6ad"), looks := false }, kinds := [], alts := [], laidByText := true, laidKinds := [.data, .pinned], laidTests := true, laidLooks := .later }
def DeedChecksUptoCardSaid : Prop := Claim7.holds Tryd.pinned (.plain (OpenSpec.upto deedChecksSpec)) deedChecksUptoCard

/-- THE SECOND FORM's CARD OF 'chirographlaw.DeedPlaces'. -/
def deedPlacesUptoCard : Claim7 := { stood := { row := deedPlacesUptoRow, standIns := [], harness := (true, "8adedadecc3607415de1143f00f85fe43b0dba708bfbeed51416cc1c1d60c6ad"), looks := false }, kinds := [], alts := [], laidByText := true, laidKinds := [.data, .pinned], laidTests := true, laidLooks := .later }
def DeedPlacesUptoCardSaid : Prop := Claim7.holds Tryd.pinned (.plain (OpenSpec.upto deedPlacesSpec)) deedPlacesUptoCard
end Rows
end Go.Proofs.YtpgimlllchibnaaDoor
