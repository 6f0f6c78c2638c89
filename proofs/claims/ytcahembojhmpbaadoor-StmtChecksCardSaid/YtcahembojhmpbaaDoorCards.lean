/-
  DERIVED. GIVEN WITH THE SEED: THE CARDS: each row of YtcahembojhmpbaaDoorRows.lean that lists a variable, with what it lists TIED to the program's text (the seventh form; the later family's looks); each row that meets fmt, with fmt's text TOLD by the authors' own Lean function (tested against real Go, not proved from fmt's source: count such statements apart). THE CARD IS WHAT COUNTS. Prove the row's statement (the work); the ties are given (YtcahembojhmpbaaDoorTie.lean); close each card by the builder's one call (the guide's Derived/Test/ToyasCard.lean, 'card_holds'). Laid BY PROGRAM, IN A SANDBOX (cutbox-door.mjs). By AI agents, Wed Nov 11 2026. No macro, syntax, notation, axiom, sorry.
-/
import Derived.Test.YtcahembojhmpbaaDoorRows
import GoSem.ClaimSeven
namespace Go.Proofs.YtcahembojhmpbaaDoor
namespace Rows

/-- THE TIED CARD OF 'chirographlaw.KindsOf'. -/
def kindsOfCard : Claim7 := { stood := { row := kindsOfRow, standIns := [], harness := (true, "6c4b7ce690a44a1c415ec910f8f4a9be28c0ebc4d5eca4fe33d5f35979cf412f"), looks := false }, kinds := [], alts := [], laidByText := true, laidKinds := [.data, .pinned], laidTests := true, laidLooks := .later }
def KindsOfCardSaid : Prop := Claim7.holds Tryd.pinned (.plain (OpenSpec.ofChange kindsOfSpec)) kindsOfCard

/-- THE TIED CARD OF 'chirographlaw.TableConditions'. -/
def tableConditionsCard : Claim7 := { stood := { row := tableConditionsRow, standIns := [], harness := (true, "6c4b7ce690a44a1c415ec910f8f4a9be28c0ebc4d5eca4fe33d5f35979cf412f"), looks := false }, kinds := [], alts := [], laidByText := true, laidKinds := [.data, .pinned], laidTests := true, laidLooks := .later }
def TableConditionsCardSaid : Prop := Claim7.holds Tryd.pinned (.plain (OpenSpec.ofChange tableConditionsSpec)) tableConditionsCard

/-- THE TIED CARD OF 'chirographlaw.QueryChecks'. -/
def queryChecksCard : Claim7 := { stood := { row := queryChecksRow, standIns := [], harness := (true, "6c4b7ce690a44a1c415ec910f8f4a9be28c0ebc4d5eca4fe33d5f35979cf412f"), looks := false }, kinds := [], alts := [], laidByText := true, laidKinds := [.data, .pinned], laidTests := true, laidLooks := .later }
def QueryChecksCardSaid : Prop := Claim7.holds Tryd.pinned (.plain (OpenSpec.ofChange queryChecksSpec)) queryChecksCard

/-- THE TIED CARD OF 'chirographlaw.StmtChecks'. -/
def stmtChecksCard : Claim7 := { stood := { row := stmtChecksRow, standIns := [], harness := (true, "6c4b7ce690a44a1c415ec910f8f4a9be28c0ebc4d5eca4fe33d5f35979cf412f"), looks := false }, kinds := [], alts := [], laidByText := true, laidKinds := [.data, .pinned], laidTests := true, laidLooks := .later }
def StmtChecksCardSaid : Prop := Claim7.holds Tryd.pinned (.plain (OpenSpec.ofChange stmtChecksSpec)) stmtChecksCard

/-- THE TIED CARD OF 'chirographlaw.SpanRanges'. -/
def spanRangesCard : Claim7 := { stood := { row := spanRangesRow, standIns := [], harness := (true, "6c4b7ce690a44a1c415ec910f8f4a9be28c0ebc4d5eca4fe33d5f35979cf412f"), looks := false }, kinds := [], alts := [], laidByText := true, laidKinds := [.data, .pinned], laidTests := true, laidLooks := .later }
def SpanRangesCardSaid : Prop := Claim7.holds Tryd.pinned (.plain (OpenSpec.ofChange spanRangesSpec)) spanRangesCard

/-- THE SECOND FORM's CARD OF 'chirographlaw.KindsOf'. -/
def kindsOfUptoCard : Claim7 := { stood := { row := kindsOfUptoRow, standIns := [], harness := (true, "6c4b7ce690a44a1c415ec910f8f4a9be28c0ebc4d5eca4fe33d5f35979cf412f"), looks := false }, kinds := [], alts := [], laidByText := true, laidKinds := [.data, .pinned], laidTests := true, laidLooks := .later }
def KindsOfUptoCardSaid : Prop := Claim7.holds Tryd.pinned (.plain (OpenSpec.upto kindsOfSpec)) kindsOfUptoCard

/-- THE SECOND FORM's CARD OF 'chirographlaw.TableConditions'. -/
def tableConditionsUptoCard : Claim7 := { stood := { row := tableConditionsUptoRow, standIns := [], harness := (true, "6c4b7ce690a44a1c415ec910f8f4a9be28c0ebc4d5eca4fe33d5f35979cf412f"), looks := false }, kinds := [], alts := [], laidByText := true, laidKinds := [.data, .pinned], laidTests := true, laidLooks := .later }
def TableConditionsUptoCardSaid : Prop := Claim7.holds Tryd.pinned (.plain (OpenSpec.upto tableConditionsSpec)) tableConditionsUptoCard

/-- THE SECOND FORM's CARD OF 'chirographlaw.QueryChecks'. -/
def queryChecksUptoCard : Claim7 := { stood := { row := queryChecksUptoRow, standIns := [], harness := (true, "6c4b7ce690a44a1c415ec910f8f4a9be28c0ebc4d5eca4fe33d5f35979cf412f"), looks := false }, kinds := [], alts := [], laidByText := true, laidKinds := [.data, .pinned], laidTests := true, laidLooks := .later }
def QueryChecksUptoCardSaid : Prop := Claim7.holds Tryd.pinned (.plain (OpenSpec.upto queryChecksSpec)) queryChecksUptoCard

/-- THE SECOND FORM's CARD OF 'chirographlaw.StmtChecks'. -/
def stmtChecksUptoCard : Claim7 := { stood := { row := stmtChecksUptoRow, standIns := [], harness := (true, "6c4b7ce690a44a1c415ec910f8f4a9be28c0ebc4d5eca4fe33d5f35979cf412f"), looks := false }, kinds := [], alts := [], laidByText := true, laidKinds := [.data, .pinned], laidTests := true, laidLooks := .later }
def StmtChecksUptoCardSaid : Prop := Claim7.holds Tryd.pinned (.plain (OpenSpec.upto stmtChecksSpec)) stmtChecksUptoCard

/-- THE SECOND FORM's CARD OF 'chirographlaw.SpanRanges'. -/
def spanRangesUptoCard : Claim7 := { stood := { row := spanRangesUptoRow, standIns := [], harness := (true, "6c4b7ce690a44a1c415ec910f8f4a9be28c0ebc4d5eca4fe33d5f35979cf412f"), looks := false }, kinds := [], alts := [], laidByText := true, laidKinds := [.data, .pinned], laidTests := true, laidLooks := .later }
def SpanRangesUptoCardSaid : Prop := Claim7.holds Tryd.pinned (.plain (OpenSpec.upto spanRangesSpec)) spanRangesUptoCard
end Rows
end Go.Proofs.YtcahembojhmpbaaDoor
