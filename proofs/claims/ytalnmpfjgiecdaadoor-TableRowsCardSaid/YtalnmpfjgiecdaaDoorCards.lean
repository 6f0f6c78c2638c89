/-
  DERIVED. GIVEN WITH THE SEED: THE CARDS: each row of YtalnmpfjgiecdaaDoorRows.lean that lists a variable, with what it lists TIED to the program's text (the seventh form; the later family's looks); each row that meets fmt, with fmt's text TOLD by the authors' own Lean function (tested against real Go, not proved from fmt's source: count such statements apart). THE CARD IS WHAT COUNTS. Prove the row's statement (the work); the ties are given (YtalnmpfjgiecdaaDoorTie.lean); close each card by the builder's one call (the guide's Derived/Test/ToyasCard.lean, 'card_holds'). Laid BY PROGRAM, IN A SANDBOX (cutbox-door.mjs). By AI agents, Wed Nov 11 2026. No macro, syntax, notation, axiom, sorry.
-/
import Derived.Test.YtalnmpfjgiecdaaDoorRows
import GoSem.ClaimSeven
namespace Go.Proofs.YtalnmpfjgiecdaaDoor
namespace Rows

/-- THE TIED CARD OF 'chirographlaw.LexChecks'. -/
def lexChecksCard : Claim7 := { stood := { row := lexChecksRow, standIns := [], harness := (true, "2dc7ca3caf073bb9d941e237f998a4dbfaf814d3a0660e1fe0fa330c408fc772"), looks := false }, kinds := [], alts := [], laidByText := true, laidKinds := [.data, .pinned], laidTests := true, laidLooks := .later }
def LexChecksCardSaid : Prop := Claim7.holds Tryd.pinned (.plain (OpenSpec.ofChange lexChecksSpec)) lexChecksCard

/-- THE TIED CARD OF 'chirographlaw.ExprChecks'. -/
def exprChecksCard : Claim7 := { stood := { row := exprChecksRow, standIns := [], harness := (true, "2dc7ca3caf073bb9d941e237f998a4dbfaf814d3a0660e1fe0fa330c408fc772"), looks := false }, kinds := [], alts := [], laidByText := true, laidKinds := [.data, .pinned], laidTests := true, laidLooks := .later }
def ExprChecksCardSaid : Prop := Claim7.holds Tryd.pinned (.plain (OpenSpec.ofChange exprChecksSpec)) exprChecksCard

/-- THE TIED CARD OF 'chirographlaw.KindsColumns'. -/
def kindsColumnsCard : Claim7 := { stood := { row := kindsColumnsRow, standIns := [], harness := (true, "2dc7ca3caf073bb9d941e237f998a4dbfaf814d3a0660e1fe0fa330c408fc772"), looks := false }, kinds := [], alts := [], laidByText := true, laidKinds := [.data, .pinned], laidTests := true, laidLooks := .later }
def KindsColumnsCardSaid : Prop := Claim7.holds Tryd.pinned (.plain (OpenSpec.ofChange kindsColumnsSpec)) kindsColumnsCard

/-- THE TIED CARD OF 'chirographlaw.KindsRows'. -/
def kindsRowsCard : Claim7 := { stood := { row := kindsRowsRow, standIns := [], harness := (true, "2dc7ca3caf073bb9d941e237f998a4dbfaf814d3a0660e1fe0fa330c408fc772"), looks := false }, kinds := [], alts := [], laidByText := true, laidKinds := [.data, .pinned], laidTests := true, laidLooks := .later }
def KindsRowsCardSaid : Prop := Claim7.holds Tryd.pinned (.plain (OpenSpec.ofChange kindsRowsSpec)) kindsRowsCard

/-- THE TIED CARD OF 'chirographlaw.TableChecks'. -/
def tableChecksCard : Claim7 := { stood := { row := tableChecksRow, standIns := [], harness := (true, "2dc7ca3caf073bb9d941e237f998a4dbfaf814d3a0660e1fe0fa330c408fc772"), looks := false }, kinds := [], alts := [], laidByText := true, laidKinds := [.data, .pinned], laidTests := true, laidLooks := .later }
def TableChecksCardSaid : Prop := Claim7.holds Tryd.pinned (.plain (OpenSpec.ofChange tableChecksSpec)) tableChecksCard

/-- THE TIED CARD OF 'chirographlaw.TableRows'. -/
def tableRowsCard : Claim7 := { stood := { row := tableRowsRow, standIns := [], harness := (true, "2dc7ca3caf073bb9d941e237f998a4dbfaf814d3a0660e1fe0fa330c408fc772"), looks := false }, kinds := [], alts := [], laidByText := true, laidKinds := [.data, .pinned], laidTests := true, laidLooks := .later }
def TableRowsCardSaid : Prop := Claim7.holds Tryd.pinned (.plain (OpenSpec.ofChange tableRowsSpec)) tableRowsCard

/-- THE TIED CARD OF 'chirographlaw.TableInserts'. -/
def tableInsertsCard : Claim7 := { stood := { row := tableInsertsRow, standIns := [], harness := (true, "2dc7ca3caf073bb9d941e237f998a4dbfaf814d3a0660e1fe0fa330c408fc772"), looks := false }, kinds := [], alts := [], laidByText := true, laidKinds := [.data, .pinned], laidTests := true, laidLooks := .later }
def TableInsertsCardSaid : Prop := Claim7.holds Tryd.pinned (.plain (OpenSpec.ofChange tableInsertsSpec)) tableInsertsCard

/-- THE SECOND FORM's CARD OF 'chirographlaw.LexChecks'. -/
def lexChecksUptoCard : Claim7 := { stood := { row := lexChecksUptoRow, standIns := [], harness := (true, "2dc7ca3caf073bb9d941e237f998a4dbfaf814d3a0660e1fe0fa330c408fc772"), looks := false }, kinds := [], alts := [], laidByText := true, laidKinds := [.data, .pinned], laidTests := true, laidLooks := .later }
def LexChecksUptoCardSaid : Prop := Claim7.holds Tryd.pinned (.plain (OpenSpec.upto lexChecksSpec)) lexChecksUptoCard

/-- THE SECOND FORM's CARD OF 'chirographlaw.ExprChecks'. -/
def exprChecksUptoCard : Claim7 := { stood := { row := exprChecksUptoRow, standIns := [], harness := (true, "2dc7ca3caf073bb9d941e237f998a4dbfaf814d3a0660e1fe0fa330c408fc772"), looks := false }, kinds := [], alts := [], laidByText := true, laidKinds := [.data, .pinned], laidTests := true, laidLooks := .later }
def ExprChecksUptoCardSaid : Prop := Claim7.holds Tryd.pinned (.plain (OpenSpec.upto exprChecksSpec)) exprChecksUptoCard

/-- THE SECOND FORM's CARD OF 'chirographlaw.KindsColumns'. -/
def kindsColumnsUptoCard : Claim7 := { stood := { row := kindsColumnsUptoRow, standIns := [], harness := (true, "2dc7ca3caf073bb9d941e237f998a4dbfaf814d3a0660e1fe0fa330c408fc772"), looks := false }, kinds := [], alts := [], laidByText := true, laidKinds := [.data, .pinned], laidTests := true, laidLooks := .later }
def KindsColumnsUptoCardSaid : Prop := Claim7.holds Tryd.pinned (.plain (OpenSpec.upto kindsColumnsSpec)) kindsColumnsUptoCard

/-- THE SECOND FORM's CARD OF 'chirographlaw.KindsRows'. -/
def kindsRowsUptoCard : Claim7 := { stood := { row := kindsRowsUptoRow, standIns := [], harness := (true, "2dc7ca3caf073bb9d941e237f998a4dbfaf814d3a0660e1fe0fa330c408fc772"), looks := false }, kinds := [], alts := [], laidByText := true, laidKinds := [.data, .pinned], laidTests := true, laidLooks := .later }
def KindsRowsUptoCardSaid : Prop := Claim7.holds Tryd.pinned (.plain (OpenSpec.upto kindsRowsSpec)) kindsRowsUptoCard

/-- THE SECOND FORM's CARD OF 'chirographlaw.TableChecks'. -/
def tableChecksUptoCard : Claim7 := { stood := { row := tableChecksUptoRow, standIns := [], harness := (true, "2dc7ca3caf073bb9d941e237f998a4dbfaf814d3a0660e1fe0fa330c408fc772"), looks := false }, kinds := [], alts := [], laidByText := true, laidKinds := [.data, .pinned], laidTests := true, laidLooks := .later }
def TableChecksUptoCardSaid : Prop := Claim7.holds Tryd.pinned (.plain (OpenSpec.upto tableChecksSpec)) tableChecksUptoCard

/-- THE SECOND FORM's CARD OF 'chirographlaw.TableRows'. -/
def tableRowsUptoCard : Claim7 := { stood := { row := tableRowsUptoRow, standIns := [], harness := (true, "2dc7ca3caf073bb9d941e237f998a4dbfaf814d3a0660e1fe0fa330c408fc772"), looks := false }, kinds := [], alts := [], laidByText := true, laidKinds := [.data, .pinned], laidTests := true, laidLooks := .later }
def TableRowsUptoCardSaid : Prop := Claim7.holds Tryd.pinned (.plain (OpenSpec.upto tableRowsSpec)) tableRowsUptoCard

/-- THE SECOND FORM's CARD OF 'chirographlaw.TableInserts'. -/
def tableInsertsUptoCard : Claim7 := { stood := { row := tableInsertsUptoRow, standIns := [], harness := (true, "2dc7ca3caf073bb9d941e237f998a4dbfaf814d3a0660e1fe0fa330c408fc772"), looks := false }, kinds := [], alts := [], laidByText := true, laidKinds := [.data, .pinned], laidTests := true, laidLooks := .later }
def TableInsertsUptoCardSaid : Prop := Claim7.holds Tryd.pinned (.plain (OpenSpec.upto tableInsertsSpec)) tableInsertsUptoCard
end Rows
end Go.Proofs.YtalnmpfjgiecdaaDoor
