/-
  DERIVED. GIVEN WITH THE SEED: THE CARDS: each row of YthnkbagmaljjjaaDoorRows.lean that lists a variable, with what it lists TIED to the program's text (the seventh form; the later family's looks); each row that meets fmt, with fmt's text TOLD by the authors' own Lean function (tested against real Go, not proved from fmt's source: count such statements apart). THE CARD IS WHAT COUNTS. Prove the row's statement (the work); the ties are given (YthnkbagmaljjjaaDoorTie.lean); close each card by the builder's one call (the guide's Derived/Test/ToyasCard.lean, 'card_holds'). Laid BY PROGRAM, IN A SANDBOX (cutbox-door.mjs). By AI agents, Wed Nov 11 2026. No macro, syntax, notation, axiom, sorry.
-/
import Derived.Test.YthnkbagmaljjjaaDoorRows
import GoSem.ClaimSeven
namespace Go.Proofs.YthnkbagmaljjjaaDoor
namespace Rows

/-- THE TIED CARD OF 'chirographlaw.EvalEvals'. -/
def evalEvalsCard : Claim7 := { stood := { row := evalEvalsRow, standIns := [], harness := (true, "6b75d99f67f1dd77a0708ebad07b75a56e4ae3510d79aae7cd92fc0d2872479b"), looks := true }, kinds := [], alts := [], laidByText := true, laidKinds := [.data, .pinned], laidTests := true, laidLooks := .later }
def EvalEvalsCardSaid : Prop := Claim7.holds Tryd.pinned (.plain (OpenSpec.ofChange evalEvalsSpec)) evalEvalsCard

/-- THE TIED CARD OF 'chirographlaw.EvalFolds'. -/
def evalFoldsCard : Claim7 := { stood := { row := evalFoldsRow, standIns := [], harness := (true, "6b75d99f67f1dd77a0708ebad07b75a56e4ae3510d79aae7cd92fc0d2872479b"), looks := true }, kinds := [], alts := [], laidByText := true, laidKinds := [.data, .pinned], laidTests := true, laidLooks := .later }
def EvalFoldsCardSaid : Prop := Claim7.holds Tryd.pinned (.plain (OpenSpec.ofChange evalFoldsSpec)) evalFoldsCard

/-- THE TIED CARD OF 'chirographlaw.TableHolds'. -/
def tableHoldsCard : Claim7 := { stood := { row := tableHoldsRow, standIns := [], harness := (true, "6b75d99f67f1dd77a0708ebad07b75a56e4ae3510d79aae7cd92fc0d2872479b"), looks := true }, kinds := [], alts := [], laidByText := true, laidKinds := [.data, .pinned], laidTests := true, laidLooks := .later }
def TableHoldsCardSaid : Prop := Claim7.holds Tryd.pinned (.plain (OpenSpec.ofChange tableHoldsSpec)) tableHoldsCard

/-- THE SECOND FORM's CARD OF 'chirographlaw.EvalEvals'. -/
def evalEvalsUptoCard : Claim7 := { stood := { row := evalEvalsUptoRow, standIns := [], harness := (true, "6b75d99f67f1dd77a0708ebad07b75a56e4ae3510d79aae7cd92fc0d2872479b"), looks := true }, kinds := [], alts := [], laidByText := true, laidKinds := [.data, .pinned], laidTests := true, laidLooks := .later }
def EvalEvalsUptoCardSaid : Prop := Claim7.holds Tryd.pinned (.plain (OpenSpec.upto evalEvalsSpec)) evalEvalsUptoCard

/-- THE SECOND FORM's CARD OF 'chirographlaw.EvalFolds'. -/
def evalFoldsUptoCard : Claim7 := { stood := { row := evalFoldsUptoRow, standIns := [], harness := (true, "6b75d99f67f1dd77a0708ebad07b75a56e4ae3510d79aae7cd92fc0d2872479b"), looks := true }, kinds := [], alts := [], laidByText := true, laidKinds := [.data, .pinned], laidTests := true, laidLooks := .later }
def EvalFoldsUptoCardSaid : Prop := Claim7.holds Tryd.pinned (.plain (OpenSpec.upto evalFoldsSpec)) evalFoldsUptoCard

/-- THE SECOND FORM's CARD OF 'chirographlaw.TableHolds'. -/
def tableHoldsUptoCard : Claim7 := { stood := { row := tableHoldsUptoRow, standIns := [], harness := (true, "6b75d99f67f1dd77a0708ebad07b75a56e4ae3510d79aae7cd92fc0d2872479b"), looks := true }, kinds := [], alts := [], laidByText := true, laidKinds := [.data, .pinned], laidTests := true, laidLooks := .later }
def TableHoldsUptoCardSaid : Prop := Claim7.holds Tryd.pinned (.plain (OpenSpec.upto tableHoldsSpec)) tableHoldsUptoCard
end Rows
end Go.Proofs.YthnkbagmaljjjaaDoor
