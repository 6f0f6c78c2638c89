/-
  DERIVED. GIVEN WITH THE SEED: THE CARDS: each row of YtfekkhinjdmcbaaDoorRows.lean that lists a variable, with what it lists TIED to the program's text (the seventh form; the later family's looks); each row that meets fmt, with fmt's text TOLD by the authors' own Lean function (tested against real Go, not proved from fmt's source: count such statements apart). THE CARD IS WHAT COUNTS. Prove the row's statement (the work); the ties are given (YtfekkhinjdmcbaaDoorTie.lean); close each card by the builder's one call (the guide's Derived/Test/ToyasCard.lean, 'card_holds'). Laid BY PROGRAM, IN A SANDBOX (cutbox-door.mjs). By AI agents, Wed Nov 11 2026. No macro, syntax, notation, axiom, sorry.
-/
import Derived.Test.YtfekkhinjdmcbaaDoorRows
import GoSem.ClaimSeven
namespace Go.Proofs.YtfekkhinjdmcbaaDoor
namespace Rows

/-- THE TIED CARD OF 'chirographlaw.ValueChecks'. -/
def valueChecksCard : Claim7 := { stood := { row := valueChecksRow, standIns := [], harness := (true, "747aabb8cdde7ad77b7f7cb6b876bc291aaa7ea89ded08b169144172a6d792e8"), looks := false }, kinds := [], alts := [], laidByText := true, laidKinds := [.data, .pinned], laidTests := true, laidLooks := .later }
def ValueChecksCardSaid : Prop := Claim7.holds Tryd.pinned (.plain (OpenSpec.ofChange valueChecksSpec)) valueChecksCard

/-- THE TIED CARD OF 'chirographlaw.ValueCompares'. -/
def valueComparesCard : Claim7 := { stood := { row := valueComparesRow, standIns := [], harness := (true, "747aabb8cdde7ad77b7f7cb6b876bc291aaa7ea89ded08b169144172a6d792e8"), looks := false }, kinds := [], alts := [], laidByText := true, laidKinds := [.data, .pinned], laidTests := true, laidLooks := .later }
def ValueComparesCardSaid : Prop := Claim7.holds Tryd.pinned (.plain (OpenSpec.ofChange valueComparesSpec)) valueComparesCard

/-- THE TIED CARD OF 'chirographlaw.ValueEquals'. -/
def valueEqualsCard : Claim7 := { stood := { row := valueEqualsRow, standIns := [], harness := (true, "747aabb8cdde7ad77b7f7cb6b876bc291aaa7ea89ded08b169144172a6d792e8"), looks := false }, kinds := [], alts := [], laidByText := true, laidKinds := [.data, .pinned], laidTests := true, laidLooks := .later }
def ValueEqualsCardSaid : Prop := Claim7.holds Tryd.pinned (.plain (OpenSpec.ofChange valueEqualsSpec)) valueEqualsCard

/-- THE TIED CARD OF 'chirographlaw.ValueLess'. -/
def valueLessCard : Claim7 := { stood := { row := valueLessRow, standIns := [], harness := (true, "747aabb8cdde7ad77b7f7cb6b876bc291aaa7ea89ded08b169144172a6d792e8"), looks := false }, kinds := [], alts := [], laidByText := true, laidKinds := [.data, .pinned], laidTests := true, laidLooks := .later }
def ValueLessCardSaid : Prop := Claim7.holds Tryd.pinned (.plain (OpenSpec.ofChange valueLessSpec)) valueLessCard

/-- THE TIED CARD OF 'chirographlaw.CodeEncodes'. -/
def codeEncodesCard : Claim7 := { stood := { row := codeEncodesRow, standIns := [], harness := (true, "747aabb8cdde7ad77b7f7cb6b876bc291aaa7ea89ded08b169144172a6d792e8"), looks := false }, kinds := [], alts := [], laidByText := true, laidKinds := [.data, .pinned], laidTests := true, laidLooks := .later }
def CodeEncodesCardSaid : Prop := Claim7.holds Tryd.pinned (.plain (OpenSpec.ofChange codeEncodesSpec)) codeEncodesCard

/-- THE TIED CARD OF 'chirographlaw.CodeDecodes'. -/
def codeDecodesCard : Claim7 := { stood := { row := codeDecodesRow, standIns := [], harness := (true, "747aabb8cdde7ad77b7f7cb6b876bc291aaa7ea89ded08b169144172a6d792e8"), looks := false }, kinds := [], alts := [], laidByText := true, laidKinds := [.data, .pinned], laidTests := true, laidLooks := .later }
def CodeDecodesCardSaid : Prop := Claim7.holds Tryd.pinned (.plain (OpenSpec.ofChange codeDecodesSpec)) codeDecodesCard

/-- THE TIED CARD OF 'chirographlaw.WireTells'. -/
def wireTellsCard : Claim7 := { stood := { row := wireTellsRow, standIns := [], harness := (true, "747aabb8cdde7ad77b7f7cb6b876bc291aaa7ea89ded08b169144172a6d792e8"), looks := false }, kinds := [], alts := [], laidByText := true, laidKinds := [.data, .pinned], laidTests := true, laidLooks := .later }
def WireTellsCardSaid : Prop := Claim7.holds Tryd.pinned (.plain (OpenSpec.ofChange wireTellsSpec)) wireTellsCard

/-- THE TIED CARD OF 'chirographlaw.WireTold'. -/
def wireToldCard : Claim7 := { stood := { row := wireToldRow, standIns := [], harness := (true, "747aabb8cdde7ad77b7f7cb6b876bc291aaa7ea89ded08b169144172a6d792e8"), looks := false }, kinds := [], alts := [], laidByText := true, laidKinds := [.data, .pinned], laidTests := true, laidLooks := .later }
def WireToldCardSaid : Prop := Claim7.holds Tryd.pinned (.plain (OpenSpec.ofChange wireToldSpec)) wireToldCard

/-- THE TIED CARD OF 'chirographlaw.AuditReceipts'. -/
def auditReceiptsCard : Claim7 := { stood := { row := auditReceiptsRow, standIns := [], harness := (true, "747aabb8cdde7ad77b7f7cb6b876bc291aaa7ea89ded08b169144172a6d792e8"), looks := false }, kinds := [], alts := [], laidByText := true, laidKinds := [.data], laidTests := true, laidLooks := .later }
def AuditReceiptsCardSaid : Prop := Claim7.holds Tryd.pinned (.plain (OpenSpec.ofChange auditReceiptsSpec)) auditReceiptsCard

/-- THE TIED CARD OF 'chirographlaw.AuditTells'. -/
def auditTellsCard : Claim7 := { stood := { row := auditTellsRow, standIns := [], harness := (true, "747aabb8cdde7ad77b7f7cb6b876bc291aaa7ea89ded08b169144172a6d792e8"), looks := false }, kinds := [], alts := [], laidByText := true, laidKinds := [.data], laidTests := true, laidLooks := .later }
def AuditTellsCardSaid : Prop := Claim7.holds Tryd.pinned (.plain (OpenSpec.ofChange auditTellsSpec)) auditTellsCard

/-- THE TIED CARD OF 'chirographlaw.AuditEntries'. -/
def auditEntriesCard : Claim7 := { stood := { row := auditEntriesRow, standIns := [], harness := (true, "747aabb8cdde7ad77b7f7cb6b876bc291aaa7ea89ded08b169144172a6d792e8"), looks := false }, kinds := [], alts := [], laidByText := true, laidKinds := [.data], laidTests := true, laidLooks := .later }
def AuditEntriesCardSaid : Prop := Claim7.holds Tryd.pinned (.plain (OpenSpec.ofChange auditEntriesSpec)) auditEntriesCard

/-- THE SECOND FORM's CARD OF 'chirographlaw.ValueChecks'. -/
def valueChecksUptoCard : Claim7 := { stood := { row := valueChecksUptoRow, standIns := [], harness := (true, "747aabb8cdde7ad77b7f7cb6b876bc291aaa7ea89ded08b169144172a6d792e8"), looks := false }, kinds := [], alts := [], laidByText := true, laidKinds := [.data, .pinned], laidTests := true, laidLooks := .later }
def ValueChecksUptoCardSaid : Prop := Claim7.holds Tryd.pinned (.plain (OpenSpec.upto valueChecksSpec)) valueChecksUptoCard

/-- THE SECOND FORM's CARD OF 'chirographlaw.ValueCompares'. -/
def valueComparesUptoCard : Claim7 := { stood := { row := valueComparesUptoRow, standIns := [], harness := (true, "747aabb8cdde7ad77b7f7cb6b876bc291aaa7ea89ded08b169144172a6d792e8"), looks := false }, kinds := [], alts := [], laidByText := true, laidKinds := [.data, .pinned], laidTests := true, laidLooks := .later }
def ValueComparesUptoCardSaid : Prop := Claim7.holds Tryd.pinned (.plain (OpenSpec.upto valueComparesSpec)) valueComparesUptoCard

/-- THE SECOND FORM's CARD OF 'chirographlaw.ValueEquals'. -/
def valueEqualsUptoCard : Claim7 := { stood := { row := valueEqualsUptoRow, standIns := [], harness := (true, "747aabb8cdde7ad77b7f7cb6b876bc291aaa7ea89ded08b169144172a6d792e8"), looks := false }, kinds := [], alts := [], laidByText := true, laidKinds := [.data, .pinned], laidTests := true, laidLooks := .later }
def ValueEqualsUptoCardSaid : Prop := Claim7.holds Tryd.pinned (.plain (OpenSpec.upto valueEqualsSpec)) valueEqualsUptoCard

/-- THE SECOND FORM's CARD OF 'chirographlaw.ValueLess'. -/
def valueLessUptoCard : Claim7 := { stood := { row := valueLessUptoRow, standIns := [], harness := (true, "747aabb8cdde7ad77b7f7cb6b876bc291aaa7ea89ded08b169144172a6d792e8"), looks := false }, kinds := [], alts := [], laidByText := true, laidKinds := [.data, .pinned], laidTests := true, laidLooks := .later }
def ValueLessUptoCardSaid : Prop := Claim7.holds Tryd.pinned (.plain (OpenSpec.upto valueLessSpec)) valueLessUptoCard

/-- THE SECOND FORM's CARD OF 'chirographlaw.CodeEncodes'. -/
def codeEncodesUptoCard : Claim7 := { stood := { row := codeEncodesUptoRow, standIns := [], harness := (true, "747aabb8cdde7ad77b7f7cb6b876bc291aaa7ea89ded08b169144172a6d792e8"), looks := false }, kinds := [], alts := [], laidByText := true, laidKinds := [.data, .pinned], laidTests := true, laidLooks := .later }
def CodeEncodesUptoCardSaid : Prop := Claim7.holds Tryd.pinned (.plain (OpenSpec.upto codeEncodesSpec)) codeEncodesUptoCard

/-- THE SECOND FORM's CARD OF 'chirographlaw.CodeDecodes'. -/
def codeDecodesUptoCard : Claim7 := { stood := { row := codeDecodesUptoRow, standIns := [], harness := (true, "747aabb8cdde7ad77b7f7cb6b876bc291aaa7ea89ded08b169144172a6d792e8"), looks := false }, kinds := [], alts := [], laidByText := true, laidKinds := [.data, .pinned], laidTests := true, laidLooks := .later }
def CodeDecodesUptoCardSaid : Prop := Claim7.holds Tryd.pinned (.plain (OpenSpec.upto codeDecodesSpec)) codeDecodesUptoCard

/-- THE SECOND FORM's CARD OF 'chirographlaw.WireTells'. -/
def wireTellsUptoCard : Claim7 := { stood := { row := wireTellsUptoRow, standIns := [], harness := (true, "747aabb8cdde7ad77b7f7cb6b876bc291aaa7ea89ded08b169144172a6d792e8"), looks := false }, kinds := [], alts := [], laidByText := true, laidKinds := [.data, .pinned], laidTests := true, laidLooks := .later }
def WireTellsUptoCardSaid : Prop := Claim7.holds Tryd.pinned (.plain (OpenSpec.upto wireTellsSpec)) wireTellsUptoCard

/-- THE SECOND FORM's CARD OF 'chirographlaw.WireTold'. -/
def wireToldUptoCard : Claim7 := { stood := { row := wireToldUptoRow, standIns := [], harness := (true, "747aabb8cdde7ad77b7f7cb6b876bc291aaa7ea89ded08b169144172a6d792e8"), looks := false }, kinds := [], alts := [], laidByText := true, laidKinds := [.data, .pinned], laidTests := true, laidLooks := .later }
def WireToldUptoCardSaid : Prop := Claim7.holds Tryd.pinned (.plain (OpenSpec.upto wireToldSpec)) wireToldUptoCard

/-- THE SECOND FORM's CARD OF 'chirographlaw.AuditReceipts'. -/
def auditReceiptsUptoCard : Claim7 := { stood := { row := auditReceiptsUptoRow, standIns := [], harness := (true, "747aabb8cdde7ad77b7f7cb6b876bc291aaa7ea89ded08b169144172a6d792e8"), looks := false }, kinds := [], alts := [], laidByText := true, laidKinds := [.data], laidTests := true, laidLooks := .later }
def AuditReceiptsUptoCardSaid : Prop := Claim7.holds Tryd.pinned (.plain (OpenSpec.upto auditReceiptsSpec)) auditReceiptsUptoCard

/-- THE SECOND FORM's CARD OF 'chirographlaw.AuditTells'. -/
def auditTellsUptoCard : Claim7 := { stood := { row := auditTellsUptoRow, standIns := [], harness := (true, "747aabb8cdde7ad77b7f7cb6b876bc291aaa7ea89ded08b169144172a6d792e8"), looks := false }, kinds := [], alts := [], laidByText := true, laidKinds := [.data], laidTests := true, laidLooks := .later }
def AuditTellsUptoCardSaid : Prop := Claim7.holds Tryd.pinned (.plain (OpenSpec.upto auditTellsSpec)) auditTellsUptoCard

/-- THE SECOND FORM's CARD OF 'chirographlaw.AuditEntries'. -/
def auditEntriesUptoCard : Claim7 := { stood := { row := auditEntriesUptoRow, standIns := [], harness := (true, "747aabb8cdde7ad77b7f7cb6b876bc291aaa7ea89ded08b169144172a6d792e8"), looks := false }, kinds := [], alts := [], laidByText := true, laidKinds := [.data], laidTests := true, laidLooks := .later }
def AuditEntriesUptoCardSaid : Prop := Claim7.holds Tryd.pinned (.plain (OpenSpec.upto auditEntriesSpec)) auditEntriesUptoCard
end Rows
end Go.Proofs.YtfekkhinjdmcbaaDoor
