/-
  DERIVED. GIVEN WITH THE SEED: THE CARDS: each row of YtoepdjccgngpdaaDoorRows.lean that lists a variable, with what it lists TIED to the program's text (the seventh form; the later family's looks); each row that meets fmt, with fmt's text TOLD by the authors' own Lean function (tested against real Go, not proved from fmt's source: count such statements apart). THE CARD IS WHAT COUNTS. Prove the row's statement (the work); the ties are given (YtoepdjccgngpdaaDoorTie.lean); close each card by the builder's one call (the guide's Derived/Test/ToyasCard.lean, 'card_holds'). Laid BY PROGRAM, IN A SANDBOX (cutbox-door.mjs). By AI agents, Wed Nov 11 2026. No macro, syntax, notation, axiom, sorry.
-/
import Derived.Test.YtoepdjccgngpdaaDoorRows
import GoSem.ClaimSeven
namespace Go.Proofs.YtoepdjccgngpdaaDoor
namespace Rows

/-- THE TIED CARD OF 'chirographlaw.SumSums'. -/
def sumSumsCard : Claim7 := { stood := { row := sumSumsRow, standIns := [], harness := (true, "7ca841dea695e33e49f35edf86b435784eaec940471c46f273be3d634f91ccd9"), looks := false }, kinds := [], alts := [], laidByText := true, laidKinds := [.data], laidTests := true, laidLooks := .later }
def SumSumsCardSaid : Prop := Claim7.holds Tryd.pinned (.plain (OpenSpec.ofChange sumSumsSpec)) sumSumsCard

/-- THE TIED CARD OF 'chirographlaw.SumAdds'. -/
def sumAddsCard : Claim7 := { stood := { row := sumAddsRow, standIns := [], harness := (true, "7ca841dea695e33e49f35edf86b435784eaec940471c46f273be3d634f91ccd9"), looks := false }, kinds := [], alts := [], laidByText := true, laidKinds := [.data], laidTests := true, laidLooks := .later }
def SumAddsCardSaid : Prop := Claim7.holds Tryd.pinned (.plain (OpenSpec.ofChange sumAddsSpec)) sumAddsCard

/-- THE TIED CARD OF 'chirographlaw.SumEnds'. -/
def sumEndsCard : Claim7 := { stood := { row := sumEndsRow, standIns := [], harness := (true, "7ca841dea695e33e49f35edf86b435784eaec940471c46f273be3d634f91ccd9"), looks := false }, kinds := [], alts := [], laidByText := true, laidKinds := [.data], laidTests := true, laidLooks := .later }
def SumEndsCardSaid : Prop := Claim7.holds Tryd.pinned (.plain (OpenSpec.ofChange sumEndsSpec)) sumEndsCard

/-- THE TIED CARD OF 'chirographlaw.MacSums'. -/
def macSumsCard : Claim7 := { stood := { row := macSumsRow, standIns := [], harness := (true, "7ca841dea695e33e49f35edf86b435784eaec940471c46f273be3d634f91ccd9"), looks := false }, kinds := [], alts := [], laidByText := true, laidKinds := [.data], laidTests := true, laidLooks := .later }
def MacSumsCardSaid : Prop := Claim7.holds Tryd.pinned (.plain (OpenSpec.ofChange macSumsSpec)) macSumsCard

/-- THE TIED CARD OF 'chirographlaw.OracleSalts'. -/
def oracleSaltsCard : Claim7 := { stood := { row := oracleSaltsRow, standIns := [], harness := (true, "7ca841dea695e33e49f35edf86b435784eaec940471c46f273be3d634f91ccd9"), looks := false }, kinds := [], alts := [], laidByText := true, laidKinds := [.data], laidTests := true, laidLooks := .later }
def OracleSaltsCardSaid : Prop := Claim7.holds Tryd.pinned (.plain (OpenSpec.ofChange oracleSaltsSpec)) oracleSaltsCard

/-- THE TIED CARD OF 'chirographlaw.OracleDigests'. -/
def oracleDigestsCard : Claim7 := { stood := { row := oracleDigestsRow, standIns := [], harness := (true, "7ca841dea695e33e49f35edf86b435784eaec940471c46f273be3d634f91ccd9"), looks := false }, kinds := [], alts := [], laidByText := true, laidKinds := [.data], laidTests := true, laidLooks := .later }
def OracleDigestsCardSaid : Prop := Claim7.holds Tryd.pinned (.plain (OpenSpec.ofChange oracleDigestsSpec)) oracleDigestsCard

/-- THE TIED CARD OF 'chirographlaw.SlotsLeaves'. -/
def slotsLeavesCard : Claim7 := { stood := { row := slotsLeavesRow, standIns := [], harness := (true, "7ca841dea695e33e49f35edf86b435784eaec940471c46f273be3d634f91ccd9"), looks := false }, kinds := [], alts := [], laidByText := true, laidKinds := [.data], laidTests := true, laidLooks := .later }
def SlotsLeavesCardSaid : Prop := Claim7.holds Tryd.pinned (.plain (OpenSpec.ofChange slotsLeavesSpec)) slotsLeavesCard

/-- THE TIED CARD OF 'chirographlaw.AuditTells'. -/
def auditTellsCard : Claim7 := { stood := { row := auditTellsRow, standIns := [], harness := (true, "7ca841dea695e33e49f35edf86b435784eaec940471c46f273be3d634f91ccd9"), looks := false }, kinds := [], alts := [], laidByText := true, laidKinds := [.data], laidTests := true, laidLooks := .later }
def AuditTellsCardSaid : Prop := Claim7.holds Tryd.pinned (.plain (OpenSpec.ofChange auditTellsSpec)) auditTellsCard

/-- THE TIED CARD OF 'chirographlaw.AuditEntries'. -/
def auditEntriesCard : Claim7 := { stood := { row := auditEntriesRow, standIns := [], harness := (true, "7ca841dea695e33e49f35edf86b435784eaec940471c46f273be3d634f91ccd9"), looks := false }, kinds := [], alts := [], laidByText := true, laidKinds := [.data], laidTests := true, laidLooks := .later }
def AuditEntriesCardSaid : Prop := Claim7.holds Tryd.pinned (.plain (OpenSpec.ofChange auditEntriesSpec)) auditEntriesCard

/-- THE SECOND FORM's CARD OF 'chirographlaw.SumSums'. -/
def sumSumsUptoCard : Claim7 := { stood := { row := sumSumsUptoRow, standIns := [], harness := (true, "7ca841dea695e33e49f35edf86b435784eaec940471c46f273be3d634f91ccd9"), looks := false }, kinds := [], alts := [], laidByText := true, laidKinds := [.data], laidTests := true, laidLooks := .later }
def SumSumsUptoCardSaid : Prop := Claim7.holds Tryd.pinned (.plain (OpenSpec.upto sumSumsSpec)) sumSumsUptoCard

/-- THE SECOND FORM's CARD OF 'chirographlaw.SumAdds'. -/
def sumAddsUptoCard : Claim7 := { stood := { row := sumAddsUptoRow, standIns := [], harness := (true, "7ca841dea695e33e49f35edf86b435784eaec940471c46f273be3d634f91ccd9"), looks := false }, kinds := [], alts := [], laidByText := true, laidKinds := [.data], laidTests := true, laidLooks := .later }
def SumAddsUptoCardSaid : Prop := Claim7.holds Tryd.pinned (.plain (OpenSpec.upto sumAddsSpec)) sumAddsUptoCard

/-- THE SECOND FORM's CARD OF 'chirographlaw.SumEnds'. -/
def sumEndsUptoCard : Claim7 := { stood := { row := sumEndsUptoRow, standIns := [], harness := (true, "7ca841dea695e33e49f35edf86b435784eaec940471c46f273be3d634f91ccd9"), looks := false }, kinds := [], alts := [], laidByText := true, laidKinds := [.data], laidTests := true, laidLooks := .later }
def SumEndsUptoCardSaid : Prop := Claim7.holds Tryd.pinned (.plain (OpenSpec.upto sumEndsSpec)) sumEndsUptoCard

/-- THE SECOND FORM's CARD OF 'chirographlaw.MacSums'. -/
def macSumsUptoCard : Claim7 := { stood := { row := macSumsUptoRow, standIns := [], harness := (true, "7ca841dea695e33e49f35edf86b435784eaec940471c46f273be3d634f91ccd9"), looks := false }, kinds := [], alts := [], laidByText := true, laidKinds := [.data], laidTests := true, laidLooks := .later }
def MacSumsUptoCardSaid : Prop := Claim7.holds Tryd.pinned (.plain (OpenSpec.upto macSumsSpec)) macSumsUptoCard

/-- THE SECOND FORM's CARD OF 'chirographlaw.OracleSalts'. -/
def oracleSaltsUptoCard : Claim7 := { stood := { row := oracleSaltsUptoRow, standIns := [], harness := (true, "7ca841dea695e33e49f35edf86b435784eaec940471c46f273be3d634f91ccd9"), looks := false }, kinds := [], alts := [], laidByText := true, laidKinds := [.data], laidTests := true, laidLooks := .later }
def OracleSaltsUptoCardSaid : Prop := Claim7.holds Tryd.pinned (.plain (OpenSpec.upto oracleSaltsSpec)) oracleSaltsUptoCard

/-- THE SECOND FORM's CARD OF 'chirographlaw.OracleDigests'. -/
def oracleDigestsUptoCard : Claim7 := { stood := { row := oracleDigestsUptoRow, standIns := [], harness := (true, "7ca841dea695e33e49f35edf86b435784eaec940471c46f273be3d634f91ccd9"), looks := false }, kinds := [], alts := [], laidByText := true, laidKinds := [.data], laidTests := true, laidLooks := .later }
def OracleDigestsUptoCardSaid : Prop := Claim7.holds Tryd.pinned (.plain (OpenSpec.upto oracleDigestsSpec)) oracleDigestsUptoCard

/-- THE SECOND FORM's CARD OF 'chirographlaw.SlotsLeaves'. -/
def slotsLeavesUptoCard : Claim7 := { stood := { row := slotsLeavesUptoRow, standIns := [], harness := (true, "7ca841dea695e33e49f35edf86b435784eaec940471c46f273be3d634f91ccd9"), looks := false }, kinds := [], alts := [], laidByText := true, laidKinds := [.data], laidTests := true, laidLooks := .later }
def SlotsLeavesUptoCardSaid : Prop := Claim7.holds Tryd.pinned (.plain (OpenSpec.upto slotsLeavesSpec)) slotsLeavesUptoCard

/-- THE SECOND FORM's CARD OF 'chirographlaw.AuditTells'. -/
def auditTellsUptoCard : Claim7 := { stood := { row := auditTellsUptoRow, standIns := [], harness := (true, "7ca841dea695e33e49f35edf86b435784eaec940471c46f273be3d634f91ccd9"), looks := false }, kinds := [], alts := [], laidByText := true, laidKinds := [.data], laidTests := true, laidLooks := .later }
def AuditTellsUptoCardSaid : Prop := Claim7.holds Tryd.pinned (.plain (OpenSpec.upto auditTellsSpec)) auditTellsUptoCard

/-- THE SECOND FORM's CARD OF 'chirographlaw.AuditEntries'. -/
def auditEntriesUptoCard : Claim7 := { stood := { row := auditEntriesUptoRow, standIns := [], harness := (true, "7ca841dea695e33e49f35edf86b435784eaec940471c46f273be3d634f91ccd9"), looks := false }, kinds := [], alts := [], laidByText := true, laidKinds := [.data], laidTests := true, laidLooks := .later }
def AuditEntriesUptoCardSaid : Prop := Claim7.holds Tryd.pinned (.plain (OpenSpec.upto auditEntriesSpec)) auditEntriesUptoCard
end Rows
end Go.Proofs.YtoepdjccgngpdaaDoor
