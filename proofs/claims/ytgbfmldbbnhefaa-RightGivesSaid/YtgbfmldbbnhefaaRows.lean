/-
  No cell of these rows narrows 'for every input' (looked for: loops, veiled, ifaces, maps, wideKeys, modest, calm, conditions, laid).
  DERIVED. THE GIVEN ROWS OF THIS SEAT. 5 by the template 'for every input the law returns true; each argument reads behind the call as it read before'; 0 by the template 'total and deterministic' (their statements: YtgbfmldbbnhefaaTotals.lean).
  GIVEN WITH THE SEED: the statements are not yours to turn. If you find one false, say at which input.
  Laid BY PROGRAM, IN A SANDBOX (cutbox-rows.mjs): the forced cells as the released guide's own fill.sh prints them over the translation 579225b4f71ad66d… (all of the seat's roots in one cut). By AI agents, Wed Nov 11 2026. No macro, syntax, notation, axiom, sorry.
-/
import Derived.Test.YtgbfmldbbnhefaaChecked
import GoSem.Claim
import GoSem.ClaimJoined
import GoSem.ClaimMapViews
import Derived.JoinedTies
import Derived.KernelRfl
namespace Go.Proofs.Ytgbfmldbbnhefaa
/- THE CELL 'sum', in the pinned program and in every row, IS THE sha256 OF THE DUMP (.gsa) THAT YtgbfmldbbnhefaaProg.lean LOADS. Nothing in Lean hashes anything: it is a label: what it is worth is what the hold of that sum in a sandbox is worth. -/
noncomputable def Try.pinned : Pinned := { name := "ytgbfmldbbnhefaa", sum := "579225b4f71ad66dbe8e77a9b6e27ef79351b431388e0774259df77361b5dbfd", checked := Try.checked }
namespace Rows
def none {H : Type} : Left H := { results := [], args := [] }

/-- 'chirographlaw.RightChecks': WHATEVER THE INPUT: true; the input reads as it did. -/
def rightChecksSpec : ChangeSpec := { name := "rightChecks", fn := fun _ => fun
  | [d] => { results := [.lit (.bool true)], args := [d] }
  | _ => none }
def rightChecksRow : OpenClaim := { program := "ytgbfmldbbnhefaa", sum := "579225b4f71ad66dbe8e77a9b6e27ef79351b431388e0774259df77361b5dbfd", func := "chirograph/chirographlaw.RightChecks", spec := "rightChecks", unfollowed := true, recurses := true, apart := false }
def RightChecksSaid : Prop := rightChecksRow.holds Try.pinned (OpenSpec.ofChange rightChecksSpec)

/-- ITS FALSE NEIGHBOUR: 'it returns false'. Refute it at one input. -/
def rightChecksWrong : ChangeSpec := { name := "rightChecks", fn := fun _ => fun
  | [d] => { results := [.lit (.bool false)], args := [d] }
  | _ => none }
def RightChecksWrongFalsely : Prop := rightChecksRow.holds Try.pinned (OpenSpec.ofChange rightChecksWrong)

/-- 'chirographlaw.RightTakes': WHATEVER THE INPUT: true; the input reads as it did. -/
def rightTakesSpec : ChangeSpec := { name := "rightTakes", fn := fun _ => fun
  | [d1, d2] => { results := [.lit (.bool true)], args := [d1, d2] }
  | _ => none }
def rightTakesRow : OpenClaim := { program := "ytgbfmldbbnhefaa", sum := "579225b4f71ad66dbe8e77a9b6e27ef79351b431388e0774259df77361b5dbfd", func := "chirograph/chirographlaw.RightTakes", spec := "rightTakes", unfollowed := true, recurses := true, apart := false }
def RightTakesSaid : Prop := rightTakesRow.holds Try.pinned (OpenSpec.ofChange rightTakesSpec)

/-- ITS FALSE NEIGHBOUR: 'it returns false'. Refute it at one input. -/
def rightTakesWrong : ChangeSpec := { name := "rightTakes", fn := fun _ => fun
  | [d1, d2] => { results := [.lit (.bool false)], args := [d1, d2] }
  | _ => none }
def RightTakesWrongFalsely : Prop := rightTakesRow.holds Try.pinned (OpenSpec.ofChange rightTakesWrong)

/-- 'chirographlaw.RightHas': WHATEVER THE INPUT: true; the input reads as it did. -/
def rightHasSpec : ChangeSpec := { name := "rightHas", fn := fun _ => fun
  | [d1, d2, d3, d4] => { results := [.lit (.bool true)], args := [d1, d2, d3, d4] }
  | _ => none }
def rightHasRow : OpenClaim := { program := "ytgbfmldbbnhefaa", sum := "579225b4f71ad66dbe8e77a9b6e27ef79351b431388e0774259df77361b5dbfd", func := "chirograph/chirographlaw.RightHas", spec := "rightHas", unfollowed := true, recurses := true, apart := false }
def RightHasSaid : Prop := rightHasRow.holds Try.pinned (OpenSpec.ofChange rightHasSpec)

/-- ITS FALSE NEIGHBOUR: 'it returns false'. Refute it at one input. -/
def rightHasWrong : ChangeSpec := { name := "rightHas", fn := fun _ => fun
  | [d1, d2, d3, d4] => { results := [.lit (.bool false)], args := [d1, d2, d3, d4] }
  | _ => none }
def RightHasWrongFalsely : Prop := rightHasRow.holds Try.pinned (OpenSpec.ofChange rightHasWrong)

/-- 'chirographlaw.RightMay': WHATEVER THE INPUT: true; the input reads as it did. -/
def rightMaySpec : ChangeSpec := { name := "rightMay", fn := fun _ => fun
  | [d1, d2, d3, d4] => { results := [.lit (.bool true)], args := [d1, d2, d3, d4] }
  | _ => none }
def rightMayRow : OpenClaim := { program := "ytgbfmldbbnhefaa", sum := "579225b4f71ad66dbe8e77a9b6e27ef79351b431388e0774259df77361b5dbfd", func := "chirograph/chirographlaw.RightMay", spec := "rightMay", unfollowed := true, recurses := true, apart := false }
def RightMaySaid : Prop := rightMayRow.holds Try.pinned (OpenSpec.ofChange rightMaySpec)

/-- ITS FALSE NEIGHBOUR: 'it returns false'. Refute it at one input. -/
def rightMayWrong : ChangeSpec := { name := "rightMay", fn := fun _ => fun
  | [d1, d2, d3, d4] => { results := [.lit (.bool false)], args := [d1, d2, d3, d4] }
  | _ => none }
def RightMayWrongFalsely : Prop := rightMayRow.holds Try.pinned (OpenSpec.ofChange rightMayWrong)

/-- 'chirographlaw.RightGives': WHATEVER THE INPUT: true; the input reads as it did. -/
def rightGivesSpec : ChangeSpec := { name := "rightGives", fn := fun _ => fun
  | [d1, d2] => { results := [.lit (.bool true)], args := [d1, d2] }
  | _ => none }
def rightGivesRow : OpenClaim := { program := "ytgbfmldbbnhefaa", sum := "579225b4f71ad66dbe8e77a9b6e27ef79351b431388e0774259df77361b5dbfd", func := "chirograph/chirographlaw.RightGives", spec := "rightGives", unfollowed := true, recurses := true, apart := false }
def RightGivesSaid : Prop := rightGivesRow.holds Try.pinned (OpenSpec.ofChange rightGivesSpec)

/-- ITS FALSE NEIGHBOUR: 'it returns false'. Refute it at one input. -/
def rightGivesWrong : ChangeSpec := { name := "rightGives", fn := fun _ => fun
  | [d1, d2] => { results := [.lit (.bool false)], args := [d1, d2] }
  | _ => none }
def RightGivesWrongFalsely : Prop := rightGivesRow.holds Try.pinned (OpenSpec.ofChange rightGivesWrong)

/- THE SECOND FORM. 'bulk': how many values and letters a reading holds, each counted each time it is reached (what is shared counts as often as it is met; a slice's spare places count too). A statement '..UptoSaid' is the law's where the arguments, and the package variables that the reading takes, are together of bulk at most 1048576: NARROWER than '..Said'. Prove '..Said' where nothing that the law and all that it calls make is longer than what came in: it says more and counts as full. Else prove '..UptoSaid'. A law counts once. -/
mutual
def uptoBulk {H : Type} : DataW H → Nat
  | .lit (.string bytes) => bytes.length + 1
  | .lit _ => 1
  | .nil => 1
  | .ptr d => uptoBulk d + 1
  | .slice elems spare => uptoBulkAll elems + uptoBulkAll spare + 1
  | .agg parts => uptoBulkAll parts + 1
  | .iface _ d => uptoBulk d + 1
  | .map entries => uptoBulkEntries entries + 1
  | .held _ => 1
def uptoBulkAll {H : Type} : List (DataW H) → Nat
  | [] => 0
  | d :: r => uptoBulk d + uptoBulkAll r
def uptoBulkEntries {H : Type} : List (Lit × DataW H) → Nat
  | [] => 0
  | x :: r => uptoBulkEntry x + uptoBulkEntries r
def uptoBulkEntry {H : Type} : Lit × DataW H → Nat
  | (.string bytes, d) => bytes.length + uptoBulk d + 1
  | (_, d) => uptoBulk d + 1
 end
def uptoSmall : (H : Type) → List (DataW H) → Bool := fun _ ds => decide (uptoBulkAll ds ≤ 1048576)
def OpenSpec.upto (s : _root_.Go.ChangeSpec) : _root_.Go.OpenSpec := { _root_.Go.OpenSpec.ofChange s with cond := some uptoSmall }

/-- 'chirographlaw.RightChecks', WHERE WHAT IT READS IS OF BULK AT MOST 1048576: true; the input reads as it did. -/
def rightChecksUptoRow : OpenClaim := { program := "ytgbfmldbbnhefaa", sum := "579225b4f71ad66dbe8e77a9b6e27ef79351b431388e0774259df77361b5dbfd", func := "chirograph/chirographlaw.RightChecks", spec := "rightChecks", unfollowed := true, recurses := true, apart := false, narrowed := true }
def RightChecksUptoSaid : Prop := rightChecksUptoRow.holds Try.pinned (OpenSpec.upto rightChecksSpec)

/-- 'chirographlaw.RightTakes', WHERE WHAT IT READS IS OF BULK AT MOST 1048576: true; the input reads as it did. -/
def rightTakesUptoRow : OpenClaim := { program := "ytgbfmldbbnhefaa", sum := "579225b4f71ad66dbe8e77a9b6e27ef79351b431388e0774259df77361b5dbfd", func := "chirograph/chirographlaw.RightTakes", spec := "rightTakes", unfollowed := true, recurses := true, apart := false, narrowed := true }
def RightTakesUptoSaid : Prop := rightTakesUptoRow.holds Try.pinned (OpenSpec.upto rightTakesSpec)

/-- 'chirographlaw.RightHas', WHERE WHAT IT READS IS OF BULK AT MOST 1048576: true; the input reads as it did. -/
def rightHasUptoRow : OpenClaim := { program := "ytgbfmldbbnhefaa", sum := "579225b4f71ad66dbe8e77a9b6e27ef79351b431388e0774259df77361b5dbfd", func := "chirograph/chirographlaw.RightHas", spec := "rightHas", unfollowed := true, recurses := true, apart := false, narrowed := true }
def RightHasUptoSaid : Prop := rightHasUptoRow.holds Try.pinned (OpenSpec.upto rightHasSpec)

/-- 'chirographlaw.RightMay', WHERE WHAT IT READS IS OF BULK AT MOST 1048576: true; the input reads as it did. -/
def rightMayUptoRow : OpenClaim := { program := "ytgbfmldbbnhefaa", sum := "579225b4f71ad66dbe8e77a9b6e27ef79351b431388e0774259df77361b5dbfd", func := "chirograph/chirographlaw.RightMay", spec := "rightMay", unfollowed := true, recurses := true, apart := false, narrowed := true }
def RightMayUptoSaid : Prop := rightMayUptoRow.holds Try.pinned (OpenSpec.upto rightMaySpec)

/-- 'chirographlaw.RightGives', WHERE WHAT IT READS IS OF BULK AT MOST 1048576: true; the input reads as it did. -/
def rightGivesUptoRow : OpenClaim := { program := "ytgbfmldbbnhefaa", sum := "579225b4f71ad66dbe8e77a9b6e27ef79351b431388e0774259df77361b5dbfd", func := "chirograph/chirographlaw.RightGives", spec := "rightGives", unfollowed := true, recurses := true, apart := false, narrowed := true }
def RightGivesUptoSaid : Prop := rightGivesUptoRow.holds Try.pinned (OpenSpec.upto rightGivesSpec)

end Rows
end Go.Proofs.Ytgbfmldbbnhefaa
