/-
  No cell of these rows narrows 'for every input' (looked for: loops, veiled, ifaces, maps, wideKeys, modest, calm, conditions, laid).
  DERIVED. THE GIVEN ROWS OF THIS SEAT. 9 by the template 'for every input the law returns true; each argument reads behind the call as it read before'; 0 by the template 'total and deterministic' (their statements: YtaojoppkkmpieaaTotals.lean).
  GIVEN WITH THE SEED: the statements are not yours to turn. If you find one false, say at which input.
  Laid BY PROGRAM, IN A SANDBOX (cutbox-rows.mjs): the forced cells as the released guide's own fill.sh prints them over the translation faed7d166495431d… (all of the seat's roots in one cut). By AI agents, Wed Nov 11 2026. No macro, syntax, notation, axiom, sorry.
-/
import Derived.Test.YtaojoppkkmpieaaChecked
import GoSem.Claim
import GoSem.ClaimJoined
import GoSem.ClaimMapViews
import Derived.JoinedTies
import Derived.KernelRfl
namespace Go.Proofs.Ytaojoppkkmpieaa
/- THE CELL 'sum', in the pinned program and in every row, IS THE sha256 OF THE DUMP (.gsa) THAT YtaojoppkkmpieaaProg.lean LOADS. Nothing in Lean hashes anything: it is a label: what it is worth is what the hold of that sum in a sandbox is worth. -/
noncomputable def Try.pinned : Pinned := { name := "ytaojoppkkmpieaa", sum := "faed7d166495431d0587aa8e4d1b7ffd40bd9356a817197049338dcefd1fdbc5", checked := Try.checked }
namespace Rows
def none {H : Type} : Left H := { results := [], args := [] }

/-- 'chirographlaw.Names': WHATEVER THE INPUT: true; the input reads as it did. -/
def namesSpec : ChangeSpec := { name := "names", fn := fun _ => fun
  | [] => { results := [.lit (.bool true)], args := [] }
  | _ => none }
def namesRow : OpenClaim := { program := "ytaojoppkkmpieaa", sum := "faed7d166495431d0587aa8e4d1b7ffd40bd9356a817197049338dcefd1fdbc5", func := "chirograph/chirographlaw.Names", spec := "names", apart := false }
def NamesSaid : Prop := namesRow.holds Try.pinned (OpenSpec.ofChange namesSpec)

/-- ITS FALSE NEIGHBOUR: 'it returns false'. Refute it at one input. -/
def namesWrong : ChangeSpec := { name := "names", fn := fun _ => fun
  | [] => { results := [.lit (.bool false)], args := [] }
  | _ => none }
def NamesWrongFalsely : Prop := namesRow.holds Try.pinned (OpenSpec.ofChange namesWrong)

/-- 'chirographlaw.TruthNots': WHATEVER THE INPUT: true; the input reads as it did. -/
def truthNotsSpec : ChangeSpec := { name := "truthNots", fn := fun _ => fun
  | [d] => { results := [.lit (.bool true)], args := [d] }
  | _ => none }
def truthNotsRow : OpenClaim := { program := "ytaojoppkkmpieaa", sum := "faed7d166495431d0587aa8e4d1b7ffd40bd9356a817197049338dcefd1fdbc5", func := "chirograph/chirographlaw.TruthNots", spec := "truthNots", apart := false }
def TruthNotsSaid : Prop := truthNotsRow.holds Try.pinned (OpenSpec.ofChange truthNotsSpec)

/-- ITS FALSE NEIGHBOUR: 'it returns false'. Refute it at one input. -/
def truthNotsWrong : ChangeSpec := { name := "truthNots", fn := fun _ => fun
  | [d] => { results := [.lit (.bool false)], args := [d] }
  | _ => none }
def TruthNotsWrongFalsely : Prop := truthNotsRow.holds Try.pinned (OpenSpec.ofChange truthNotsWrong)

/-- 'chirographlaw.TruthPairs': WHATEVER THE INPUT: true; the input reads as it did. -/
def truthPairsSpec : ChangeSpec := { name := "truthPairs", fn := fun _ => fun
  | [d1, d2] => { results := [.lit (.bool true)], args := [d1, d2] }
  | _ => none }
def truthPairsRow : OpenClaim := { program := "ytaojoppkkmpieaa", sum := "faed7d166495431d0587aa8e4d1b7ffd40bd9356a817197049338dcefd1fdbc5", func := "chirograph/chirographlaw.TruthPairs", spec := "truthPairs", apart := false }
def TruthPairsSaid : Prop := truthPairsRow.holds Try.pinned (OpenSpec.ofChange truthPairsSpec)

/-- ITS FALSE NEIGHBOUR: 'it returns false'. Refute it at one input. -/
def truthPairsWrong : ChangeSpec := { name := "truthPairs", fn := fun _ => fun
  | [d1, d2] => { results := [.lit (.bool false)], args := [d1, d2] }
  | _ => none }
def TruthPairsWrongFalsely : Prop := truthPairsRow.holds Try.pinned (OpenSpec.ofChange truthPairsWrong)

/-- 'chirographlaw.SplitShares': WHATEVER THE INPUT: true; the input reads as it did. -/
def splitSharesSpec : ChangeSpec := { name := "splitShares", fn := fun _ => fun
  | [d1, d2] => { results := [.lit (.bool true)], args := [d1, d2] }
  | _ => none }
def splitSharesRow : OpenClaim := { program := "ytaojoppkkmpieaa", sum := "faed7d166495431d0587aa8e4d1b7ffd40bd9356a817197049338dcefd1fdbc5", func := "chirograph/chirographlaw.SplitShares", spec := "splitShares", apart := false }
def SplitSharesSaid : Prop := splitSharesRow.holds Try.pinned (OpenSpec.ofChange splitSharesSpec)

/-- ITS FALSE NEIGHBOUR: 'it returns false'. Refute it at one input. -/
def splitSharesWrong : ChangeSpec := { name := "splitShares", fn := fun _ => fun
  | [d1, d2] => { results := [.lit (.bool false)], args := [d1, d2] }
  | _ => none }
def SplitSharesWrongFalsely : Prop := splitSharesRow.holds Try.pinned (OpenSpec.ofChange splitSharesWrong)

/-- 'chirographlaw.WirePacks': WHATEVER THE INPUT: true; the input reads as it did. -/
def wirePacksSpec : ChangeSpec := { name := "wirePacks", fn := fun _ => fun
  | [d] => { results := [.lit (.bool true)], args := [d] }
  | _ => none }
def wirePacksRow : OpenClaim := { program := "ytaojoppkkmpieaa", sum := "faed7d166495431d0587aa8e4d1b7ffd40bd9356a817197049338dcefd1fdbc5", func := "chirograph/chirographlaw.WirePacks", spec := "wirePacks", apart := false }
def WirePacksSaid : Prop := wirePacksRow.holds Try.pinned (OpenSpec.ofChange wirePacksSpec)

/-- ITS FALSE NEIGHBOUR: 'it returns false'. Refute it at one input. -/
def wirePacksWrong : ChangeSpec := { name := "wirePacks", fn := fun _ => fun
  | [d] => { results := [.lit (.bool false)], args := [d] }
  | _ => none }
def WirePacksWrongFalsely : Prop := wirePacksRow.holds Try.pinned (OpenSpec.ofChange wirePacksWrong)

/-- 'chirographlaw.WireFeeds': WHATEVER THE INPUT: true; the input reads as it did. -/
def wireFeedsSpec : ChangeSpec := { name := "wireFeeds", fn := fun _ => fun
  | [d1, d2] => { results := [.lit (.bool true)], args := [d1, d2] }
  | _ => none }
def wireFeedsRow : OpenClaim := { program := "ytaojoppkkmpieaa", sum := "faed7d166495431d0587aa8e4d1b7ffd40bd9356a817197049338dcefd1fdbc5", func := "chirograph/chirographlaw.WireFeeds", spec := "wireFeeds", apart := false }
def WireFeedsSaid : Prop := wireFeedsRow.holds Try.pinned (OpenSpec.ofChange wireFeedsSpec)

/-- ITS FALSE NEIGHBOUR: 'it returns false'. Refute it at one input. -/
def wireFeedsWrong : ChangeSpec := { name := "wireFeeds", fn := fun _ => fun
  | [d1, d2] => { results := [.lit (.bool false)], args := [d1, d2] }
  | _ => none }
def WireFeedsWrongFalsely : Prop := wireFeedsRow.holds Try.pinned (OpenSpec.ofChange wireFeedsWrong)

/-- 'chirographlaw.OracleFrames': WHATEVER THE INPUT: true; the input reads as it did. -/
def oracleFramesSpec : ChangeSpec := { name := "oracleFrames", fn := fun _ => fun
  | [d1, d2] => { results := [.lit (.bool true)], args := [d1, d2] }
  | _ => none }
def oracleFramesRow : OpenClaim := { program := "ytaojoppkkmpieaa", sum := "faed7d166495431d0587aa8e4d1b7ffd40bd9356a817197049338dcefd1fdbc5", func := "chirograph/chirographlaw.OracleFrames", spec := "oracleFrames", apart := false }
def OracleFramesSaid : Prop := oracleFramesRow.holds Try.pinned (OpenSpec.ofChange oracleFramesSpec)

/-- ITS FALSE NEIGHBOUR: 'it returns false'. Refute it at one input. -/
def oracleFramesWrong : ChangeSpec := { name := "oracleFrames", fn := fun _ => fun
  | [d1, d2] => { results := [.lit (.bool false)], args := [d1, d2] }
  | _ => none }
def OracleFramesWrongFalsely : Prop := oracleFramesRow.holds Try.pinned (OpenSpec.ofChange oracleFramesWrong)

/-- 'chirographlaw.OracleParses': WHATEVER THE INPUT: true; the input reads as it did. -/
def oracleParsesSpec : ChangeSpec := { name := "oracleParses", fn := fun _ => fun
  | [d] => { results := [.lit (.bool true)], args := [d] }
  | _ => none }
def oracleParsesRow : OpenClaim := { program := "ytaojoppkkmpieaa", sum := "faed7d166495431d0587aa8e4d1b7ffd40bd9356a817197049338dcefd1fdbc5", func := "chirograph/chirographlaw.OracleParses", spec := "oracleParses", apart := false }
def OracleParsesSaid : Prop := oracleParsesRow.holds Try.pinned (OpenSpec.ofChange oracleParsesSpec)

/-- ITS FALSE NEIGHBOUR: 'it returns false'. Refute it at one input. -/
def oracleParsesWrong : ChangeSpec := { name := "oracleParses", fn := fun _ => fun
  | [d] => { results := [.lit (.bool false)], args := [d] }
  | _ => none }
def OracleParsesWrongFalsely : Prop := oracleParsesRow.holds Try.pinned (OpenSpec.ofChange oracleParsesWrong)

/-- 'chirographlaw.CrcSums': WHATEVER THE INPUT: true; the input reads as it did. -/
def crcSumsSpec : ChangeSpec := { name := "crcSums", fn := fun _ => fun
  | [d] => { results := [.lit (.bool true)], args := [d] }
  | _ => none }
def crcSumsRow : OpenClaim := { program := "ytaojoppkkmpieaa", sum := "faed7d166495431d0587aa8e4d1b7ffd40bd9356a817197049338dcefd1fdbc5", func := "chirograph/chirographlaw.CrcSums", spec := "crcSums", apart := false }
def CrcSumsSaid : Prop := crcSumsRow.holds Try.pinned (OpenSpec.ofChange crcSumsSpec)

/-- ITS FALSE NEIGHBOUR: 'it returns false'. Refute it at one input. -/
def crcSumsWrong : ChangeSpec := { name := "crcSums", fn := fun _ => fun
  | [d] => { results := [.lit (.bool false)], args := [d] }
  | _ => none }
def CrcSumsWrongFalsely : Prop := crcSumsRow.holds Try.pinned (OpenSpec.ofChange crcSumsWrong)

/- THE SECOND FORM. 'bulk': how many values and letters a reading holds, each counted each time it is reached (what is shared counts as often as it is met; a slice's spare places count too). A statement '..UptoSaid' is the law's where the arguments, and the package variables that the reading takes, are together of bulk at most 1048576: NARROWER than '..Said'. Prove '..Said' where nothing that the law and all that it calls make is longer than what came in: it says more and counts as full. Else prove '..UptoSaid'. A law counts once. -/
mutual
def uptoBulk {H : Type} : DataW H → Nat
  | .lit (.string bytes) => bytes.length + 1
  | .lit _ => 1
  | .nil => 1
  | .ptr d => uptoBulk d + 1
  | .slice elems spare => uptoBulkAll elems + uptoBulkAll spare + 1
  | .agg parts => uptoBulkAll parts + 1
  | .iface _ d => uptoBulk d + 1
  | .map entries => uptoBulkEntries entries + 1
  | .held _ => 1
def uptoBulkAll {H : Type} : List (DataW H) → Nat
  | [] => 0
  | d :: r => uptoBulk d + uptoBulkAll r
def uptoBulkEntries {H : Type} : List (Lit × DataW H) → Nat
  | [] => 0
  | x :: r => uptoBulkEntry x + uptoBulkEntries r
def uptoBulkEntry {H : Type} : Lit × DataW H → Nat
  | (.string bytes, d) => bytes.length + uptoBulk d + 1
  | (_, d) => uptoBulk d + 1
 end
def uptoSmall : (H : Type) → List (DataW H) → Bool := fun _ ds => decide (uptoBulkAll ds ≤ 1048576)
def OpenSpec.upto (s : _root_.Go.ChangeSpec) : _root_.Go.OpenSpec := { _root_.Go.OpenSpec.ofChange s with cond := some uptoSmall }

/-- 'chirographlaw.Names', WHERE WHAT IT READS IS OF BULK AT MOST 1048576: true; the input reads as it did. -/
def namesUptoRow : OpenClaim := { program := "ytaojoppkkmpieaa", sum := "faed7d166495431d0587aa8e4d1b7ffd40bd9356a817197049338dcefd1fdbc5", func := "chirograph/chirographlaw.Names", spec := "names", apart := false, narrowed := true }
def NamesUptoSaid : Prop := namesUptoRow.holds Try.pinned (OpenSpec.upto namesSpec)

/-- 'chirographlaw.TruthNots', WHERE WHAT IT READS IS OF BULK AT MOST 1048576: true; the input reads as it did. -/
def truthNotsUptoRow : OpenClaim := { program := "ytaojoppkkmpieaa", sum := "faed7d166495431d0587aa8e4d1b7ffd40bd9356a817197049338dcefd1fdbc5", func := "chirograph/chirographlaw.TruthNots", spec := "truthNots", apart := false, narrowed := true }
def TruthNotsUptoSaid : Prop := truthNotsUptoRow.holds Try.pinned (OpenSpec.upto truthNotsSpec)

/-- 'chirographlaw.TruthPairs', WHERE WHAT IT READS IS OF BULK AT MOST 1048576: true; the input reads as it did. -/
def truthPairsUptoRow : OpenClaim := { program := "ytaojoppkkmpieaa", sum := "faed7d166495431d0587aa8e4d1b7ffd40bd9356a817197049338dcefd1fdbc5", func := "chirograph/chirographlaw.TruthPairs", spec := "truthPairs", apart := false, narrowed := true }
def TruthPairsUptoSaid : Prop := truthPairsUptoRow.holds Try.pinned (OpenSpec.upto truthPairsSpec)

/-- 'chirographlaw.SplitShares', WHERE WHAT IT READS IS OF BULK AT MOST 1048576: true; the input reads as it did. -/
def splitSharesUptoRow : OpenClaim := { program := "ytaojoppkkmpieaa", sum := "faed7d166495431d0587aa8e4d1b7ffd40bd9356a817197049338dcefd1fdbc5", func := "chirograph/chirographlaw.SplitShares", spec := "splitShares", apart := false, narrowed := true }
def SplitSharesUptoSaid : Prop := splitSharesUptoRow.holds Try.pinned (OpenSpec.upto splitSharesSpec)

/-- 'chirographlaw.WirePacks', WHERE WHAT IT READS IS OF BULK AT MOST 1048576: true; the input reads as it did. -/
def wirePacksUptoRow : OpenClaim := { program := "ytaojoppkkmpieaa", sum := "faed7d166495431d0587aa8e4d1b7ffd40bd9356a817197049338dcefd1fdbc5", func := "chirograph/chirographlaw.WirePacks", spec := "wirePacks", apart := false, narrowed := true }
def WirePacksUptoSaid : Prop := wirePacksUptoRow.holds Try.pinned (OpenSpec.upto wirePacksSpec)

/-- 'chirographlaw.WireFeeds', WHERE WHAT IT READS IS OF BULK AT MOST 1048576: true; the input reads as it did. -/
def wireFeedsUptoRow : OpenClaim := { program := "ytaojoppkkmpieaa", sum := "faed7d166495431d0587aa8e4d1b7ffd40bd9356a817197049338dcefd1fdbc5", func := "chirograph/chirographlaw.WireFeeds", spec := "wireFeeds", apart := false, narrowed := true }
def WireFeedsUptoSaid : Prop := wireFeedsUptoRow.holds Try.pinned (OpenSpec.upto wireFeedsSpec)

/-- 'chirographlaw.OracleFrames', WHERE WHAT IT READS IS OF BULK AT MOST 1048576: true; the input reads as it did. -/
def oracleFramesUptoRow : OpenClaim := { program := "ytaojoppkkmpieaa", sum := "faed7d166495431d0587aa8e4d1b7ffd40bd9356a817197049338dcefd1fdbc5", func := "chirograph/chirographlaw.OracleFrames", spec := "oracleFrames", apart := false, narrowed := true }
def OracleFramesUptoSaid : Prop := oracleFramesUptoRow.holds Try.pinned (OpenSpec.upto oracleFramesSpec)

/-- 'chirographlaw.OracleParses', WHERE WHAT IT READS IS OF BULK AT MOST 1048576: true; the input reads as it did. -/
def oracleParsesUptoRow : OpenClaim := { program := "ytaojoppkkmpieaa", sum := "faed7d166495431d0587aa8e4d1b7ffd40bd9356a817197049338dcefd1fdbc5", func := "chirograph/chirographlaw.OracleParses", spec := "oracleParses", apart := false, narrowed := true }
def OracleParsesUptoSaid : Prop := oracleParsesUptoRow.holds Try.pinned (OpenSpec.upto oracleParsesSpec)

/-- 'chirographlaw.CrcSums', WHERE WHAT IT READS IS OF BULK AT MOST 1048576: true; the input reads as it did. -/
def crcSumsUptoRow : OpenClaim := { program := "ytaojoppkkmpieaa", sum := "faed7d166495431d0587aa8e4d1b7ffd40bd9356a817197049338dcefd1fdbc5", func := "chirograph/chirographlaw.CrcSums", spec := "crcSums", apart := false, narrowed := true }
def CrcSumsUptoSaid : Prop := crcSumsUptoRow.holds Try.pinned (OpenSpec.upto crcSumsSpec)

end Rows
end Go.Proofs.Ytaojoppkkmpieaa
