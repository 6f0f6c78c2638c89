/- Words and rules that the proof uses. -/
import Derived.Test.YtglgdaeimfdpfaaVtTyped
namespace Go.Proofs.Ytglgdaeimfdpfaa.VM
open Go Go.RowKit
theorem w64_id {n:Int} (h : -9223372036854775808≤n∧n≤9223372036854775807):w64 n=n:=wrap64 h
end Go.Proofs.Ytglgdaeimfdpfaa.VM
