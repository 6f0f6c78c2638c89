/- The tables of the package, as plain lists. -/
import Derived.Test.YtglgdaeimfdpfaaVtEq
namespace Go.Proofs.Ytglgdaeimfdpfaa.VM
open Go Go.RowKit
end Go.Proofs.Ytglgdaeimfdpfaa.VM
