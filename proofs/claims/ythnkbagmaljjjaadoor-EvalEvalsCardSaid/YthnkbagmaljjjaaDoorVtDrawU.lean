/- Words and rules that the proof uses. -/
import Derived.Test.YthnkbagmaljjjaaDoorVtPub
namespace Go.Proofs.YthnkbagmaljjjaaDoor.VM
open Go Go.RowKit
end Go.Proofs.YthnkbagmaljjjaaDoor.VM
