/- Words and rules that the proof uses. -/
import Derived.Test.YtfekkhinjdmcbaaDoorVtPub
namespace Go.Proofs.YtfekkhinjdmcbaaDoor.VM
open Go Go.RowKit
end Go.Proofs.YtfekkhinjdmcbaaDoor.VM
