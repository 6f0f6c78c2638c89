/- Words and rules that the proof uses. -/
import Derived.Test.YtcahembojhmpbaaDoorVtPub
namespace Go.Proofs.YtcahembojhmpbaaDoor.VM
open Go Go.RowKit
end Go.Proofs.YtcahembojhmpbaaDoor.VM
