/- Words and rules that the proof uses. -/
import Derived.Test.YtalnmpfjgiecdaaDoorVtPub
namespace Go.Proofs.YtalnmpfjgiecdaaDoor.VM
open Go Go.RowKit
end Go.Proofs.YtalnmpfjgiecdaaDoor.VM
