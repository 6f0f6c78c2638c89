/- Words and rules that the proof uses. -/
import Derived.Test.YtpgimlllchibnaaDoorVtPub
namespace Go.Proofs.YtpgimlllchibnaaDoor.VM
open Go Go.RowKit
end Go.Proofs.YtpgimlllchibnaaDoor.VM
