/- The law Names answers true: it holds no input, and there is no condition. -/
import Derived.Test.YtaojoppkkmpieaaPNamesx1
namespace Go.Proofs.Ytaojoppkkmpieaa.Pure
open Go.RowKit Go.Proofs.Ytaojoppkkmpieaa.PNames Go.Proofs.YtaojoppkkmpieaaW.PrintWords Go.Proofs.YtaojoppkkmpieaaW.PrintLast

theorem Names : chirographlaw_Names.Pure := by
  unfold chirographlaw_Names.Pure chirographlaw_Names.f
  rfl

end Go.Proofs.Ytaojoppkkmpieaa.Pure
