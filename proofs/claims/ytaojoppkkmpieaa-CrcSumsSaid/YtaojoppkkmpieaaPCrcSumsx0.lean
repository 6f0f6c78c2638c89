-- by a generator of this session, over the print's words
import Derived.Test.YtaojoppkkmpieaaProg
import Derived.Below
import Derived.Deep.Draws
import Derived.Deep.AppendLies
import Derived.Maps.AppendAt
import Derived.OwnWalk
import Derived.Laws.BytesArg
import Derived.Laws.MakeOwn
import Derived.Laws.OwnMore
import Derived.Deep.OwnRows
import Derived.Tactics
import Derived.Lib.ConvBytes
import Derived.Laws.Slices
import Derived.WalkKit
import Derived.KernelRfl
import Derived.RowKit3
import Derived.Deep.LoopGhost
import Derived.Deep.QuietTactic
import Derived.BigQuiet
import Derived.WideLaws
import Derived.Deep.DeepCutAuto
import Derived.Deep.CutBlock
import Derived.Deep.RegionHeld3
import Derived.Laws.Rows
import Derived.Lib.AppendStr
import Derived.ArgAppend
import Derived.Laws.IdiomCopy
import Derived.OrdersHeld
import Derived.Laws.BitsLemmas
import Derived.RowKit
import Derived.Test.YtaojoppkkmpieaaWWords
import Derived.Test.YtaojoppkkmpieaaWLast
import Derived.Test.YtaojoppkkmpieaaWTab
import Derived.Test.YtaojoppkkmpieaaWFour
import Derived.Test.YtaojoppkkmpieaaWQPut
import Derived.Test.YtaojoppkkmpieaaWApart
import Derived.Test.YtaojoppkkmpieaaWArr
import Derived.Test.YtaojoppkkmpieaaWZeros
import Derived.Test.YtaojoppkkmpieaaWFoot
import Derived.Test.YtaojoppkkmpieaaWKept
import Derived.Test.YtaojoppkkmpieaaWShare
import Derived.Test.YtaojoppkkmpieaaWN
import Derived.Test.YtaojoppkkmpieaaWFootNe
import Derived.Test.YtaojoppkkmpieaaWAt
import Derived.Test.YtaojoppkkmpieaaWEqStruct
import Derived.Test.YtaojoppkkmpieaaWRepsOne
import Derived.Test.YtaojoppkkmpieaaWInv
import Derived.Test.YtaojoppkkmpieaaWInvWords
import Derived.Test.YtaojoppkkmpieaaWGuard
import Derived.Test.YtaojoppkkmpieaaWNEv
import Derived.Test.YtaojoppkkmpieaaWMore
namespace Go.Proofs.Ytaojoppkkmpieaa.PCrcSums
open Go.RowKit Go.Proofs.YtaojoppkkmpieaaW.PrintWords Go.Proofs.YtaojoppkkmpieaaW.PrintLast Go.Proofs.YtaojoppkkmpieaaW.PrintMore
attribute [local go_sem] max2_int min2_int max_two min_two max_three min_three max_four min_four   -- for this text's walks alone
set_option linter.unusedVariables false
set_option linter.unusedSimpArgs false



def errW : Option Int → Value
  | none => .nilIface
  | some c => .iface 0 (.int .i64 c)
theorem errW_none : errW none = .nilIface := rfl
theorem errW_some (c : Int) : errW (some c) = .iface 0 (.int .i64 c) := rfl

-- the values' own types

end Go.Proofs.Ytaojoppkkmpieaa.PCrcSums
