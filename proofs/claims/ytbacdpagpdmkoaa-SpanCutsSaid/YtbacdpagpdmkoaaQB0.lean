-- written by this session's program mprint.py: functions of the Go program, and their contracts
import Derived.Test.YtbacdpagpdmkoaaProg
import Derived.Test.YtbacdpagpdmkoaaQT0
import Derived.Test.YtbacdpagpdmkoaaQT1
import Derived.Below
import Derived.Deep.Draws
import Derived.Deep.AppendLies
import Derived.Maps.AppendAt
import Derived.OwnWalk
import Derived.Laws.BytesArg
import Derived.Laws.MakeOwn
import Derived.Laws.OwnMore
import Derived.Deep.OwnRows
import Derived.Tactics
import Derived.Lib.ConvBytes
import Derived.Laws.Slices
import Derived.WalkKit
import Derived.KernelRfl
import Derived.RowKit3
import Derived.Deep.LoopGhost
import Derived.Deep.QuietTactic
import Derived.BigQuiet
import Derived.WideLaws
import Derived.Deep.DeepCutAuto
import Derived.Deep.CutBlock
import Derived.Deep.RegionHeld3
import Derived.Laws.Rows
import Derived.Lib.AppendStr
import Derived.ArgAppend
import Derived.Laws.IdiomCopy
import Derived.OrdersHeld
import Derived.Laws.BitsLemmas
import Derived.RowKit
import Derived.Test.YtbacdpagpdmkoaaSpanA
import Derived.Test.YtbacdpagpdmkoaaSpanD
import Derived.Test.YtbacdpagpdmkoaaWWords
import Derived.Test.YtbacdpagpdmkoaaWLast
import Derived.Test.YtbacdpagpdmkoaaWTab
import Derived.Test.YtbacdpagpdmkoaaWFour
import Derived.Test.YtbacdpagpdmkoaaWQPut
import Derived.Test.YtbacdpagpdmkoaaWApart
import Derived.Test.YtbacdpagpdmkoaaWArr
import Derived.Test.YtbacdpagpdmkoaaWZeros
import Derived.Test.YtbacdpagpdmkoaaWFoot
import Derived.Test.YtbacdpagpdmkoaaWKept
import Derived.Test.YtbacdpagpdmkoaaWShare
import Derived.Test.YtbacdpagpdmkoaaWN
import Derived.Test.YtbacdpagpdmkoaaWFootNe
import Derived.Test.YtbacdpagpdmkoaaWAt
import Derived.Test.YtbacdpagpdmkoaaWEqStruct
import Derived.Test.YtbacdpagpdmkoaaWRepsOne
import Derived.Test.YtbacdpagpdmkoaaWInv
import Derived.Test.YtbacdpagpdmkoaaWInvWords
import Derived.Test.YtbacdpagpdmkoaaWGuard
import Derived.Test.YtbacdpagpdmkoaaWNEv
import Derived.Test.YtbacdpagpdmkoaaWMore
namespace Go.Proofs.Ytbacdpagpdmkoaa.QB
open Go.RowKit Go.Proofs.Ytbacdpagpdmkoaa.QT Go.Proofs.Ytbacdpagpdmkoaa.Man Go.Proofs.YtbacdpagpdmkoaaW.PrintWords Go.Proofs.YtbacdpagpdmkoaaW.PrintLast Go.Proofs.YtbacdpagpdmkoaaW.PrintMore
attribute [local go_sem] max2_int min2_int max_two min_two max_three min_three max_four min_four   -- for this text's walks alone
set_option linter.unusedVariables false
set_option linter.unusedSimpArgs false



-- the values' own types

end Go.Proofs.Ytbacdpagpdmkoaa.QB
