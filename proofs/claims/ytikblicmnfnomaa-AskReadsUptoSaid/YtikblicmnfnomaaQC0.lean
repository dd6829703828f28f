-- written by this session's program mprint.py: functions of the Go program, and their contracts
import Derived.Test.YtikblicmnfnomaaProg
import Derived.Below
import Derived.Deep.Draws
import Derived.Deep.AppendLies
import Derived.Maps.AppendAt
import Derived.OwnWalk
import Derived.Laws.BytesArg
import Derived.Laws.MakeOwn
import Derived.Laws.OwnMore
import Derived.Deep.OwnRows
import Derived.Tactics
import Derived.Lib.ConvBytes
import Derived.Laws.Slices
import Derived.WalkKit
import Derived.KernelRfl
import Derived.RowKit3
import Derived.Deep.LoopGhost
import Derived.Deep.QuietTactic
import Derived.BigQuiet
import Derived.WideLaws
import Derived.Deep.DeepCutAuto
import Derived.Deep.CutBlock
import Derived.Deep.RegionHeld3
import Derived.Laws.Rows
import Derived.Lib.AppendStr
import Derived.ArgAppend
import Derived.Laws.IdiomCopy
import Derived.OrdersHeld
import Derived.Laws.BitsLemmas
import Derived.RowKit
import Derived.Test.YtikblicmnfnomaaWordR
import Derived.Test.YtikblicmnfnomaaAskS
import Derived.Test.YtikblicmnfnomaaWWords
import Derived.Test.YtikblicmnfnomaaWLast
import Derived.Test.YtikblicmnfnomaaWTab
import Derived.Test.YtikblicmnfnomaaWFour
import Derived.Test.YtikblicmnfnomaaWQPut
import Derived.Test.YtikblicmnfnomaaWApart
import Derived.Test.YtikblicmnfnomaaWArr
import Derived.Test.YtikblicmnfnomaaWZeros
import Derived.Test.YtikblicmnfnomaaWFoot
import Derived.Test.YtikblicmnfnomaaWKept
import Derived.Test.YtikblicmnfnomaaWShare
import Derived.Test.YtikblicmnfnomaaWN
import Derived.Test.YtikblicmnfnomaaWFootNe
import Derived.Test.YtikblicmnfnomaaWAt
import Derived.Test.YtikblicmnfnomaaWEqStruct
import Derived.Test.YtikblicmnfnomaaWRepsOne
import Derived.Test.YtikblicmnfnomaaWInv
import Derived.Test.YtikblicmnfnomaaWInvWords
import Derived.Test.YtikblicmnfnomaaWGuard
import Derived.Test.YtikblicmnfnomaaWNEv
import Derived.Test.YtikblicmnfnomaaWMore
namespace Go.Proofs.Ytikblicmnfnomaa.QC
open Go.RowKit Go.Proofs.Ytikblicmnfnomaa.Man Go.Proofs.YtikblicmnfnomaaW.PrintWords Go.Proofs.YtikblicmnfnomaaW.PrintLast Go.Proofs.YtikblicmnfnomaaW.PrintMore
attribute [local go_sem] max2_int min2_int max_two min_two max_three min_three max_four min_four   -- for this text's walks alone
set_option linter.unusedVariables false
set_option linter.unusedSimpArgs false



def errW : Option Int → Value
  | none => .nilIface
  | some c => .iface 0 (.int .i64 c)
theorem errW_none : errW none = .nilIface := rfl
theorem errW_some (c : Int) : errW (some c) = .iface 0 (.int .i64 c) := rfl

-- the values' own types

end Go.Proofs.Ytikblicmnfnomaa.QC
