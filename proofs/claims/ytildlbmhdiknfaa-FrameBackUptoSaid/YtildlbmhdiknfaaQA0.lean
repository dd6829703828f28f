-- written by this session's program mprint.py: functions of the Go program, and their contracts
import Derived.Test.YtildlbmhdiknfaaProg
import Derived.Below
import Derived.Deep.Draws
import Derived.Deep.AppendLies
import Derived.Maps.AppendAt
import Derived.OwnWalk
import Derived.Laws.BytesArg
import Derived.Laws.MakeOwn
import Derived.Laws.OwnMore
import Derived.Deep.OwnRows
import Derived.Tactics
import Derived.Lib.ConvBytes
import Derived.Laws.Slices
import Derived.WalkKit
import Derived.KernelRfl
import Derived.RowKit3
import Derived.Deep.LoopGhost
import Derived.Deep.QuietTactic
import Derived.BigQuiet
import Derived.WideLaws
import Derived.Deep.DeepCutAuto
import Derived.Deep.CutBlock
import Derived.Deep.RegionHeld3
import Derived.Laws.Rows
import Derived.Lib.AppendStr
import Derived.ArgAppend
import Derived.Laws.IdiomCopy
import Derived.OrdersHeld
import Derived.Laws.BitsLemmas
import Derived.RowKit
import Derived.Test.YtildlbmhdiknfaaPutF
import Derived.Test.YtildlbmhdiknfaaPutR
import Derived.Test.YtildlbmhdiknfaaNext
import Derived.Test.YtildlbmhdiknfaaWWords
import Derived.Test.YtildlbmhdiknfaaWLast
import Derived.Test.YtildlbmhdiknfaaWTab
import Derived.Test.YtildlbmhdiknfaaWFour
import Derived.Test.YtildlbmhdiknfaaWQPut
import Derived.Test.YtildlbmhdiknfaaWApart
import Derived.Test.YtildlbmhdiknfaaWArr
import Derived.Test.YtildlbmhdiknfaaWZeros
import Derived.Test.YtildlbmhdiknfaaWFoot
import Derived.Test.YtildlbmhdiknfaaWKept
import Derived.Test.YtildlbmhdiknfaaWShare
import Derived.Test.YtildlbmhdiknfaaWN
import Derived.Test.YtildlbmhdiknfaaWFootNe
import Derived.Test.YtildlbmhdiknfaaWAt
import Derived.Test.YtildlbmhdiknfaaWEqStruct
import Derived.Test.YtildlbmhdiknfaaWRepsOne
import Derived.Test.YtildlbmhdiknfaaWInv
import Derived.Test.YtildlbmhdiknfaaWInvWords
import Derived.Test.YtildlbmhdiknfaaWGuard
import Derived.Test.YtildlbmhdiknfaaWNEv
import Derived.Test.YtildlbmhdiknfaaWMore
namespace Go.Proofs.Ytildlbmhdiknfaa.QA
open Go.RowKit Go.Proofs.Ytildlbmhdiknfaa.Man Go.Proofs.YtildlbmhdiknfaaW.PrintWords Go.Proofs.YtildlbmhdiknfaaW.PrintLast Go.Proofs.YtildlbmhdiknfaaW.PrintMore
attribute [local go_sem] max2_int min2_int max_two min_two max_three min_three max_four min_four   -- for this text's walks alone
set_option linter.unusedVariables false
set_option linter.unusedSimpArgs false



def errW : Option Int → Value
  | none => .nilIface
  | some c => .iface 0 (.int .i64 c)
theorem errW_none : errW none = .nilIface := rfl
theorem errW_some (c : Int) : errW (some c) = .iface 0 (.int .i64 c) := rfl

theorem info9 : (Try.prog.info? 9).map (fun i => (i.zero, i.size, i.bytes)) = some (some (.string ⟨#[]⟩), 1, 16) := by kernel_rfl
-- the values' own types

end Go.Proofs.Ytildlbmhdiknfaa.QA
