-- written by this session's program mprint.py: functions of the Go program, and their contracts
import Derived.Test.YtbacdpagpdmkoaaQA0
import Derived.Test.YtbacdpagpdmkoaaQA1
import Derived.Test.YtbacdpagpdmkoaaQA2
import Derived.Test.YtbacdpagpdmkoaaQA3
import Derived.Test.YtbacdpagpdmkoaaQA4
namespace Go.Proofs.Ytbacdpagpdmkoaa.QA
open Go.RowKit Go.Proofs.Ytbacdpagpdmkoaa.Man Go.Proofs.YtbacdpagpdmkoaaW.PrintWords Go.Proofs.YtbacdpagpdmkoaaW.PrintLast Go.Proofs.YtbacdpagpdmkoaaW.PrintMore
attribute [local go_sem] max2_int min2_int max_two min_two max_three min_three max_four min_four   -- for this text's walks alone
set_option linter.unusedVariables false
set_option linter.unusedSimpArgs false

end Go.Proofs.Ytbacdpagpdmkoaa.QA
