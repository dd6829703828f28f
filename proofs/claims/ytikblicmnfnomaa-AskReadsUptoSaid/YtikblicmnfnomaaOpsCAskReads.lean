/- How the parameters of the law AskReads are read. -/
import Derived.Test.YtikblicmnfnomaaOpen
import Derived.Test.YtikblicmnfnomaaQC0
set_option linter.unusedVariables false
namespace Go.Proofs.Ytikblicmnfnomaa.OpsAskReads
open Go.RowKit Go.Proofs.YtikblicmnfnomaaW.PrintWords Go.Proofs.YtikblicmnfnomaaW.PrintLast Go.Proofs.YtikblicmnfnomaaW.PrintMore Go.Proofs.Ytikblicmnfnomaa.Op Go.Proofs.Ytikblicmnfnomaa.QC Go.Proofs.Ytikblicmnfnomaa.Man
theorem op9 : Opens Try.prog 9 Kd.string (fun s => s.size ≤ 140737488351232) (fun s => s.size + 1) := opens_string Try.underlying9
end Go.Proofs.Ytikblicmnfnomaa.OpsAskReads
