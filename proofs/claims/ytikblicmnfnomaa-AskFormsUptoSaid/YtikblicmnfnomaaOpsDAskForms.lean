/- How the parameters of the law AskForms are read. -/
import Derived.Test.YtikblicmnfnomaaOpen
import Derived.Test.YtikblicmnfnomaaQD0
set_option linter.unusedVariables false
namespace Go.Proofs.Ytikblicmnfnomaa.OpsAskForms
open Go.RowKit Go.Proofs.YtikblicmnfnomaaW.PrintWords Go.Proofs.YtikblicmnfnomaaW.PrintLast Go.Proofs.YtikblicmnfnomaaW.PrintMore Go.Proofs.Ytikblicmnfnomaa.Op Go.Proofs.Ytikblicmnfnomaa.QD Go.Proofs.Ytikblicmnfnomaa.Man
theorem op9 : Opens Try.prog 9 Kd.string (fun s => s.size ≤ 140737488351232) (fun s => s.size + 1) := opens_string Try.underlying9
theorem op3 : Opens Try.prog 3 (Kd.int .i64) (fun n => (Lit.int .i64 n).wf = true) (fun _ => 1) := opens_int Try.underlying3
end Go.Proofs.Ytikblicmnfnomaa.OpsAskForms
