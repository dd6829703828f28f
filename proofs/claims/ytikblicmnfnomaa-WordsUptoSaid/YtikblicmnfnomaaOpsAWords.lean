/- How the parameters of the law Words are read. -/
import Derived.Test.YtikblicmnfnomaaOpen
import Derived.Test.YtikblicmnfnomaaQA0
set_option linter.unusedVariables false
namespace Go.Proofs.Ytikblicmnfnomaa.OpsWords
open Go.RowKit Go.Proofs.YtikblicmnfnomaaW.PrintWords Go.Proofs.YtikblicmnfnomaaW.PrintLast Go.Proofs.YtikblicmnfnomaaW.PrintMore Go.Proofs.Ytikblicmnfnomaa.Op Go.Proofs.Ytikblicmnfnomaa.QA
theorem op3 : Opens Try.prog 3 (Kd.int .i64) (fun n => (Lit.int .i64 n).wf = true) (fun _ => 1) := opens_int Try.underlying3
theorem op22 : Opens Try.prog 22 (Kd.slice 3 (Kd.int .i64)) (fun xs : List Int => (∀ x ∈ xs, (fun n : Int => (Lit.int .i64 n).wf = true) x) ∧ xs.length * 8 ≤ 140737488351232) (fun xs : List Int => (xs.map (fun _ : Int => 1)).sum + 1) := opens_slice Try.underlying22 (m := 8) (by kernel_rfl) op3 (by kernel_rfl)
end Go.Proofs.Ytikblicmnfnomaa.OpsWords
