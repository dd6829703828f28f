/- How the parameters of the law FrameBack are read. -/
import Derived.Test.YtildlbmhdiknfaaOpen
import Derived.Test.YtildlbmhdiknfaaQA0
set_option linter.unusedVariables false
namespace Go.Proofs.Ytildlbmhdiknfaa.OpsFrameBack
open Go.RowKit Go.Proofs.YtildlbmhdiknfaaW.PrintWords Go.Proofs.YtildlbmhdiknfaaW.PrintLast Go.Proofs.YtildlbmhdiknfaaW.PrintMore Go.Proofs.Ytildlbmhdiknfaa.Op Go.Proofs.Ytildlbmhdiknfaa.QA
theorem op9 : Opens Try.prog 9 Kd.string (fun s => s.size ≤ 140737488351232) (fun s => s.size + 1) := opens_string Try.underlying9
theorem op22 : Opens Try.prog 22 (Kd.slice 9 Kd.string) (fun xs : List ByteArray => (∀ x ∈ xs, (fun s : ByteArray => s.size ≤ 140737488351232) x) ∧ xs.length * 16 ≤ 140737488351232) (fun xs : List ByteArray => (xs.map (fun s : ByteArray => s.size + 1)).sum + 1) := opens_slice Try.underlying22 (m := 16) (by kernel_rfl) op9 (by kernel_rfl)
end Go.Proofs.Ytildlbmhdiknfaa.OpsFrameBack
