/- How the parameters of the law HallApart are read. -/
import Derived.Test.YtildlbmhdiknfaaOpen
set_option linter.unusedVariables false
namespace Go.Proofs.Ytildlbmhdiknfaa.OpsHallApart
open Go.RowKit Go.Proofs.YtildlbmhdiknfaaW.PrintWords Go.Proofs.YtildlbmhdiknfaaW.PrintLast Go.Proofs.YtildlbmhdiknfaaW.PrintMore Go.Proofs.Ytildlbmhdiknfaa.Op 
theorem op9 : Opens Try.prog 9 Kd.string (fun s => s.size ≤ 140737488351232) (fun s => s.size + 1) := opens_string Try.underlying9
theorem op3 : Opens Try.prog 3 (Kd.int .i64) (fun n => (Lit.int .i64 n).wf = true) (fun _ => 1) := opens_int Try.underlying3
end Go.Proofs.Ytildlbmhdiknfaa.OpsHallApart
