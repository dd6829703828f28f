/- How the parameters of the law HallEnds are read. -/
import Derived.Test.YtildlbmhdiknfaaOpen
set_option linter.unusedVariables false
namespace Go.Proofs.Ytildlbmhdiknfaa.OpsHallEnds
open Go.RowKit Go.Proofs.YtildlbmhdiknfaaW.PrintWords Go.Proofs.YtildlbmhdiknfaaW.PrintLast Go.Proofs.YtildlbmhdiknfaaW.PrintMore Go.Proofs.Ytildlbmhdiknfaa.Op 
theorem op9 : Opens Try.prog 9 Kd.string (fun s => s.size ≤ 140737488351232) (fun s => s.size + 1) := opens_string Try.underlying9
end Go.Proofs.Ytildlbmhdiknfaa.OpsHallEnds
