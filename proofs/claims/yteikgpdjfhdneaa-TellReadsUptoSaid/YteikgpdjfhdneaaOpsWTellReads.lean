/- How the parameters of the law TellReads are read. -/
import Derived.Test.YteikgpdjfhdneaaOpen
import Derived.Test.YteikgpdjfhdneaaQT0
set_option linter.unusedVariables false
namespace Go.Proofs.Yteikgpdjfhdneaa.OpsTellReads
open Go.RowKit Go.Proofs.YteikgpdjfhdneaaW.PrintWords Go.Proofs.YteikgpdjfhdneaaW.PrintLast Go.Proofs.YteikgpdjfhdneaaW.PrintMore Go.Proofs.Yteikgpdjfhdneaa.Op  Go.Proofs.Yteikgpdjfhdneaa.QT
theorem op9 : Opens Try.prog 9 Kd.string (fun s => s.size ≤ 140737488351232) (fun s => s.size + 1) := opens_string Try.underlying9
end Go.Proofs.Yteikgpdjfhdneaa.OpsTellReads
