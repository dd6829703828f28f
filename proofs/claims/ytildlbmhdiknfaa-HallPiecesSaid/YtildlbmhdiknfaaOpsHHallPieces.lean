/- How the parameters of the law HallPieces are read. -/
import Derived.Test.YtildlbmhdiknfaaOpen
set_option linter.unusedVariables false
namespace Go.Proofs.Ytildlbmhdiknfaa.OpsHallPieces
open Go.RowKit Go.Proofs.YtildlbmhdiknfaaW.PrintWords Go.Proofs.YtildlbmhdiknfaaW.PrintLast Go.Proofs.YtildlbmhdiknfaaW.PrintMore Go.Proofs.Ytildlbmhdiknfaa.Op 
theorem op9 : Opens Try.prog 9 Kd.string (fun s => s.size ≤ 140737488351232) (fun s => s.size + 1) := opens_string Try.underlying9
theorem op3 : Opens Try.prog 3 (Kd.int .i64) (fun n => (Lit.int .i64 n).wf = true) (fun _ => 1) := opens_int Try.underlying3
theorem op42 : Opens Try.prog 42 (Kd.slice 3 (Kd.int .i64)) (fun xs : List Int => (∀ x ∈ xs, (fun n : Int => (Lit.int .i64 n).wf = true) x) ∧ xs.length * 8 ≤ 140737488351232) (fun xs : List Int => (xs.map (fun _ : Int => 1)).sum + 1) := opens_slice Try.underlying42 (m := 8) (by kernel_rfl) op3 (by kernel_rfl)
end Go.Proofs.Ytildlbmhdiknfaa.OpsHallPieces
