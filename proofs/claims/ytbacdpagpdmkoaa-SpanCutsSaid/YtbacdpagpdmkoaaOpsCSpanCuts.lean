/- How the parameters of the law SpanCuts are read. -/
import Derived.Test.YtbacdpagpdmkoaaOpen
import Derived.Test.YtbacdpagpdmkoaaQT0
set_option linter.unusedVariables false
namespace Go.Proofs.Ytbacdpagpdmkoaa.OpsSpanCuts
open Go.RowKit Go.Proofs.YtbacdpagpdmkoaaW.PrintWords Go.Proofs.YtbacdpagpdmkoaaW.PrintLast Go.Proofs.YtbacdpagpdmkoaaW.PrintMore Go.Proofs.Ytbacdpagpdmkoaa.Op  Go.Proofs.Ytbacdpagpdmkoaa.QT
theorem op3 : Opens Try.prog 3 (Kd.int .i64) (fun n => (Lit.int .i64 n).wf = true) (fun _ => 1) := opens_int Try.underlying3
def I23 (s : S23) : Prop := (fun n : Int => (Lit.int .i64 n).wf = true) s.f0 ∧ (fun n : Int => (Lit.int .i64 n).wf = true) s.f1
def B23 (s : S23) : Nat := ((fun _ : Int => 1) s.f0 + ((fun _ : Int => 1) s.f1)) + 1
theorem op23 : Opens Try.prog 23 k23 I23 B23 := opens_struct Try.underlying23 (by kernel_rfl) (fun s : S23 => (s.f0, s.f1)) (fun p => ⟨p.1, p.2⟩) (fun _ => rfl) (opens_cons (by first | rfl | kernel_rfl) (by kernel_rfl) op3 (opens_last (by first | rfl | kernel_rfl) (by kernel_rfl) op3))
theorem op41 : Opens Try.prog 41 (Kd.slice 3 (Kd.int .i64)) (fun xs : List Int => (∀ x ∈ xs, (fun n : Int => (Lit.int .i64 n).wf = true) x) ∧ xs.length * 8 ≤ 140737488351232) (fun xs : List Int => (xs.map (fun _ : Int => 1)).sum + 1) := opens_slice Try.underlying41 (m := 8) (by kernel_rfl) op3 (by kernel_rfl)
end Go.Proofs.Ytbacdpagpdmkoaa.OpsSpanCuts
