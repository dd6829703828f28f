/- How the parameters of the law SpanHulls are read. -/
import Derived.Test.YtbacdpagpdmkoaaOpen
import Derived.Test.YtbacdpagpdmkoaaQA0
import Derived.Test.YtbacdpagpdmkoaaQT0
set_option linter.unusedVariables false
namespace Go.Proofs.Ytbacdpagpdmkoaa.OpsSpanHulls
open Go.RowKit Go.Proofs.YtbacdpagpdmkoaaW.PrintWords Go.Proofs.YtbacdpagpdmkoaaW.PrintLast Go.Proofs.YtbacdpagpdmkoaaW.PrintMore Go.Proofs.Ytbacdpagpdmkoaa.Op Go.Proofs.Ytbacdpagpdmkoaa.QA Go.Proofs.Ytbacdpagpdmkoaa.Man Go.Proofs.Ytbacdpagpdmkoaa.QT
theorem op3 : Opens Try.prog 3 (Kd.int .i64) (fun n => (Lit.int .i64 n).wf = true) (fun _ => 1) := opens_int Try.underlying3
def I23 (s : S23) : Prop := (fun n : Int => (Lit.int .i64 n).wf = true) s.f0 ∧ (fun n : Int => (Lit.int .i64 n).wf = true) s.f1
def B23 (s : S23) : Nat := ((fun _ : Int => 1) s.f0 + ((fun _ : Int => 1) s.f1)) + 1
theorem op23 : Opens Try.prog 23 k23 I23 B23 := opens_struct Try.underlying23 (by kernel_rfl) (fun s : S23 => (s.f0, s.f1)) (fun p => ⟨p.1, p.2⟩) (fun _ => rfl) (opens_cons (by first | rfl | kernel_rfl) (by kernel_rfl) op3 (opens_last (by first | rfl | kernel_rfl) (by kernel_rfl) op3))
theorem op31 : Opens Try.prog 31 (Kd.slice 23 k23) (fun xs : List S23 => (∀ x ∈ xs, I23 x) ∧ xs.length * 16 ≤ 140737488351232) (fun xs : List S23 => (xs.map B23).sum + 1) := opens_slice Try.underlying31 (m := 16) (by kernel_rfl) op23 (by kernel_rfl)
end Go.Proofs.Ytbacdpagpdmkoaa.OpsSpanHulls
