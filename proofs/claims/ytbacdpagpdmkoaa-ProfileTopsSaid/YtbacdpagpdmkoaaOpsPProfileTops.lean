/- How the parameters of the law ProfileTops are read. -/
import Derived.Test.YtbacdpagpdmkoaaOpen
import Derived.Test.YtbacdpagpdmkoaaQT0
set_option linter.unusedVariables false
namespace Go.Proofs.Ytbacdpagpdmkoaa.OpsProfileTops
open Go.RowKit Go.Proofs.YtbacdpagpdmkoaaW.PrintWords Go.Proofs.YtbacdpagpdmkoaaW.PrintLast Go.Proofs.YtbacdpagpdmkoaaW.PrintMore Go.Proofs.Ytbacdpagpdmkoaa.Op  Go.Proofs.Ytbacdpagpdmkoaa.QT
theorem op3 : Opens Try.prog 3 (Kd.int .i64) (fun n => (Lit.int .i64 n).wf = true) (fun _ => 1) := opens_int Try.underlying3
def I82 (s : S82) : Prop := (fun n : Int => (Lit.int .i64 n).wf = true) s.f0 ∧ (fun n : Int => (Lit.int .i64 n).wf = true) s.f1
def B82 (s : S82) : Nat := ((fun _ : Int => 1) s.f0 + ((fun _ : Int => 1) s.f1)) + 1
theorem op82 : Opens Try.prog 82 k82 I82 B82 := opens_struct Try.underlying82 (by kernel_rfl) (fun s : S82 => (s.f0, s.f1)) (fun p => ⟨p.1, p.2⟩) (fun _ => rfl) (opens_cons (by first | rfl | kernel_rfl) (by kernel_rfl) op3 (opens_last (by first | rfl | kernel_rfl) (by kernel_rfl) op3))
theorem op50 : Opens Try.prog 50 (Kd.slice 82 k82) (fun xs : List S82 => (∀ x ∈ xs, I82 x) ∧ xs.length * 16 ≤ 140737488351232) (fun xs : List S82 => (xs.map B82).sum + 1) := opens_slice Try.underlying50 (m := 16) (by kernel_rfl) op82 (by kernel_rfl)
def I23 (s : S23) : Prop := (fun n : Int => (Lit.int .i64 n).wf = true) s.f0 ∧ (fun n : Int => (Lit.int .i64 n).wf = true) s.f1
def B23 (s : S23) : Nat := ((fun _ : Int => 1) s.f0 + ((fun _ : Int => 1) s.f1)) + 1
theorem op23 : Opens Try.prog 23 k23 I23 B23 := opens_struct Try.underlying23 (by kernel_rfl) (fun s : S23 => (s.f0, s.f1)) (fun p => ⟨p.1, p.2⟩) (fun _ => rfl) (opens_cons (by first | rfl | kernel_rfl) (by kernel_rfl) op3 (opens_last (by first | rfl | kernel_rfl) (by kernel_rfl) op3))
end Go.Proofs.Ytbacdpagpdmkoaa.OpsProfileTops
