/- How the parameters of the law ProfilePiles are read. -/
import Derived.Test.YtbacdpagpdmkoaaOpen
import Derived.Test.YtbacdpagpdmkoaaQT0
set_option linter.unusedVariables false
namespace Go.Proofs.Ytbacdpagpdmkoaa.OpsProfilePiles
open Go.RowKit Go.Proofs.YtbacdpagpdmkoaaW.PrintWords Go.Proofs.YtbacdpagpdmkoaaW.PrintLast Go.Proofs.YtbacdpagpdmkoaaW.PrintMore Go.Proofs.Ytbacdpagpdmkoaa.Op  Go.Proofs.Ytbacdpagpdmkoaa.QT
theorem op3 : Opens Try.prog 3 (Kd.int .i64) (fun n => (Lit.int .i64 n).wf = true) (fun _ => 1) := opens_int Try.underlying3
def I23 (s : S23) : Prop := (fun n : Int => (Lit.int .i64 n).wf = true) s.f0 ∧ (fun n : Int => (Lit.int .i64 n).wf = true) s.f1
def B23 (s : S23) : Nat := ((fun _ : Int => 1) s.f0 + ((fun _ : Int => 1) s.f1)) + 1
theorem op23 : Opens Try.prog 23 k23 I23 B23 := opens_struct Try.underlying23 (by kernel_rfl) (fun s : S23 => (s.f0, s.f1)) (fun p => ⟨p.1, p.2⟩) (fun _ => rfl) (opens_cons (by first | rfl | kernel_rfl) (by kernel_rfl) op3 (opens_last (by first | rfl | kernel_rfl) (by kernel_rfl) op3))
def I73 (s : S73) : Prop := I23 s.f0 ∧ (fun n : Int => (Lit.int .i64 n).wf = true) s.f1
def B73 (s : S73) : Nat := (B23 s.f0 + ((fun _ : Int => 1) s.f1)) + 1
theorem op73 : Opens Try.prog 73 k73 I73 B73 := opens_struct Try.underlying73 (by kernel_rfl) (fun s : S73 => (s.f0, s.f1)) (fun p => ⟨p.1, p.2⟩) (fun _ => rfl) (opens_cons (by first | rfl | kernel_rfl) (by kernel_rfl) op23 (opens_last (by first | rfl | kernel_rfl) (by kernel_rfl) op3))
theorem op63 : Opens Try.prog 63 (Kd.slice 73 k73) (fun xs : List S73 => (∀ x ∈ xs, I73 x) ∧ xs.length * 24 ≤ 140737488351232) (fun xs : List S73 => (xs.map B73).sum + 1) := opens_slice Try.underlying63 (m := 24) (by kernel_rfl) op73 (by kernel_rfl)
end Go.Proofs.Ytbacdpagpdmkoaa.OpsProfilePiles
