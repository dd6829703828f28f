/- How the parameters of the law TopoApart are read. -/
import Derived.Test.YteikgpdjfhdneaaOpen
import Derived.Test.YteikgpdjfhdneaaQB0
import Derived.Test.YteikgpdjfhdneaaStrG
set_option linter.unusedVariables false
namespace Go.Proofs.Yteikgpdjfhdneaa.OpsTopoApart
open Go.RowKit Go.Proofs.YteikgpdjfhdneaaW.PrintWords Go.Proofs.YteikgpdjfhdneaaW.PrintLast Go.Proofs.YteikgpdjfhdneaaW.PrintMore Go.Proofs.Yteikgpdjfhdneaa.Op Go.Proofs.Yteikgpdjfhdneaa.QB Go.Proofs.Yteikgpdjfhdneaa.Man Go.Proofs.Yteikgpdjfhdneaa.QT
theorem op3 : Opens Try.prog 3 (Kd.int .i64) (fun n => (Lit.int .i64 n).wf = true) (fun _ => 1) := opens_int Try.underlying3
def I60 (s : S60) : Prop := (fun n : Int => (Lit.int .i64 n).wf = true) s.f0 ∧ (fun n : Int => (Lit.int .i64 n).wf = true) s.f1 ∧ (fun n : Int => (Lit.int .i64 n).wf = true) s.f2
def B60 (s : S60) : Nat := ((fun _ : Int => 1) s.f0 + ((fun _ : Int => 1) s.f1 + ((fun _ : Int => 1) s.f2))) + 1
theorem op60 : Opens Try.prog 60 k60 I60 B60 := opens_struct Try.underlying60 (by kernel_rfl) (fun s : S60 => (s.f0, s.f1, s.f2)) (fun p => ⟨p.1, p.2.1, p.2.2⟩) (fun _ => rfl) (opens_cons (by first | rfl | kernel_rfl) (by kernel_rfl) op3 (opens_cons (by first | rfl | kernel_rfl) (by kernel_rfl) op3 (opens_last (by first | rfl | kernel_rfl) (by kernel_rfl) op3)))
theorem op22 : Opens Try.prog 22 (Kd.slice 60 k60) (fun xs : List S60 => (∀ x ∈ xs, I60 x) ∧ xs.length * 24 ≤ 140737488351232) (fun xs : List S60 => (xs.map B60).sum + 1) := opens_slice Try.underlying22 (m := 24) (by kernel_rfl) op60 (by kernel_rfl)
def I24 (s : S24) : Prop := (fun n : Int => (Lit.int .i64 n).wf = true) s.f0 ∧ (fun xs : List S60 => (∀ x ∈ xs, I60 x) ∧ xs.length * 24 ≤ 140737488351232) s.f1
def B24 (s : S24) : Nat := ((fun _ : Int => 1) s.f0 + ((fun xs : List S60 => (xs.map B60).sum + 1) s.f1)) + 1
theorem op24 : Opens Try.prog 24 k24 I24 B24 := opens_struct Try.underlying24 (by kernel_rfl) (fun s : S24 => (s.f0, s.f1)) (fun p => ⟨p.1, p.2⟩) (fun _ => rfl) (opens_cons (by first | rfl | kernel_rfl) (by kernel_rfl) op3 (opens_last (by first | rfl | kernel_rfl) (by kernel_rfl) op22))
end Go.Proofs.Yteikgpdjfhdneaa.OpsTopoApart
