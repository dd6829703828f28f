/- How the parameters of the law Asks are read. -/
import Derived.Test.YtikblicmnfnomaaOpen
import Derived.Test.YtikblicmnfnomaaQB0
import Derived.Test.YtikblicmnfnomaaStrQ
set_option linter.unusedVariables false
namespace Go.Proofs.Ytikblicmnfnomaa.OpsAsks
open Go.RowKit Go.Proofs.YtikblicmnfnomaaW.PrintWords Go.Proofs.YtikblicmnfnomaaW.PrintLast Go.Proofs.YtikblicmnfnomaaW.PrintMore Go.Proofs.Ytikblicmnfnomaa.Op Go.Proofs.Ytikblicmnfnomaa.QB Go.Proofs.Ytikblicmnfnomaa.Man
theorem op3 : Opens Try.prog 3 (Kd.int .i64) (fun n => (Lit.int .i64 n).wf = true) (fun _ => 1) := opens_int Try.underlying3
def I44 (s : S44) : Prop := (fun n : Int => (Lit.int .i64 n).wf = true) s.f0 ∧ (fun n : Int => (Lit.int .i64 n).wf = true) s.f1
def B44 (s : S44) : Nat := ((fun _ : Int => 1) s.f0 + ((fun _ : Int => 1) s.f1)) + 1
theorem op44 : Opens Try.prog 44 k44 I44 B44 := opens_struct Try.underlying44 (by kernel_rfl) (fun s : S44 => (s.f0, s.f1)) (fun p => ⟨p.1, p.2⟩) (fun _ => rfl) (opens_cons (by first | rfl | kernel_rfl) (by kernel_rfl) op3 (opens_last (by first | rfl | kernel_rfl) (by kernel_rfl) op3))
def I46 (s : S46) : Prop := I44 s.f0 ∧ (fun n : Int => (Lit.int .i64 n).wf = true) s.f1 ∧ (fun n : Int => (Lit.int .i64 n).wf = true) s.f2 ∧ (fun n : Int => (Lit.int .i64 n).wf = true) s.f3 ∧ (fun n : Int => (Lit.int .i64 n).wf = true) s.f4 ∧ (fun n : Int => (Lit.int .i64 n).wf = true) s.f5
def B46 (s : S46) : Nat := (B44 s.f0 + ((fun _ : Int => 1) s.f1 + ((fun _ : Int => 1) s.f2 + ((fun _ : Int => 1) s.f3 + ((fun _ : Int => 1) s.f4 + ((fun _ : Int => 1) s.f5)))))) + 1
theorem op46 : Opens Try.prog 46 k46 I46 B46 := opens_struct Try.underlying46 (by kernel_rfl) (fun s : S46 => (s.f0, s.f1, s.f2, s.f3, s.f4, s.f5)) (fun p => ⟨p.1, p.2.1, p.2.2.1, p.2.2.2.1, p.2.2.2.2.1, p.2.2.2.2.2⟩) (fun _ => rfl) (opens_cons (by first | rfl | kernel_rfl) (by kernel_rfl) op44 (opens_cons (by first | rfl | kernel_rfl) (by kernel_rfl) op3 (opens_cons (by first | rfl | kernel_rfl) (by kernel_rfl) op3 (opens_cons (by first | rfl | kernel_rfl) (by kernel_rfl) op3 (opens_cons (by first | rfl | kernel_rfl) (by kernel_rfl) op3 (opens_last (by first | rfl | kernel_rfl) (by kernel_rfl) op3))))))
end Go.Proofs.Ytikblicmnfnomaa.OpsAsks
