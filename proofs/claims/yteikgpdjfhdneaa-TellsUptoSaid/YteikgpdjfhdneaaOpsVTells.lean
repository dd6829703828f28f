/- How the parameters of the law Tells are read. -/
import Derived.Test.YteikgpdjfhdneaaOpen
import Derived.Test.YteikgpdjfhdneaaStrR
set_option linter.unusedVariables false
namespace Go.Proofs.Yteikgpdjfhdneaa.OpsTells
open Go.RowKit Go.Proofs.YteikgpdjfhdneaaW.PrintWords Go.Proofs.YteikgpdjfhdneaaW.PrintLast Go.Proofs.YteikgpdjfhdneaaW.PrintMore Go.Proofs.Yteikgpdjfhdneaa.Op  Go.Proofs.Yteikgpdjfhdneaa.QT Go.Proofs.Yteikgpdjfhdneaa.Man
theorem op3 : Opens Try.prog 3 (Kd.int .i64) (fun n => (Lit.int .i64 n).wf = true) (fun _ => 1) := opens_int Try.underlying3
def I42 (s : S42) : Prop := (fun n : Int => (Lit.int .i64 n).wf = true) s.f0 ∧ (fun n : Int => (Lit.int .i64 n).wf = true) s.f1
def B42 (s : S42) : Nat := ((fun _ : Int => 1) s.f0 + ((fun _ : Int => 1) s.f1)) + 1
theorem op42 : Opens Try.prog 42 k42 I42 B42 := opens_struct Try.underlying42 (by kernel_rfl) (fun s : S42 => (s.f0, s.f1)) (fun p => ⟨p.1, p.2⟩) (fun _ => rfl) (opens_cons (by first | rfl | kernel_rfl) (by kernel_rfl) op3 (opens_last (by first | rfl | kernel_rfl) (by kernel_rfl) op3))
theorem op43 : Opens Try.prog 43 (Kd.slice 3 (Kd.int .i64)) (fun xs : List Int => (∀ x ∈ xs, (fun n : Int => (Lit.int .i64 n).wf = true) x) ∧ xs.length * 8 ≤ 140737488351232) (fun xs : List Int => (xs.map (fun _ : Int => 1)).sum + 1) := opens_slice Try.underlying43 (m := 8) (by kernel_rfl) op3 (by kernel_rfl)
def I45 (s : S45) : Prop := (fun n : Int => (Lit.int .i64 n).wf = true) s.f0 ∧ (fun xs : List Int => (∀ x ∈ xs, (fun n : Int => (Lit.int .i64 n).wf = true) x) ∧ xs.length * 8 ≤ 140737488351232) s.f1
def B45 (s : S45) : Nat := ((fun _ : Int => 1) s.f0 + ((fun xs : List Int => (xs.map (fun _ : Int => 1)).sum + 1) s.f1)) + 1
theorem op45 : Opens Try.prog 45 k45 I45 B45 := opens_struct Try.underlying45 (by kernel_rfl) (fun s : S45 => (s.f0, s.f1)) (fun p => ⟨p.1, p.2⟩) (fun _ => rfl) (opens_cons (by first | rfl | kernel_rfl) (by kernel_rfl) op3 (opens_last (by first | rfl | kernel_rfl) (by kernel_rfl) op43))
def I78 (s : S78) : Prop := (fun n : Int => (Lit.int .i64 n).wf = true) s.f0 ∧ (fun xs : List Int => (∀ x ∈ xs, (fun n : Int => (Lit.int .i64 n).wf = true) x) ∧ xs.length * 8 ≤ 140737488351232) s.f1
def B78 (s : S78) : Nat := ((fun _ : Int => 1) s.f0 + ((fun xs : List Int => (xs.map (fun _ : Int => 1)).sum + 1) s.f1)) + 1
theorem op78 : Opens Try.prog 78 k78 I78 B78 := opens_struct Try.underlying78 (by kernel_rfl) (fun s : S78 => (s.f0, s.f1)) (fun p => ⟨p.1, p.2⟩) (fun _ => rfl) (opens_cons (by first | rfl | kernel_rfl) (by kernel_rfl) op3 (opens_last (by first | rfl | kernel_rfl) (by kernel_rfl) op43))
theorem op74 : Opens Try.prog 74 (Kd.slice 78 k78) (fun xs : List S78 => (∀ x ∈ xs, I78 x) ∧ xs.length * 32 ≤ 140737488351232) (fun xs : List S78 => (xs.map B78).sum + 1) := opens_slice Try.underlying74 (m := 32) (by kernel_rfl) op78 (by kernel_rfl)
def I76 (s : S76) : Prop := I42 s.f0 ∧ (fun xs : List S78 => (∀ x ∈ xs, I78 x) ∧ xs.length * 32 ≤ 140737488351232) s.f1
def B76 (s : S76) : Nat := (B42 s.f0 + ((fun xs : List S78 => (xs.map B78).sum + 1) s.f1)) + 1
theorem op76 : Opens Try.prog 76 k76 I76 B76 := opens_struct Try.underlying76 (by kernel_rfl) (fun s : S76 => (s.f0, s.f1)) (fun p => ⟨p.1, p.2⟩) (fun _ => rfl) (opens_cons (by first | rfl | kernel_rfl) (by kernel_rfl) op42 (opens_last (by first | rfl | kernel_rfl) (by kernel_rfl) op74))
theorem op46 : Opens Try.prog 46 (Kd.slice 76 k76) (fun xs : List S76 => (∀ x ∈ xs, I76 x) ∧ xs.length * 40 ≤ 140737488351232) (fun xs : List S76 => (xs.map B76).sum + 1) := opens_slice Try.underlying46 (m := 40) (by kernel_rfl) op76 (by kernel_rfl)
def I48 (s : S48) : Prop := I42 s.f0 ∧ I45 s.f1 ∧ (fun n : Int => (Lit.int .i64 n).wf = true) s.f2 ∧ (fun n : Int => (Lit.int .i64 n).wf = true) s.f3 ∧ (fun n : Int => (Lit.int .i64 n).wf = true) s.f4 ∧ (fun n : Int => (Lit.int .i64 n).wf = true) s.f5 ∧ (fun n : Int => (Lit.int .i64 n).wf = true) s.f6 ∧ (fun xs : List S76 => (∀ x ∈ xs, I76 x) ∧ xs.length * 40 ≤ 140737488351232) s.f7
def B48 (s : S48) : Nat := (B42 s.f0 + (B45 s.f1 + ((fun _ : Int => 1) s.f2 + ((fun _ : Int => 1) s.f3 + ((fun _ : Int => 1) s.f4 + ((fun _ : Int => 1) s.f5 + ((fun _ : Int => 1) s.f6 + ((fun xs : List S76 => (xs.map B76).sum + 1) s.f7)))))))) + 1
theorem op48 : Opens Try.prog 48 k48 I48 B48 := opens_struct Try.underlying48 (by kernel_rfl) (fun s : S48 => (s.f0, s.f1, s.f2, s.f3, s.f4, s.f5, s.f6, s.f7)) (fun p => ⟨p.1, p.2.1, p.2.2.1, p.2.2.2.1, p.2.2.2.2.1, p.2.2.2.2.2.1, p.2.2.2.2.2.2.1, p.2.2.2.2.2.2.2⟩) (fun _ => rfl) (opens_cons (by first | rfl | kernel_rfl) (by kernel_rfl) op42 (opens_cons (by first | rfl | kernel_rfl) (by kernel_rfl) op45 (opens_cons (by first | rfl | kernel_rfl) (by kernel_rfl) op3 (opens_cons (by first | rfl | kernel_rfl) (by kernel_rfl) op3 (opens_cons (by first | rfl | kernel_rfl) (by kernel_rfl) op3 (opens_cons (by first | rfl | kernel_rfl) (by kernel_rfl) op3 (opens_cons (by first | rfl | kernel_rfl) (by kernel_rfl) op3 (opens_last (by first | rfl | kernel_rfl) (by kernel_rfl) op46))))))))
end Go.Proofs.Yteikgpdjfhdneaa.OpsTells
