/- How arguments read as data: each kind of value that the form's reader meets is read as a list, a number, a struct of them; with its bounds, and with its bulk. -/
import Derived.Test.YteikgpdjfhdneaaRows
import Derived.Test.YteikgpdjfhdneaaWMore
import Derived.OpenShut
import Derived.WideShapes
import Derived.SizedLaws
set_option linter.unusedVariables false
namespace Go.Proofs.Yteikgpdjfhdneaa.Op
open Go.RowKit Go.Proofs.YteikgpdjfhdneaaW.PrintWords Go.Proofs.YteikgpdjfhdneaaW.PrintLast Go.Proofs.YteikgpdjfhdneaaW.PrintMore
def Opens (P : Program) (t : TypeId) {α : Type} (d : Kd α) (I : α → Prop) (B : α → Nat) : Prop :=
  ∀ {H : Type} (enc : TypeId × Value → H) (w : World) (fuel : Nat) (cs : List Value) (x : DataW H × List MemPlace),
    DataW.trod enc P w 0 (fun _ => true) true fuel t cs = some x → (∀ n ∈ x.1.weights P t, n ≤ reachBytes) →
    ∃ a : α, d.K w a cs ∧ I a ∧ B a ≤ Rows.uptoBulk x.1
theorem opens_string {P : Program} {t : TypeId} (ht : P.underlying t = some .string) : Opens P t Kd.string (fun s => s.size ≤ 140737488351232) (fun s => s.size + 1) := by
  intro H enc w fuel cs x h hz
  obtain ⟨s, rfl, rfl, hw⟩ := DataW.trod_string ht h
  have e : s.data.toList.length = s.size := by rw [Array.length_toList]; rfl
  refine ⟨s, rfl, ?_, by simp only [Rows.uptoBulk]; omega⟩
  have := hz s.data.toList.length (by simp [DataW.weights])
  simp only [reachBytes] at this
  omega
theorem arg_open {P : Program} {t : TypeId} {α : Type} {d : Kd α} {I : α → Prop} {B : α → Nat} (h : Opens P t d I B) {H : Type} {enc : TypeId × Value → H} {w : World} {v : Value} {x : DataW H} {p : List MemPlace} (ht : DataW.Trod enc P w 0 (fun _ => true) true t v x p)
    (hz : ∀ n ∈ x.weights P t, n ≤ reachBytes) : ∃ a : α, d.K w a v.cells.toList ∧ I a ∧ B a ≤ Rows.uptoBulk x := by
  obtain ⟨fuel, hf⟩ := ht
  exact h enc w fuel _ _ hf hz
theorem arg_weights {H : Type} {P : Program} {ts : List TypeId} {ds : List (DataW H)} (h : (DataW.weightsEach P ts ds).all (· ≤ reachBytes) = true) (j : Nat) {t : TypeId} {d : DataW H} (ht : ts[j]? = some t) (hd : ds[j]? = some d) : ∀ n ∈ d.weights P t, n ≤ reachBytes := by
  intro n hn
  have := List.all_eq_true.1 h n (DataW.weights_mem_each ht hd n hn)
  simpa using this
end Go.Proofs.Yteikgpdjfhdneaa.Op
