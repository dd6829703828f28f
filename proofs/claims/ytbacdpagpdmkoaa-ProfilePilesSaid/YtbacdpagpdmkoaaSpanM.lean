/- Plain facts on sorting and leaving out equal ones. -/
import Derived.Test.YtbacdpagpdmkoaaSortC
set_option linter.unusedVariables false
namespace Go.Proofs.Ytbacdpagpdmkoaa.Man
open Go.RowKit

theorem sortF_perm (xs : List Int) : (sortF xs).Perm xs := List.mergeSort_perm xs _
theorem sortF_mem (xs : List Int) (x : Int) : x ∈ sortF xs ↔ x ∈ xs := (sortF_perm xs).mem_iff
theorem sortF_rising (xs : List Int) : (sortF xs).Pairwise (· ≤ ·) := by
  have h := List.pairwise_mergeSort (le := fun x y : Int => decide (x ≤ y)) (by intro a b c; simp; omega) (by intro a b; simp; omega) xs
  unfold sortF
  exact h.imp (fun h => by simpa using h)
theorem uqF_mem : ∀ (xs : List Int) (p x : Int), x ∈ p :: uqF p xs ↔ x ∈ p :: xs
  | [], p, x => Iff.rfl
  | y :: r, p, x => by
    simp only [uqF]
    by_cases h : y = p
    · subst h
      rw [if_pos rfl, uqF_mem r y x]
      simp
    · rw [if_neg h, List.mem_cons, uqF_mem r y x, List.mem_cons (a := x) (b := p)]
theorem uniqF_mem (xs : List Int) (x : Int) : x ∈ uniqF xs ↔ x ∈ xs := by
  cases xs with
  | nil => exact Iff.rfl
  | cons y r => exact uqF_mem r y x
theorem uqF_strict : ∀ (xs : List Int) (p : Int), (p :: xs).Pairwise (· ≤ ·) → (p :: uqF p xs).Pairwise (· < ·)
  | [], p, _ => by simp [uqF]
  | y :: r, p, h => by
    obtain ⟨h1, h2⟩ := List.pairwise_cons.1 h
    simp only [uqF]
    by_cases e : y = p
    · subst e
      rw [if_pos rfl]
      exact uqF_strict r y h2
    · rw [if_neg e]
      have h3 := uqF_strict r y h2
      refine List.pairwise_cons.2 ⟨fun z hz => ?_, h3⟩
      have hy := h1 y (List.mem_cons_self ..)
      rcases List.mem_cons.1 hz with rfl | hz
      · omega
      · have := (List.pairwise_cons.1 h3).1 z hz
        omega
theorem uniqF_strict (xs : List Int) (h : xs.Pairwise (· ≤ ·)) : (uniqF xs).Pairwise (· < ·) := by
  cases xs with
  | nil => exact List.Pairwise.nil
  | cons y r => exact uqF_strict r y h
/-- Strictly rising numbers of a range are no more than it is long. -/
theorem strict_len : ∀ (zs : List Int) (a b : Int), zs.Pairwise (· < ·) → (∀ z ∈ zs, a < z ∧ z ≤ b) → (zs.length : Int) ≤ max 0 (b - a)
  | [], a, b, _, _ => by simp; omega
  | z :: r, a, b, h, hm => by
    obtain ⟨h1, h2⟩ := List.pairwise_cons.1 h
    have hz := hm z (List.mem_cons_self ..)
    have := strict_len r z b h2 (fun y hy => ⟨h1 y hy, (hm y (List.mem_cons_of_mem _ hy)).2⟩)
    simp
    omega
end Go.Proofs.Ytbacdpagpdmkoaa.Man
