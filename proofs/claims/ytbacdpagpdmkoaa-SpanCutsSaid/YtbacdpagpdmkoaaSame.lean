/- Plain laws on the comparison of rows of numbers: it tells whether they are the same. -/
import Derived.Test.YtbacdpagpdmkoaaQA
set_option linter.unusedVariables false
namespace Go.Proofs.Ytbacdpagpdmkoaa.Same
open Go.RowKit Go.Proofs.Ytbacdpagpdmkoaa.QA Go.Proofs.YtbacdpagpdmkoaaW.PrintWords

theorem wrap_in (x : Int) (h0 : 0 ≤ x) (h1 : x ≤ 562949953421312) : wrap64 x = x := by
  unfold wrap64
  omega
theorem wrap_nat (i : Nat) (h1 : i + 1 ≤ 562949953421312) : wrap64 ((i : Int) + 1) = ((i + 1 : Nat) : Int) := by
  have h0 : 0 ≤ (i : Int) + 1 := by omega
  have h2 : (i : Int) + 1 ≤ 562949953421312 := by omega
  exact (wrap_in _ h0 h2).trans (by omega)
theorem rd_nat (xs : List Int) (i : Nat) (h : i < xs.length) : rd xs (i : Int) = xs[i] := by simp [rd, List.getD_eq_getElem?_getD, h]
theorem same_loop (xs ys : List Int) (hl : xs.length = ys.length) (hb : xs.length ≤ 17592186043904) : ∀ (d i k : Nat), xs.length - i = d → i ≤ xs.length → d < k → tollbarref19_SameInts.l0 k xs ys (i : Int) = some (decide (xs.drop i = ys.drop i)) := by
  intro d
  induction d with
  | zero =>
    intro i k hd hi hk
    obtain ⟨k, rfl⟩ : ∃ m, k = m + 1 := ⟨k - 1, by omega⟩
    simp only [tollbarref19_SameInts.l0]
    rw [if_neg (by omega), List.drop_of_length_le (by omega), List.drop_of_length_le (by omega)]
    rfl
  | succ d ih =>
    intro i k hd hi hk
    obtain ⟨k, rfl⟩ : ∃ m, k = m + 1 := ⟨k - 1, by omega⟩
    have h1 : i < xs.length := by omega
    have h2 : i < ys.length := by omega
    simp only [tollbarref19_SameInts.l0]
    rw [wrap_nat i (by omega), if_pos (by omega), if_pos (by omega), if_pos (by omega), rd_nat xs i h1, rd_nat ys i h2, ih (i + 1) k (by omega) (by omega) (by omega)]
    have e1 := List.drop_eq_getElem_cons h1
    have e2 := List.drop_eq_getElem_cons h2
    by_cases he : xs[i] = ys[i]
    · rw [if_pos he]
      have : (xs.drop i = ys.drop i) ↔ (xs.drop (i + 1) = ys.drop (i + 1)) := by rw [e1, e2, he]; exact ⟨fun h => (List.cons.inj h).2, fun h => by rw [h]⟩
      rw [decide_eq_decide.2 this]
    · rw [if_neg he]
      have : ¬ (xs.drop i = ys.drop i) := by rw [e1, e2]; intro h; injection h with h _; exact he h
      rw [decide_eq_false this]
theorem same_is (xs ys : List Int) (hb : xs.length ≤ 17592186043904) (k : Nat) (hk : xs.length < k) : tollbarref19_SameInts.f k xs ys = some (decide (xs = ys)) := by
  unfold tollbarref19_SameInts.f
  by_cases hl : xs.length = ys.length
  · rw [if_pos (by omega)]
    have := same_loop xs ys hl hb xs.length 0 k (by omega) (by omega) hk
    simpa using this
  · rw [if_neg (by omega)]
    have : xs ≠ ys := fun h => hl (by rw [h])
    simp [this]
theorem same_at (xs ys : List Int) (hb : xs.length ≤ 17592186043904) (k : Nat) (hk : xs.length < k) : tollbarlaw0_SameInts.f k xs ys = some (decide (xs = ys)) := by
  unfold tollbarlaw0_SameInts.f
  rw [same_is xs ys hb k hk]
  rfl
theorem bulk_ints (xs : List Int) : (xs.map fun _ : Int => 1).sum = xs.length := by
  induction xs with
  | nil => rfl
  | cons x r ih => simp [ih, Nat.add_comm]
end Go.Proofs.Ytbacdpagpdmkoaa.Same
