/- The plain laws of chapter 24. -/
import Derived.Test.YteikgpdjfhdneaaQBa
import Derived.Test.YteikgpdjfhdneaaTopoL
import Derived.Test.YteikgpdjfhdneaaStrG
set_option linter.unusedVariables false
set_option linter.unusedSimpArgs false
namespace Go.Proofs.Yteikgpdjfhdneaa.Pure
open Go.RowKit Go.Proofs.Yteikgpdjfhdneaa.QT Go.Proofs.Yteikgpdjfhdneaa.QA Go.Proofs.Yteikgpdjfhdneaa.QB Go.Proofs.Yteikgpdjfhdneaa.Man Go.Proofs.Yteikgpdjfhdneaa.WordM Go.Proofs.Yteikgpdjfhdneaa.WordL Go.Proofs.Yteikgpdjfhdneaa.TopoL Go.Proofs.YteikgpdjfhdneaaW.PrintWords Go.Proofs.YteikgpdjfhdneaaW.PrintLast Go.Proofs.YteikgpdjfhdneaaW.PrintMore

theorem numT (x : Int) : tollbarlaw0_Num.f x = some x := rfl
theorem awake60 : tollbarlaw24_awake.f 60 = some true := by decide +kernel
theorem awakeT (k : Nat) (hk : 60 ≤ k) : tollbarlaw24_awake.f k = some true := at_rounds (g := fun k => tollbarlaw24_awake.f k) (fun k => tollbarlaw24_awake.mono k) hk awake60

def sameL : List Lk → List Lk → Bool
  | [], [] => true
  | x :: r, y :: s => ((x.f0 == y.f0) && ((x.f1 == y.f1) && (x.f2 == y.f2))) && sameL r s
  | _, _ => false
theorem sameL_iff : ∀ (xs ys : List Lk), sameL xs ys = true ↔ xs = ys
  | [], [] => by simp [sameL]
  | [], y :: ys => by simp [sameL]
  | x :: xs, [] => by simp [sameL]
  | x :: xs, y :: ys => by
    rw [sameL, Bool.and_eq_true, sameL_iff xs ys]
    simp only [Bool.and_eq_true, beq_iff_eq, List.cons.injEq]
    obtain ⟨a, b, c⟩ := x
    obtain ⟨d, e, f⟩ := y
    simp
theorem same_l0 (v v' : Int) (xs ys : List Lk) (hl : xs.length = ys.length) (hb : xs.length ≤ 281474976710656) : ∀ (d i k : Nat), xs.length - i = d → i ≤ xs.length → d < k → tollbarlaw0_SameGraph.l0 k (i : Int) v xs v' ys = some (sameL (xs.drop i) (ys.drop i)) := by
  intro d
  induction d with
  | zero =>
    intro i k hd hi hk
    obtain ⟨k, rfl⟩ : ∃ m, k = m + 1 := ⟨k - 1, by omega⟩
    rw [tollbarlaw0_SameGraph.l0, if_neg (by omega), List.drop_of_length_le (by omega), List.drop_of_length_le (by omega)]
    rfl
  | succ d ih =>
    intro i k hd hi hk
    obtain ⟨k, rfl⟩ : ∃ m, k = m + 1 := ⟨k - 1, by omega⟩
    have hx : i < xs.length := by omega
    have hy : i < ys.length := by omega
    rw [tollbarlaw0_SameGraph.l0, if_pos (by omega), if_pos (by omega), if_pos (by omega), rl_at xs i hx, rl_at ys i hy, wrap_next i (by omega), ih (i + 1) k (by omega) (by omega) (by omega), List.drop_eq_getElem_cons hx, List.drop_eq_getElem_cons hy, sameL]
    obtain ⟨x, h1⟩ : ∃ x, xs[i] = x := ⟨_, rfl⟩
    obtain ⟨y, h2⟩ : ∃ y, ys[i] = y := ⟨_, rfl⟩
    rw [h1, h2]
    cases x.f0 == y.f0 <;> cases x.f1 == y.f1 <;> cases x.f2 == y.f2 <;> rfl
theorem same_is (v v' : Int) (xs ys : List Lk) (hb : xs.length ≤ 281474976710656) (k : Nat) (hk : xs.length + 2 ≤ k) : ∃ b, tollbarlaw0_SameGraph.f k v xs v' ys = some b ∧ (b = true ↔ v = v' ∧ xs = ys) := by
  obtain ⟨k, rfl⟩ : ∃ m, k = m + 1 := ⟨k - 1, by omega⟩
  unfold tollbarlaw0_SameGraph.f
  by_cases hv : v = v'
  case neg => rw [if_neg hv, tollbarlaw0_SameGraph.j0, if_pos rfl]; exact ⟨false, rfl, by simp [hv]⟩
  rw [if_pos hv, tollbarlaw0_SameGraph.j0]
  by_cases hl : xs.length = ys.length
  · rw [if_neg (by simp [hl])]
    have := same_l0 v v' xs ys hl hb xs.length 0 k (by omega) (by omega) (by omega)
    rw [List.drop_zero, List.drop_zero, show ((0 : Nat) : Int) = 0 from rfl] at this
    rw [this]
    exact ⟨_, rfl, by rw [sameL_iff]; simp [hv]⟩
  · rw [if_pos (by simp; omega)]
    exact ⟨false, rfl, by
      have : xs ≠ ys := fun e => hl (by rw [e])
      simp [this]⟩
theorem same_refl (v : Int) (xs : List Lk) (hb : xs.length ≤ 281474976710656) (k : Nat) (hk : xs.length + 2 ≤ k) : tollbarlaw0_SameGraph.f k v xs v xs = some true := by
  obtain ⟨b, h, hi⟩ := same_is v v xs xs hb k hk
  rw [h, hi.2 ⟨rfl, rfl⟩]
/-! ### Codes -/
theorem enc_cancel {x y : Nat} {u v : List UInt8} (hx : x ≤ 4611686018427387904) (hy : y ≤ 4611686018427387904) (h : encW x ++ u = encW y ++ v) : x = y ∧ u = v := by
  have h1 := get_enc ⟨(encW x ++ u).toArray⟩ [] u x (by simp) hx
  have h2 := get_enc ⟨(encW x ++ u).toArray⟩ [] v y (by simp [h]) hy
  rw [h1] at h2
  injection h2 with e1 e2
  have e : x = y := by omega
  subst e
  exact ⟨rfl, List.append_cancel_left h⟩
theorem encs_cancel : ∀ (xs ys : List Int) (u v : List UInt8), rates xs → rates ys → xs.length = ys.length → encs xs ++ u = encs ys ++ v → xs = ys ∧ u = v
  | [], [], u, v, _, _, _, h => ⟨rfl, by simpa [WordL.encs] using h⟩
  | [], y :: ys, u, v, _, _, hl, _ => by simp at hl
  | x :: xs, [], u, v, _, _, hl, _ => by simp at hl
  | x :: xs, y :: ys, u, v, hx, hy, hl, h => by
    rw [encs_cons, encs_cons, List.append_assoc, List.append_assoc] at h
    have bx := hx x List.mem_cons_self
    have by_ := hy y List.mem_cons_self
    obtain ⟨e1, e2⟩ := enc_cancel (by omega) (by omega) h
    obtain ⟨e3, e4⟩ := encs_cancel xs ys u v (fun z hz => hx z (List.mem_cons_of_mem _ hz)) (fun z hz => hy z (List.mem_cons_of_mem _ hz)) (by simpa using hl) e2
    exact ⟨by rw [e3, show x = y by omega], e4⟩
/-- A graph's bytes are no beginning of another's. -/
theorem bytes_apart {v v' : Int} {ls ls' : List Lk} (h : mayG v ls = true) (h' : mayG v' ls' = true) (u : List UInt8) (e : (bytesT v ls).data.toList ++ u = (bytesT v' ls').data.toList) : u = [] := by
  have r1 := may_rates h
  have r2 := may_rates h'
  have e' : encs (numsT v ls) ++ u = encs (numsT v' ls') ++ [] := by simpa [bytesT] using e
  have hl : ls.length = ls'.length := by
    rw [numsT, numsT, encs_cons, encs_cons, encs_cons, encs_cons, List.append_assoc, List.append_assoc, List.append_assoc, List.append_assoc] at e'
    have b1 := r1 v (by simp [numsT])
    have b2 := r2 v' (by simp [numsT])
    have c1 := (may_parts h).2.2.1
    have c2 := (may_parts h').2.2.1
    have := (enc_cancel (by omega) (by omega) (enc_cancel (by omega) (by omega) e').2).1
    omega
  exact (encs_cancel _ _ _ _ r1 r2 (by have := flat_len ls; have := flat_len ls'; simp [numsT]; omega) e').2

end Go.Proofs.Yteikgpdjfhdneaa.Pure
