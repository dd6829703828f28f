/- The plain law Asks. -/
import Derived.Test.YtikblicmnfnomaaQB5
import Derived.Test.YtikblicmnfnomaaAskL
import Derived.Test.YtikblicmnfnomaaStrQ
set_option linter.unusedVariables false
namespace Go.Proofs.Ytikblicmnfnomaa.Pure
open Go.RowKit Go.Proofs.Ytikblicmnfnomaa.Man Go.Proofs.Ytikblicmnfnomaa.QB Go.Proofs.Ytikblicmnfnomaa.AskL Go.Proofs.YtikblicmnfnomaaW.PrintWords

theorem awakeB : tollbarlaw22_awake.f = some true := by decide +kernel
theorem numB (x : Int) : tollbarlaw0_Num.f x = some x := rfl
def rb (x : Int) : Bool := decide (0 ≤ x) && decide (x ≤ 4611686018427387904)
theorem rate_rb (x : Int) : tollbarref1_Rate.f x = some (rb x) := by
  unfold tollbarref1_Rate.f rb
  by_cases h : 0 ≤ x
  · rw [if_pos h]
    simp [h]
  · rw [if_neg h]
    simp [h]
theorem rb_iff (x : Int) : rb x = true ↔ okV x := by
  unfold rb okV
  rw [Bool.and_eq_true, decide_eq_true_eq, decide_eq_true_eq]
theorem rb_zero : rb 0 = true := by decide

theorem bool_chain (p q r s t u v : Bool) : (if v = true then (if p = true then (if q = true then (if r = true then (if s = true then (if t = true then some u else some false) else some false) else some false) else some false) else some false) else some false) = some (v && (p && (q && (r && (s && (t && u)))))) := by
  cases v <;> cases p <;> cases q <;> cases r <;> cases s <;> cases t <;> rfl
theorem may_ref (a b k i s d r : Int) : tollbarref19_RequestMay.f a b k i s d r = some (mayQ a b k i s d r) := by
  unfold tollbarref19_RequestMay.f
  by_cases h1 : k ≥ 1
  case neg =>
    rw [if_neg h1]
    congr 1
    symm
    rw [← Bool.not_eq_true, mayQ_iff]
    rintro ⟨h, _⟩
    have := offs_range h
    omega
  by_cases h2 : k ≤ 6
  case neg =>
    rw [if_pos h1, if_neg h2]
    congr 1
    symm
    rw [← Bool.not_eq_true, mayQ_iff]
    rintro ⟨h, _⟩
    have := offs_range h
    omega
  rw [if_pos h1, if_pos h2, tollbarref19_only.f, if_pos ⟨h1, h2⟩, Option.bind_some]
  simp only [rate_rb, Option.bind_some]
  rw [bool_chain]
  congr 1
  rw [Bool.eq_iff_iff, mayQ_iff]
  simp only [Bool.and_eq_true, beq_iff_eq, rb_iff]
  have hn : offsK k ≠ [] := by
    rcases offs_cases k with e | ⟨e, h⟩ | ⟨e, h⟩ | ⟨e, h⟩ | ⟨e, h⟩ | ⟨e, h⟩ | ⟨e, h⟩
    · exfalso
      have hk : k = 1 ∨ k = 2 ∨ k = 3 ∨ k = 4 ∨ k = 5 ∨ k = 6 := by omega
      rcases hk with rfl | rfl | rfl | rfl | rfl | rfl <;> (revert e; decide)
    all_goals (rw [h]; decide)
  obtain ⟨Q, hQ⟩ : ∃ Q, qcells a b k i s d r = Q := ⟨_, rfl⟩
  have q0 : a = Q 0 := by rw [← hQ]; rfl
  have q1 : b = Q 1 := by rw [← hQ]; rfl
  have q3 : i = Q 3 := by rw [← hQ]; rfl
  have q4 : s = Q 4 := by rw [← hQ]; rfl
  have q5 : d = Q 5 := by rw [← hQ]; rfl
  have q6 : r = Q 6 := by rw [← hQ]; rfl
  rw [hQ]
  have z : okV 0 := by unfold okV; omega
  constructor
  · rintro ⟨⟨⟨e0, e1⟩, e2, e3, e4, e5, e6⟩, o3, o4, o5, o6, o0, o1⟩
    refine ⟨hn, fun o ho => ?_, fun j hj hm h22 => ?_⟩
    · have h7 := offs_seven k o ho
      have h22 : o ≠ 2 := fun e => offs_two k (e ▸ ho)
      match o, h7 with
      | 0, _ => exact q0 ▸ o0
      | 1, _ => exact q1 ▸ o1
      | 2, _ => exact absurd rfl h22
      | 3, _ => exact q3 ▸ o3
      | 4, _ => exact q4 ▸ o4
      | 5, _ => exact q5 ▸ o5
      | 6, _ => exact q6 ▸ o6
    · have key : ∀ (j : Nat), ¬ j ∈ offsK k → j ≠ 2 → onlyJ k Q j = 0 := fun j h1 h2 => if_neg (fun h => h.elim h1 h2)
      match j, hj with
      | 0, _ => rw [← q0, e0, key 0 hm h22]
      | 1, _ => rw [← q1, e1, key 1 hm h22]
      | 2, _ => exact absurd rfl h22
      | 3, _ => rw [← q3, e3, key 3 hm h22]
      | 4, _ => rw [← q4, e4, key 4 hm h22]
      | 5, _ => rw [← q5, e5, key 5 hm h22]
      | 6, _ => rw [← q6, e6, key 6 hm h22]
  · rintro ⟨_, h1, h2⟩
    have only : ∀ j, j < 7 → Q j = onlyJ k Q j := by
      intro j hj
      unfold onlyJ
      by_cases hm : j ∈ offsK k ∨ j = 2
      · rw [if_pos hm]
      · rw [if_neg hm, h2 j hj (fun h => hm (Or.inl h)) (fun h => hm (Or.inr h))]
    have oks : ∀ j, j < 7 → j ≠ 2 → okV (Q j) := by
      intro j hj h22
      by_cases hm : j ∈ offsK k
      · exact h1 j hm
      · rw [h2 j hj hm h22]
        exact z
    have q2 : k = onlyJ k Q 2 := by
      rw [← only 2 (by decide), ← hQ]
      rfl
    rw [q0, q1, q3, q4, q5, q6]
    exact ⟨⟨⟨only 0 (by decide), only 1 (by decide)⟩, q2, only 3 (by decide), only 4 (by decide), only 5 (by decide), only 6 (by decide)⟩, oks 3 (by decide) (by decide), oks 4 (by decide) (by decide), oks 5 (by decide) (by decide), oks 6 (by decide) (by decide), oks 0 (by decide) (by decide), oks 1 (by decide) (by decide)⟩

theorem put_nums {a b k i s d r : Int} (h : mayQ a b k i s d r = true) {xs : List Int} (hx : xs = numsQ k (qcells a b k i s d r)) : tollbarref1_Put.f xs = some (bytesQ a b k i s d r, 0) := by
  subst hx
  have := write_may h
  rw [ask_Write.f, if_pos h] at this
  have hl := nums_len k (qcells a b k i s d r)
  show word_Put.go [] _ = _
  rw [WordL.put_is _ (by omega), if_pos (may_rates h)]
  rfl
theorem write_ref (n : Nat) (a b k i s d r : Int) : tollbarref22_WriteAsk.f (n + 1) a b k i s d r = ask_Write.f a b k i s d r := by
  unfold tollbarref22_WriteAsk.f
  rw [may_ref, Option.bind_some]
  by_cases h : mayQ a b k i s d r = true
  case neg => rw [if_neg h, write_not h]
  rw [if_pos h, write_may h, Option.bind_some]
  obtain ⟨hn, _, _⟩ := (mayQ_iff a b k i s d r).1 h
  rcases offs_cases k with e | ⟨rfl, e⟩ | ⟨rfl, e⟩ | ⟨rfl, e⟩ | ⟨rfl, e⟩ | ⟨rfl, e⟩ | ⟨rfl, e⟩
  · exact absurd e hn
  · rw [if_pos rfl, Option.bind_some, if_pos (by simp), put_nums h (by rw [numsQ, e]; rfl)]
    rfl
  · rw [if_neg (by decide), if_pos rfl, Option.bind_some, if_pos (by simp), put_nums h (by rw [numsQ, e]; rfl)]
    rfl
  · rw [if_neg (by decide), if_neg (by decide), if_pos rfl, tollbarref22_WriteAsk.j0, if_pos (by decide), if_pos (by simp), put_nums h (by rw [numsQ, e]; rfl)]
    rfl
  · rw [if_neg (by decide), if_neg (by decide), if_neg (by decide), tollbarref22_WriteAsk.j0, if_pos (by decide), if_pos (by simp), put_nums h (by rw [numsQ, e]; rfl)]
    rfl
  · rw [if_neg (by decide), if_neg (by decide), if_neg (by decide), tollbarref22_WriteAsk.j0, if_neg (by decide), if_pos rfl, Option.bind_some, if_pos (by simp), put_nums h (by rw [numsQ, e]; rfl)]
    rfl
  · rw [if_neg (by decide), if_neg (by decide), if_neg (by decide), tollbarref22_WriteAsk.j0, if_neg (by decide), if_neg (by decide), if_pos (by simp), put_nums h (by rw [numsQ, e]; rfl)]
    rfl

theorem asks (a b k i s d r : Int) : tollbarlaw22_Asks.f 1 a b k i s d r = some true := by
  unfold tollbarlaw22_Asks.f
  rw [write_ref 0]
  obtain ⟨⟨t, e⟩, hw⟩ : ∃ p, ask_Write.f a b k i s d r = some p := by
    by_cases h : mayQ a b k i s d r = true
    · exact ⟨_, write_may h⟩
    · exact ⟨_, write_not h⟩
  rw [hw]
  simp only [Option.bind_some, awakeB, if_true, ask_May.f, may_ref, numB, BEq.rfl]
theorem Asks (x0 : S46) {p : Prop} (h0 : p) : ∃ k, tollbarlaw22_Asks.f k x0.f0.f0 x0.f0.f1 x0.f1 x0.f2 x0.f3 x0.f4 x0.f5 = some true := ⟨1, asks _ _ _ _ _ _ _⟩
end Go.Proofs.Ytikblicmnfnomaa.Pure
