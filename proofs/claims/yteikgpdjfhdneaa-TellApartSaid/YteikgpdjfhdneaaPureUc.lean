/- The plain law of TellApart. -/
import Derived.Test.YteikgpdjfhdneaaQFd
import Derived.Test.YteikgpdjfhdneaaTellK3
import Derived.Test.YteikgpdjfhdneaaOpsFTellApart
set_option linter.unusedVariables false
namespace Go.Proofs.Yteikgpdjfhdneaa.Pure
open Go.RowKit Go.Proofs.Yteikgpdjfhdneaa.QT Go.Proofs.Yteikgpdjfhdneaa.QL Go.Proofs.Yteikgpdjfhdneaa.QG Go.Proofs.Yteikgpdjfhdneaa.QF Go.Proofs.Yteikgpdjfhdneaa.Man Go.Proofs.Yteikgpdjfhdneaa.TellU Go.Proofs.Yteikgpdjfhdneaa.OpsTellApart Go.Proofs.YteikgpdjfhdneaaW.PrintWords Go.Proofs.YteikgpdjfhdneaaW.PrintLast Go.Proofs.YteikgpdjfhdneaaW.PrintMore

theorem numT (x : Int) : tollbarlaw0_Num.f x = some x := rfl
theorem apart_is (k : Nat) (hk : 20000 ≤ k) (a b : Rp) (ha : a.vs.length ≤ 281474976710656) (hb : b.vs.length ≤ 281474976710656) : tollbarlaw23_TellApart.f (k + 1) a.fr a.to_ a.at_ a.vs a.kind a.code a.id a.rate a.value a.ps b.fr b.to_ b.at_ b.vs b.kind b.code b.id b.rate b.value b.ps = some true := by
  unfold tollbarlaw23_TellApart.f
  by_cases hm : tellF a = true
  case neg =>
    rw [write_not hm ha]
    by_cases hn : tellF b = true
    · rw [write_may hn hb (k + 1) (by omega)]
      simp only [Option.bind_some, numT]
      rw [if_neg (by decide), tollbarlaw23_TellApart.j0, if_pos rfl]
    · rw [write_not hn hb]
      simp only [Option.bind_some, numT]
      rw [if_neg (by decide), tollbarlaw23_TellApart.j0, if_pos rfl]
  rw [write_may hm ha (k + 1) (by omega)]
  by_cases hn : tellF b = true
  case neg =>
    rw [write_not hn hb]
    simp only [Option.bind_some, numT]
    rw [if_pos trivial, tollbarlaw23_TellApart.j0, if_pos (by decide)]
  rw [write_may hn hb (k + 1) (by omega)]
  obtain ⟨c1, c2⟩ := cost_may hm
  have hs := same_is a b (by omega) (by omega) k (by omega) (by omega)
  simp only [Option.bind_some, numT]
  rw [if_pos trivial, tollbarlaw23_TellApart.j0, if_neg (by decide)]
  simp only [tollbarlaw23_awake.f, Option.bind_some, if_true, hs]
  have hl : ∀ x : ByteArray, x.toList = x.data.toList := fun x => ByteArray.toList_eq x
  by_cases he : a = b
  · subst he
    simp
  · rw [decide_eq_false he]
    have hne : ¬ (bytesR a).toList = (bytesR b).toList := by
      intro h
      rw [hl, hl] at h
      exact he (bytes_apart hm hn [] (by rw [List.append_nil]; exact h)).2
    simp [hne]
theorem TellApart (x0 : S48) (h0 : I48 x0) (x1 : S48) (h1 : I48 x1) : ∃ k, tollbarlaw23_TellApart.f k x0.f0.f0 x0.f0.f1 x0.f1.f0 x0.f1.f1 x0.f2 x0.f3 x0.f4 x0.f5 x0.f6 x0.f7 x1.f0.f0 x1.f0.f1 x1.f1.f0 x1.f1.f1 x1.f2 x1.f3 x1.f4 x1.f5 x1.f6 x1.f7 = some true := by
  have l0 : x0.f1.f1.length ≤ 281474976710656 := by
    have := h0.2.1.2.2
    omega
  have l1 : x1.f1.f1.length ≤ 281474976710656 := by
    have := h1.2.1.2.2
    omega
  exact ⟨20001, apart_is 20000 (Nat.le_refl _) ⟨x0.f0.f0, x0.f0.f1, x0.f1.f0, x0.f1.f1, x0.f2, x0.f3, x0.f4, x0.f5, x0.f6, x0.f7⟩ ⟨x1.f0.f0, x1.f0.f1, x1.f1.f0, x1.f1.f1, x1.f2, x1.f3, x1.f4, x1.f5, x1.f6, x1.f7⟩ l0 l1⟩
end Go.Proofs.Yteikgpdjfhdneaa.Pure
