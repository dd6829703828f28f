/- The plain law of TellBack. -/
import Derived.Test.YteikgpdjfhdneaaQFc
import Derived.Test.YteikgpdjfhdneaaTellK3
import Derived.Test.YteikgpdjfhdneaaOpsFTellBack
set_option linter.unusedVariables false
namespace Go.Proofs.Yteikgpdjfhdneaa.Pure
open Go.RowKit Go.Proofs.Yteikgpdjfhdneaa.QT Go.Proofs.Yteikgpdjfhdneaa.QL Go.Proofs.Yteikgpdjfhdneaa.QH Go.Proofs.Yteikgpdjfhdneaa.QG Go.Proofs.Yteikgpdjfhdneaa.QF Go.Proofs.Yteikgpdjfhdneaa.Man Go.Proofs.Yteikgpdjfhdneaa.TellU Go.Proofs.Yteikgpdjfhdneaa.OpsTellBack Go.Proofs.YteikgpdjfhdneaaW.PrintWords Go.Proofs.YteikgpdjfhdneaaW.PrintLast Go.Proofs.YteikgpdjfhdneaaW.PrintMore

theorem numT (x : Int) : tollbarlaw0_Num.f x = some x := rfl
theorem back_is (k : Nat) (hk : 20000 ≤ k) (r : Rp) (hv : r.vs.length ≤ 281474976710656) : tollbarlaw23_TellBack.f k r.fr r.to_ r.at_ r.vs r.kind r.code r.id r.rate r.value r.ps = some true := by
  unfold tollbarlaw23_TellBack.f
  by_cases hm : tellF r = true
  case neg =>
    rw [write_not hm hv]
    simp only [Option.bind_some, numT]
    exact if_neg (by decide)
  have hp : tell_Read.f k (bytesR r) = some (r.fr, r.to_, r.at_, r.vs, r.kind, r.code, r.id, r.rate, r.value, r.ps, 0) := read_bytes hm k (by omega)
  obtain ⟨c1, c2⟩ := cost_may hm
  obtain ⟨z1, z2⟩ := bytesR_size hm
  have hs : tollbarlaw0_SameReply.f k r.fr r.to_ r.at_ r.vs r.kind r.code r.id r.rate r.value r.ps r.fr r.to_ r.at_ r.vs r.kind r.code r.id r.rate r.value r.ps = some true := (same_is r r (by omega) (by omega) k (by omega) (by omega)).trans (by rw [decide_eq_true rfl])
  have hw := write_may hm hv k (by omega)
  generalize bytesR r = s at hp hw z1 z2
  rw [hw]
  rw [Option.bind_some, numT, Option.bind_some]
  refine (if_pos rfl).trans ?_
  rw [hp, Option.bind_some, tollbarlaw23_awake.f, Option.bind_some]
  refine (if_pos rfl).trans ?_
  show (tollbarlaw0_SameReply.f k r.fr r.to_ r.at_ r.vs r.kind r.code r.id r.rate r.value r.ps r.fr r.to_ r.at_ r.vs r.kind r.code r.id r.rate r.value r.ps).bind _ = some true
  rw [hs, Option.bind_some]
  refine (if_pos rfl).trans ?_
  rw [numT, Option.bind_some]
  refine (if_pos rfl).trans ?_
  show (if (s.size : Int) ≤ 8192 then some (decide ((s.size : Int) > 0)) else some false) = some true
  generalize s.size = m at z1 z2 ⊢
  rw [if_pos (by omega), decide_eq_true (by omega)]
theorem TellBack (x0 : S48) (h0 : I48 x0) : ∃ k, tollbarlaw23_TellBack.f k x0.f0.f0 x0.f0.f1 x0.f1.f0 x0.f1.f1 x0.f2 x0.f3 x0.f4 x0.f5 x0.f6 x0.f7 = some true := by
  have hl : x0.f1.f1.length ≤ 281474976710656 := by
    have := h0.2.1.2.2
    omega
  exact ⟨20000, back_is 20000 (Nat.le_refl _) ⟨x0.f0.f0, x0.f0.f1, x0.f1.f0, x0.f1.f1, x0.f2, x0.f3, x0.f4, x0.f5, x0.f6, x0.f7⟩ hl⟩
end Go.Proofs.Yteikgpdjfhdneaa.Pure
