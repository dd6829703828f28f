/- The plain laws of chapter 24. -/
import Derived.Test.YteikgpdjfhdneaaQBb
import Derived.Test.YteikgpdjfhdneaaPureTa
set_option linter.unusedVariables false
set_option linter.unusedSimpArgs false
namespace Go.Proofs.Yteikgpdjfhdneaa.Pure
open Go.RowKit Go.Proofs.Yteikgpdjfhdneaa.QT Go.Proofs.Yteikgpdjfhdneaa.QA Go.Proofs.Yteikgpdjfhdneaa.QB Go.Proofs.Yteikgpdjfhdneaa.Man Go.Proofs.Yteikgpdjfhdneaa.WordM Go.Proofs.Yteikgpdjfhdneaa.WordL Go.Proofs.Yteikgpdjfhdneaa.TopoL Go.Proofs.YteikgpdjfhdneaaW.PrintWords Go.Proofs.YteikgpdjfhdneaaW.PrintLast Go.Proofs.YteikgpdjfhdneaaW.PrintMore

theorem topos (v : Int) (ls : List Lk) (hb : ls.length ≤ 5864062014700) : ∃ k, tollbarlaw24_Topos.f k v ls = some true := by
  refine ⟨ls.length + 100, ?_⟩
  have hc : tollbarlaw0_CopyGraph.f v ls = some (v, ls) := by
    unfold tollbarlaw0_CopyGraph.f
    rw [Option.bind_some, if_pos (by simp; omega)]
    rfl
  unfold tollbarlaw24_Topos.f
  rw [hc, Option.bind_some]
  dsimp only
  rw [rwrite_is v ls _ (by omega), awakeT _ (by omega)]
  obtain ⟨⟨b, e⟩, hw⟩ : ∃ p, topo_Write.f (ls.length + 100) v ls = some p := by
    by_cases h : mayG v ls = true
    · exact ⟨_, write_may h _ (by omega)⟩
    · exact ⟨_, write_not h _ (by omega)⟩
  simp only [hw, Option.bind_some, if_true, numT, same_refl v ls (by omega) (ls.length + 100) (by omega)]
theorem Topos (x0 : S24) {p : Prop} {P : S60 → Prop} (h0 : p ∧ ((∀ x ∈ x0.f1, P x) ∧ x0.f1.length * 24 ≤ 140737488351232)) : ∃ k, tollbarlaw24_Topos.f k x0.f0 x0.f1 = some true := topos _ _ (by omega)
end Go.Proofs.Yteikgpdjfhdneaa.Pure
