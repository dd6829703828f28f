/- The plain laws of chapter 24. -/
import Derived.Test.YteikgpdjfhdneaaQBd
import Derived.Test.YteikgpdjfhdneaaPureTa
set_option linter.unusedVariables false
set_option linter.unusedSimpArgs false
namespace Go.Proofs.Yteikgpdjfhdneaa.Pure
open Go.RowKit Go.Proofs.Yteikgpdjfhdneaa.QT Go.Proofs.Yteikgpdjfhdneaa.QA Go.Proofs.Yteikgpdjfhdneaa.QB Go.Proofs.Yteikgpdjfhdneaa.Man Go.Proofs.Yteikgpdjfhdneaa.WordM Go.Proofs.Yteikgpdjfhdneaa.WordL Go.Proofs.Yteikgpdjfhdneaa.TopoL Go.Proofs.YteikgpdjfhdneaaW.PrintWords Go.Proofs.YteikgpdjfhdneaaW.PrintLast Go.Proofs.YteikgpdjfhdneaaW.PrintMore

theorem topoBack (v : Int) (ls : List Lk) (hb : ls.length ≤ 5864062014700) : ∃ k, tollbarlaw24_TopoBack.f k v ls = some true := by
  refine ⟨ls.length + 2000, ?_⟩
  unfold tollbarlaw24_TopoBack.f
  by_cases h : mayG v ls = true
  · simp only [write_may h _ (show 40 ≤ ls.length + 2000 by omega), Option.bind_some, numT, if_true, read_bytes h _ (show 1200 ≤ ls.length + 2000 by omega), awakeT (ls.length + 2000) (by omega), same_refl v ls (by omega) (ls.length + 2000) (by omega)]
    rfl
  · simp only [write_not h _ (show 40 ≤ ls.length + 2000 by omega), Option.bind_some, numT]
    rw [if_neg (by decide), awakeT (ls.length + 2000) (by omega), Option.bind_some, if_pos rfl, gmay_is _ _ _ (by omega), Option.bind_some, if_neg h, ByteArray.toList_eq]
    rfl

theorem TopoBack (x0 : S24) {p : Prop} {P : S60 → Prop} (h0 : p ∧ ((∀ x ∈ x0.f1, P x) ∧ x0.f1.length * 24 ≤ 140737488351232)) : ∃ k, tollbarlaw24_TopoBack.f k x0.f0 x0.f1 = some true := topoBack _ _ (by omega)
end Go.Proofs.Yteikgpdjfhdneaa.Pure
