/- The plain laws of chapter 24. -/
import Derived.Test.YteikgpdjfhdneaaQBf
import Derived.Test.YteikgpdjfhdneaaPureTa
set_option linter.unusedVariables false
set_option linter.unusedSimpArgs false
namespace Go.Proofs.Yteikgpdjfhdneaa.Pure
open Go.RowKit Go.Proofs.Yteikgpdjfhdneaa.QT Go.Proofs.Yteikgpdjfhdneaa.QA Go.Proofs.Yteikgpdjfhdneaa.QB Go.Proofs.Yteikgpdjfhdneaa.Man Go.Proofs.Yteikgpdjfhdneaa.WordM Go.Proofs.Yteikgpdjfhdneaa.WordL Go.Proofs.Yteikgpdjfhdneaa.TopoL Go.Proofs.YteikgpdjfhdneaaW.PrintWords Go.Proofs.YteikgpdjfhdneaaW.PrintLast Go.Proofs.YteikgpdjfhdneaaW.PrintMore

theorem topoApart (v v' : Int) (ls ls' : List Lk) : ∃ k, tollbarlaw24_TopoApart.f k v ls v' ls' = some true := by
  refine ⟨2000, ?_⟩
  unfold tollbarlaw24_TopoApart.f
  have hj : tollbarlaw24_TopoApart.j0 2000 (⟨#[]⟩ : ByteArray) (⟨#[]⟩ : ByteArray) true v ls v' ls' = some true := by rw [tollbarlaw24_TopoApart.j0, if_pos rfl]
  by_cases h : mayG v ls = true
  case neg =>
    obtain ⟨q, hq⟩ : ∃ p, topo_Write.f 2000 v' ls' = some p := by
      by_cases h : mayG v' ls' = true
      · exact ⟨_, write_may h _ (by omega)⟩
      · exact ⟨_, write_not h _ (by omega)⟩
    simp only [write_not h 2000 (by omega), hq, Option.bind_some, numT]
    rw [if_neg (by decide), tollbarlaw24_TopoApart.j0, if_pos rfl]
  by_cases h' : mayG v' ls' = true
  case neg =>
    simp only [write_may h 2000 (by omega), write_not h' 2000 (by omega), Option.bind_some, numT, if_true]
    rw [tollbarlaw24_TopoApart.j0, if_pos (by decide)]
  have l1 := (may_parts h).2.2.1
  obtain ⟨b, hb, hi⟩ := same_is v v' ls ls' (by omega) 1999 (by omega)
  simp only [write_may h 2000 (by omega), write_may h' 2000 (by omega), Option.bind_some, numT, if_true]
  rw [tollbarlaw24_TopoApart.j0, if_neg (by decide), awakeT 1999 (by omega), Option.bind_some, if_pos rfl, hb, Option.bind_some]
  congr 1
  by_cases e : bytesT v ls = bytesT v' ls'
  · have := hi.2 (bytes_inj h h' e)
    rw [this, e]
    simp
  · have e2 : ¬ ((bytesT v ls).toList = (bytesT v' ls').toList) := fun q => e (by
      apply ByteArray.ext
      apply Array.toList_inj.1
      rwa [ByteArray.toList_eq, ByteArray.toList_eq] at q)
    have e3 : ((bytesT v ls).toList == (bytesT v' ls').toList) = false := by simpa using e2
    have e4 : b = false := by
      rw [← Bool.not_eq_true]
      intro q
      obtain ⟨rfl, rfl⟩ := hi.1 q
      exact e rfl
    rw [e3, e4]
    rfl
theorem TopoApart (x0 : S24) {p : Prop} (h0 : p) (x1 : S24) {q : Prop} (h1 : q) : ∃ k, tollbarlaw24_TopoApart.f k x0.f0 x0.f1 x1.f0 x1.f1 = some true := topoApart _ _ _ _
end Go.Proofs.Yteikgpdjfhdneaa.Pure
