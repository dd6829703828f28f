/- The plain laws of chapter 24. -/
import Derived.Test.YteikgpdjfhdneaaQBe
import Derived.Test.YteikgpdjfhdneaaPureTa
set_option linter.unusedVariables false
set_option linter.unusedSimpArgs false
namespace Go.Proofs.Yteikgpdjfhdneaa.Pure
open Go.RowKit Go.Proofs.Yteikgpdjfhdneaa.QT Go.Proofs.Yteikgpdjfhdneaa.QA Go.Proofs.Yteikgpdjfhdneaa.QB Go.Proofs.Yteikgpdjfhdneaa.Man Go.Proofs.Yteikgpdjfhdneaa.WordM Go.Proofs.Yteikgpdjfhdneaa.WordL Go.Proofs.Yteikgpdjfhdneaa.TopoL Go.Proofs.YteikgpdjfhdneaaW.PrintWords Go.Proofs.YteikgpdjfhdneaaW.PrintLast Go.Proofs.YteikgpdjfhdneaaW.PrintMore

theorem TopoForms (x0 : ByteArray) (h0 : (fun s : ByteArray => s.size ≤ 140737488351232) x0) (hb : (fun s : ByteArray => s.size + 1) x0 ≤ 1048576) : ∃ k, tollbarlaw24_TopoForms.f k x0 = some true := by
  have hs : x0.size + 1 ≤ 1048576 := hb
  obtain ⟨K, hK⟩ : ∃ K, K = x0.size + 2000 := ⟨_, rfl⟩
  refine ⟨K + 1, ?_⟩
  obtain ⟨v, ls, e, hp, hr, hor⟩ := read_is x0 (by omega) (K + 1) (by omega)
  unfold tollbarlaw24_TopoForms.f
  simp only [hp, Option.bind_some, numT]
  rcases hor with ⟨rfl, hm, hx⟩ | ⟨rfl, _⟩
  case inr => rw [if_neg (by decide)]
  have hpos : 1 ≤ x0.size := by rw [hx]; exact (bytes_size v ls hm).2
  have hw : topo_Write.f (K + 1) v ls = some (x0, 0) := by rw [write_may hm _ (by omega), ← hx]
  rw [if_pos rfl, hw, Option.bind_some, if_pos rfl, if_pos rfl]
  have hsb : ((x0.size : Int) == 0) = false := by
    rw [beq_eq_false_iff_ne]
    omega
  have hwr : wrap64 ((x0.size : Int) - 1) = ((x0.size - 1 : Nat) : Int) := by
    unfold wrap64
    omega
  obtain ⟨t, hct⟩ : ∃ t, x0.extract 0 (x0.size - 1) = t := ⟨_, rfl⟩
  have htl : t.data.toList = x0.data.toList.take (x0.size - 1) := by
    rw [← hct]
    rw [ByteArray.data_extract, Array.toList_extract]
    simp [List.extract]
  obtain ⟨v3, ls3, e3, hp3, _, hor3⟩ := read_is t (by
    rw [← hct, ByteArray.size_extract]
    omega) K (by
    rw [← hct, ByteArray.size_extract]
    omega)
  have he3 : e3 = 2400 := by
    rcases hor3 with ⟨_, hm3, ht3⟩ | ⟨h, _⟩
    case inr => exact h
    exfalso
    have hz := bytes_apart hm3 hm (x0.data.toList.drop (x0.size - 1)) (by
      rw [← hx, ← ht3, htl, List.take_append_drop])
    have hl := congrArg List.length hz
    rw [List.length_drop, data_length] at hl
    simp at hl
    omega
  rw [hsb, tollbarlaw24_TopoForms.j0, if_neg (by decide), hwr, if_pos (by omega), if_pos (by omega), Int.toNat_natCast, hct, hp3, Option.bind_some, awakeT K (by omega), Option.bind_some, if_pos rfl, gmay_is v ls K (by omega), hm, Option.bind_some, if_pos rfl, numT, Option.bind_some, he3]
  rfl
end Go.Proofs.Yteikgpdjfhdneaa.Pure
