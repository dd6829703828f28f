/- The plain law of TellForms. -/
import Derived.Test.YteikgpdjfhdneaaQFb
import Derived.Test.YteikgpdjfhdneaaTellK3
set_option linter.unusedVariables false
namespace Go.Proofs.Yteikgpdjfhdneaa.Pure
open Go.RowKit Go.Proofs.Yteikgpdjfhdneaa.QT Go.Proofs.Yteikgpdjfhdneaa.QL Go.Proofs.Yteikgpdjfhdneaa.QG Go.Proofs.Yteikgpdjfhdneaa.QF Go.Proofs.Yteikgpdjfhdneaa.Man Go.Proofs.Yteikgpdjfhdneaa.TellU Go.Proofs.YteikgpdjfhdneaaW.PrintWords Go.Proofs.YteikgpdjfhdneaaW.PrintLast Go.Proofs.YteikgpdjfhdneaaW.PrintMore

theorem numT (x : Int) : tollbarlaw0_Num.f x = some x := rfl
theorem TellForms (x0 : ByteArray) (h0 : (fun s : ByteArray => s.size ≤ 140737488351232) x0) (hb : (fun s : ByteArray => s.size + 1) x0 ≤ 1048576) : ∃ k, tollbarlaw23_TellForms.f k x0 = some true := by
  have hs : x0.size + 1 ≤ 1048576 := hb
  obtain ⟨K, hK⟩ : ∃ K, K = x0.size + 20000 := ⟨_, rfl⟩
  refine ⟨K + 1, ?_⟩
  obtain ⟨r, e, hp, hor⟩ := read_is x0 (by omega) (K + 1) (by omega)
  have hp : tell_Read.f (K + 1) x0 = some (r.fr, r.to_, r.at_, r.vs, r.kind, r.code, r.id, r.rate, r.value, r.ps, e) := hp
  unfold tollbarlaw23_TellForms.f
  simp only [hp, Option.bind_some, numT]
  rcases hor with ⟨rfl, hm, hx⟩ | ⟨rfl, _⟩
  case inr => exact if_neg (by decide)
  have hpos : 1 ≤ x0.size := by rw [hx]; exact (bytesR_size hm).2
  have hv : r.vs.length ≤ 1048576 := by
    have h1 := (may_nums hm).2.1
    have h2 := read_nums hm
    have h3 := vs_len (tellN r, false)
    rw [h2] at h3
    simp only at h3
    omega
  have hw := write_may hm (by omega) (K + 1) (by omega)
  rw [← hx] at hw
  have hm' := may_f r (by omega)
  rw [hm] at hm'
  rw [if_pos rfl, hw, Option.bind_some, if_pos rfl, if_pos rfl]
  have hsb : ((x0.size : Int) == 0) = false := by
    rw [beq_eq_false_iff_ne]
    omega
  have hwr : wrap64 ((x0.size : Int) - 1) = ((x0.size - 1 : Nat) : Int) := by
    unfold wrap64
    omega
  obtain ⟨t, hct⟩ : ∃ t, x0.extract 0 (x0.size - 1) = t := ⟨_, rfl⟩
  have htl : t.data.toList = x0.data.toList.take (x0.size - 1) := by
    rw [← hct]
    rw [ByteArray.data_extract, Array.toList_extract]
    simp [List.extract]
  obtain ⟨r3, e3, hp3, hor3⟩ := read_is t (by
    rw [← hct, ByteArray.size_extract]
    omega) K (by
    rw [← hct, ByteArray.size_extract]
    omega)
  have he3 : e3 = 2300 := by
    rcases hor3 with ⟨_, hm3, ht3⟩ | ⟨h, _⟩
    case inr => exact h
    exfalso
    have hz := (bytes_apart hm3 hm (x0.data.toList.drop (x0.size - 1)) (by
      rw [← hx, ← ht3, htl, List.take_append_drop])).1
    have hl := congrArg List.length hz
    rw [List.length_drop, dataL] at hl
    simp at hl
    omega
  rw [hsb, tollbarlaw23_TellForms.j0, if_neg (by decide), hwr, if_pos (by omega), if_pos (by omega), Int.toNat_natCast, hct, hp3, Option.bind_some, tollbarlaw23_awake.f, Option.bind_some, if_pos rfl, hm', Option.bind_some, if_pos rfl, numT, Option.bind_some]
  subst he3
  rfl
end Go.Proofs.Yteikgpdjfhdneaa.Pure
