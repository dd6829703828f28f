/- The plain laws of chapter 24. -/
import Derived.Test.YteikgpdjfhdneaaQBc
import Derived.Test.YteikgpdjfhdneaaPureTa
set_option linter.unusedVariables false
set_option linter.unusedSimpArgs false
namespace Go.Proofs.Yteikgpdjfhdneaa.Pure
open Go.RowKit Go.Proofs.Yteikgpdjfhdneaa.QT Go.Proofs.Yteikgpdjfhdneaa.QA Go.Proofs.Yteikgpdjfhdneaa.QB Go.Proofs.Yteikgpdjfhdneaa.Man Go.Proofs.Yteikgpdjfhdneaa.WordM Go.Proofs.Yteikgpdjfhdneaa.WordL Go.Proofs.Yteikgpdjfhdneaa.TopoL Go.Proofs.YteikgpdjfhdneaaW.PrintWords Go.Proofs.YteikgpdjfhdneaaW.PrintLast Go.Proofs.YteikgpdjfhdneaaW.PrintMore

theorem spoil_l0 (v : Int) : ∀ (d i k : Nat) (xs : List Lk), xs.length ≤ 1000 → xs.length - i = d → i ≤ xs.length → d < k → ∃ r, QB.tollbarlaw0_SpoilGraph.l0 k (i : Int) v xs = some r := by
  intro d
  induction d with
  | zero =>
    intro i k xs hb hd hi hk
    obtain ⟨k, rfl⟩ : ∃ m, k = m + 1 := ⟨k - 1, by omega⟩
    rw [QB.tollbarlaw0_SpoilGraph.l0, if_neg (by omega)]
    exact ⟨_, rfl⟩
  | succ d ih =>
    intro i k xs hb hd hi hk
    obtain ⟨k, rfl⟩ : ∃ m, k = m + 1 := ⟨k - 1, by omega⟩
    rw [QB.tollbarlaw0_SpoilGraph.l0, if_pos (by omega), if_pos (by omega), wrap_next i (by omega)]
    exact ih (i + 1) k _ (by simpa using hb) (by simp; omega) (by simp; omega) (by omega)

theorem TopoReads (x0 : ByteArray) (h0 : (fun s : ByteArray => s.size ≤ 140737488351232) x0) (hb : (fun s : ByteArray => s.size + 1) x0 ≤ 1048576) : ∃ k, tollbarlaw24_TopoReads.f k x0 = some true := by
  have hs : x0.size + 1 ≤ 1048576 := hb
  obtain ⟨K, hK⟩ : ∃ K, K = x0.size + 2000 := ⟨_, rfl⟩
  refine ⟨K + 1, ?_⟩
  obtain ⟨v, ls, e, hp, hr, hor⟩ := read_is x0 (by omega) K (by omega)
  have hp' := topo_Read.mono x0 K _ hp
  have hr' := tollbarref22_ReadTopo.mono x0 K _ hr
  have hl : ls.length ≤ 16 := by
    rcases hor with ⟨_, h, _⟩ | ⟨_, h, _⟩
    · exact (may_parts h).2.2.1
    · omega
  obtain ⟨sp, hsp⟩ : ∃ r, QB.tollbarlaw0_SpoilGraph.f K v ls = some r := by
    unfold QB.tollbarlaw0_SpoilGraph.f
    exact spoil_l0 v ls.length 0 K ls (by omega) (by omega) (by omega) (by omega)
  unfold tollbarlaw24_TopoReads.f
  simp only [hp', hr', Option.bind_some, same_refl v ls (by omega) (K + 1) (by omega), if_true, numT]
  rw [tollbarlaw24_TopoReads.j0, if_neg (by simp), hsp, Option.bind_some]
  simp only [hp, Option.bind_some, awakeT K (by omega), same_refl v ls (by omega) K (by omega), if_true, numT, BEq.rfl]
end Go.Proofs.Yteikgpdjfhdneaa.Pure
