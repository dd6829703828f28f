/- The plain laws of chapter 3: numbers that are put are read, what is read is put again, the program's answers are the reference's. -/
import Derived.Test.YtikblicmnfnomaaQA2
import Derived.Test.YtikblicmnfnomaaWordL
import Derived.Test.YtikblicmnfnomaaSame
set_option linter.unusedVariables false
namespace Go.Proofs.Ytikblicmnfnomaa.Pure
open Go.RowKit Go.Proofs.Ytikblicmnfnomaa.Man Go.Proofs.Ytikblicmnfnomaa.QA Go.Proofs.Ytikblicmnfnomaa.Same Go.Proofs.Ytikblicmnfnomaa.WordM Go.Proofs.Ytikblicmnfnomaa.WordL Go.Proofs.YtikblicmnfnomaaW.PrintWords

theorem awake3 : tollbarlaw3_awake.f 20 = some true := by decide +kernel
theorem awake_at (k : Nat) (hk : 20 ≤ k) : tollbarlaw3_awake.f k = some true := at_rounds (g := fun k => tollbarlaw3_awake.f k) (fun k => tollbarlaw3_awake.mono k) hk awake3
theorem num3 (x : Int) : tollbarlaw0_Num.f x = some x := rfl
theorem list_l0 : ∀ (k : Nat) (s : ByteArray) (acc : List Int) (p : Int), word_List.l0 k s acc p = listF k s acc p
  | 0, _, _, _ => rfl
  | k + 1, s, acc, p => by
    unfold word_List.l0 listF
    congr 1
    congr 1
    funext r
    rw [list_l0 k]
theorem list_l1 : ∀ (k : Nat) (s : ByteArray) (acc : List Int) (p : Int), tollbarref1_List.l0 k s acc p = listF k s acc p
  | 0, _, _, _ => rfl
  | k + 1, s, acc, p => by
    unfold tollbarref1_List.l0 listF
    congr 1
    have e : tollbarref1_Get.f s p = word_Get.f s p := rfl
    rw [e]
    congr 1
    funext r
    rw [list_l1 k]

theorem WordGets : tollbarlaw3_WordGets.Pure := by
  intro s a hs _
  refine ⟨20, ?_⟩
  unfold tollbarlaw3_WordGets.f word_Get.f tollbarref1_Get.f
  rw [if_pos (by omega), awake3]
  simp [num3]

theorem WordLists (x0 : ByteArray) (h0 : x0.size ≤ 140737488351232) (hb : x0.size + 1 ≤ 1048576) : ∃ k, tollbarlaw3_WordLists.f k x0 = some true := by
  obtain ⟨k, hk⟩ : ∃ k, k = 1048576 + 20 := ⟨_, rfl⟩
  obtain ⟨xs, e, hl, hor⟩ := list_whole x0 (by omega) k (by omega)
  have hlen : xs.length ≤ x0.size := by
    rcases hor with ⟨_, _, h⟩ | ⟨_, h, _⟩
    · rw [← data_length, h]; exact encs_ge xs
    · rw [h]; simp
  refine ⟨k, ?_⟩
  unfold tollbarlaw3_WordLists.f word_List.f tollbarref1_List.f
  rw [list_l0, list_l1, hl, awake_at k (by omega)]
  simp only [Option.bind_some]
  rw [same_at xs xs (by omega) k (by omega)]
  simp [num3]

theorem WordBack (x0 : List Int) (h0 : (∀ x ∈ x0, (Lit.int .i64 x).wf = true) ∧ x0.length * 8 ≤ 140737488351232) (hb : (x0.map fun _ : Int => 1).sum + 1 ≤ 1048576) : ∃ k, tollbarlaw3_WordBack.f k x0 = some true := by
  rw [bulk_ints] at hb
  obtain ⟨k, hk⟩ : ∃ k, k = 1048576 + 20 := ⟨_, rfl⟩
  refine ⟨k, ?_⟩
  unfold tollbarlaw3_WordBack.f word_Put.f
  rw [put_is x0 (by omega)]
  by_cases hr : rates x0
  · rw [if_pos hr]
    simp only [Option.bind_some, num3]
    rw [if_pos trivial]
    have hz : (⟨(encs x0).toArray⟩ : ByteArray).size ≤ 9 * x0.length := by
      have := encs_le x0
      show (encs x0).toArray.size ≤ _
      simpa using this
    have hl := list_enc ⟨(encs x0).toArray⟩ (by omega) x0 [] [] k (by simp) hr (by simp) (by omega)
    have hl2 : listF k ⟨(encs x0).toArray⟩ [] 0 = some (x0, 0) := by simpa using hl
    unfold word_List.f
    rw [list_l0, hl2, awake_at k (by omega)]
    simp only [Option.bind_some]
    rw [same_at x0 x0 (by omega) k (by omega)]
    simp
  · rw [if_neg hr]
    simp [num3]

theorem WordForms (x0 : ByteArray) (h0 : x0.size ≤ 140737488351232) (hb : x0.size + 1 ≤ 1048576) : ∃ k, tollbarlaw3_WordForms.f k x0 = some true := by
  obtain ⟨k, hk⟩ : ∃ k, k = 1048576 + 20 := ⟨_, rfl⟩
  obtain ⟨xs, e, hl, hor⟩ := list_whole x0 (by omega) k (by omega)
  refine ⟨k, ?_⟩
  unfold tollbarlaw3_WordForms.f word_List.f
  rw [list_l0, hl]
  simp only [Option.bind_some, num3]
  rcases hor with ⟨rfl, hr, h⟩ | ⟨he, _, _⟩
  · have hlen : xs.length ≤ x0.size := by rw [← data_length, h]; exact encs_ge xs
    rw [if_pos rfl]
    unfold word_Put.f
    rw [put_is xs (by omega), if_pos hr, awake_at k (by omega)]
    have e1 : x0 = ⟨(encs xs).toArray⟩ := by
      apply ByteArray.ext
      apply Array.toList_inj.1
      rw [h]
    simp only [Option.bind_some]
    rw [if_pos trivial, if_pos trivial, ← e1]
    simp
  · rw [if_neg he]

theorem WordJoins (x0 : List Int) (h0 : (∀ x ∈ x0, (Lit.int .i64 x).wf = true) ∧ x0.length * 8 ≤ 140737488351232) (x1 : List Int) (h1 : (∀ x ∈ x1, (Lit.int .i64 x).wf = true) ∧ x1.length * 8 ≤ 140737488351232)
    (hb : (x0.map fun _ : Int => 1).sum + 1 + ((x1.map fun _ : Int => 1).sum + 1) ≤ 1048576) : ∃ k, tollbarlaw3_WordJoins.f k x0 x1 = some true := by
  rw [bulk_ints, bulk_ints] at hb
  refine ⟨30, ?_⟩
  unfold tollbarlaw3_WordJoins.f word_Put.f
  rw [put_is x0 (by omega), put_is x1 (by omega)]
  by_cases hr : rates x0
  · rw [if_pos hr]
    by_cases hq : rates x1
    · rw [if_pos hq]
      have hrq : rates (x0 ++ x1) := fun x hx => by
        rcases List.mem_append.1 hx with h | h
        · exact hr x h
        · exact hq x h
      have hp : word_Put.f (x0 ++ x1) = some (⟨(encs (x0 ++ x1)).toArray⟩, 0) := by
        unfold word_Put.f
        rw [put_is _ (by rw [List.length_append]; omega), if_pos hrq]
      have hc : tollbarlaw0_CopyInts.f x0 = some x0 := by
        unfold tollbarlaw0_CopyInts.f
        simp
        omega
      have z0 : (⟨(encs x0).toArray⟩ : ByteArray).size ≤ 9 * x0.length := by
        have := encs_le x0
        show (encs x0).toArray.size ≤ _
        simpa using this
      have z1 : (⟨(encs x1).toArray⟩ : ByteArray).size ≤ 9 * x1.length := by
        have := encs_le x1
        show (encs x1).toArray.size ≤ _
        simpa using this
      have e2 : (⟨(encs (x0 ++ x1)).toArray⟩ : ByteArray) = ⟨(encs x0).toArray⟩ ++ ⟨(encs x1).toArray⟩ := by
        rw [WordL.encs_append]
        apply ByteArray.ext
        apply Array.toList_inj.1
        simp
      simp only [Option.bind_some, num3]
      rw [if_pos trivial]
      simp only [tollbarlaw3_WordJoins.j0]
      rw [hc, if_neg (by decide)]
      simp only [Option.bind_some]
      rw [if_pos (by omega), hp, awake_at 29 (by omega)]
      simp only [Option.bind_some, num3]
      rw [if_pos trivial, if_pos trivial, if_pos (by omega), e2]
      simp
    · rw [if_neg hq]
      simp [num3, tollbarlaw3_WordJoins.j0]
  · rw [if_neg hr]
    by_cases hq : rates x1
    · rw [if_pos hq]
      simp [num3, tollbarlaw3_WordJoins.j0]
    · rw [if_neg hq]
      simp [num3, tollbarlaw3_WordJoins.j0]
end Go.Proofs.Ytikblicmnfnomaa.Pure
