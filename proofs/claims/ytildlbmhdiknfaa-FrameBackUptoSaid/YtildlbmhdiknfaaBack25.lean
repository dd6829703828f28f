/- The plain laws Frames and FrameBack: frames put one behind the other are the reference's, and come one by one again. -/
import Derived.Test.YtildlbmhdiknfaaQA3
import Derived.Test.YtildlbmhdiknfaaLong25
set_option linter.unusedVariables false
namespace Go.Proofs.Ytildlbmhdiknfaa.Pure
open Go.RowKit Go.Proofs.Ytildlbmhdiknfaa.Man Go.Proofs.Ytildlbmhdiknfaa.QA Go.Proofs.YtildlbmhdiknfaaW.PrintWords Go.Proofs.YtildlbmhdiknfaaW.PrintLast

def bulk25 (l : List ByteArray) : Nat := (l.map fun s : ByteArray => s.size + 1).sum
theorem len_bulk (l : List ByteArray) : l.length ≤ bulk25 l := by
  induction l with
  | nil => simp [bulk25]
  | cons b r ih =>
    simp only [bulk25, List.map_cons, List.sum_cons, List.length_cons] at ih ⊢
    omega
theorem go_some : ∀ (l : List ByteArray) (acc : List UInt8), acc.length + 2 * bulk25 l ≤ 1099511627776 → ∃ r, frame_Put.go acc l = some r
  | [], acc, _ => ⟨_, rfl⟩
  | b :: r, acc, h => by
    simp only [bulk25, List.map_cons, List.sum_cons] at h
    have hr : bulk25 r = (r.map fun s : ByteArray => s.size + 1).sum := rfl
    unfold frame_Put.go
    by_cases h1 : (b.size : Int) = 0 ∨ (b.size : Int) > 8192
    · rw [if_pos h1]
      exact ⟨_, rfl⟩
    · rw [if_neg h1, if_pos (by omega)]
      refine go_some r _ ?_
      rw [List.length_append, List.length_append, data_length]
      simp
      omega
theorem same_loop (l : List ByteArray) (hl : l.length ≤ 1048576) : ∀ (d i k : Nat), l.length - i = d → i ≤ l.length → d < k → tollbarlaw0_SameTexts.l0 k l l (i : Int) = some true := by
  intro d
  induction d with
  | zero =>
    intro i k hd hi hk
    obtain ⟨k, rfl⟩ : ∃ m, k = m + 1 := ⟨k - 1, by omega⟩
    simp only [tollbarlaw0_SameTexts.l0]
    rw [if_neg (by omega)]
  | succ d ih =>
    intro i k hd hi hk
    obtain ⟨k, rfl⟩ : ∃ m, k = m + 1 := ⟨k - 1, by omega⟩
    simp only [tollbarlaw0_SameTexts.l0]
    have hw : wrap64 ((i : Int) + 1) = ((i + 1 : Nat) : Int) := by
      have h0 : 0 ≤ (i : Int) + 1 := by omega
      have h1 : (i : Int) + 1 ≤ 562949953421312 := by omega
      exact (wrap_in _ h0 h1).trans (by omega)
    rw [hw, if_pos (by omega), if_pos (by omega), if_pos (by omega)]
    have := ih (i + 1) k (by omega) (by omega) (by omega)
    simpa using this
theorem same_texts (l : List ByteArray) (hl : l.length ≤ 1048576) : tollbarlaw0_SameTexts.f (l.length + 1) l l = some true := by
  unfold tollbarlaw0_SameTexts.f
  rw [if_pos rfl]
  exact same_loop l hl l.length 0 _ (by omega) (by omega) (by omega)

theorem Frames (x0 : (List ByteArray)) (h0 : (∀ x ∈ x0, x.size ≤ 140737488351232) ∧ x0.length * 16 ≤ 140737488351232) (hb : bulk25 x0 + 1 ≤ 1048576) : ∃ k, tollbarlaw25_Frames.f k x0 = some true := by
  have hl := len_bulk x0
  obtain ⟨⟨r, e⟩, hg⟩ := go_some x0 [] (by simp; omega)
  refine ⟨x0.length + 1, ?_⟩
  unfold tollbarlaw25_Frames.f
  have hc : tollbarlaw0_CopyTexts.f x0 = some x0 := by
    unfold tollbarlaw0_CopyTexts.f
    simp
    omega
  rw [hc]
  simp only [Option.bind_some]
  have hp : frame_Put.f x0 = some (r, e) := hg
  have hq : tollbarref22_PutFrames.f x0 = some (r, e) := hg
  rw [hp, hq, awake25]
  simp only [Option.bind_some, num25]
  rw [same_texts x0 (by omega)]
  simp

def frs : List ByteArray → ByteArray
  | [] => ByteArray.empty
  | b :: r => fr b ++ frs r
theorem go_frs : ∀ (l : List ByteArray) (acc : List UInt8) (r : ByteArray) (e : Int), frame_Put.go acc l = some (r, e) → e ≠ 0 ∨ (r = ⟨acc.toArray⟩ ++ frs l ∧ ∀ b ∈ l, b.size ≠ 0 ∧ b.size ≤ 8192)
  | [], acc, r, e, h => by
    simp only [frame_Put.go, Option.some.injEq, Prod.mk.injEq] at h
    refine .inr ⟨?_, by simp⟩
    rw [← h.1]
    simp [frs]
  | b :: l, acc, r, e, h => by
    unfold frame_Put.go at h
    by_cases h1 : (b.size : Int) = 0 ∨ (b.size : Int) > 8192
    · rw [if_pos h1] at h
      cases h
      exact .inl (by decide)
    · rw [if_neg h1] at h
      by_cases h2 : acc.length + 2 + b.size ≤ 140737488355328
      · rw [if_pos h2] at h
        rcases go_frs l _ r e h with h3 | ⟨h3, h4⟩
        · exact .inl h3
        · refine .inr ⟨?_, ?_⟩
          · rw [h3]
            show _ = (⟨acc.toArray⟩ : ByteArray) ++ (fr b ++ frs l)
            rw [← ByteArray.append_assoc]
            congr 1
            apply ByteArray.ext
            apply Array.toList_inj.1
            simp [fr]
          · intro c hc
            rcases List.mem_cons.1 hc with rfl | hc
            · omega
            · exact h4 c hc
      · rw [if_neg h2] at h
        cases h
theorem back_loop (l : List ByteArray) (behind : ByteArray) (hl : l.length ≤ 1048576) (hb : ∀ b ∈ l, b.size ≠ 0 ∧ b.size ≤ 8192) : ∀ (d i k : Nat), l.length - i = d → i ≤ l.length → d < k →
    tollbarlaw25_FrameBack.l0 k l behind (frs (l.drop i) ++ behind) (i : Int) = some true := by
  intro d
  induction d with
  | zero =>
    intro i k hd hi hk
    obtain ⟨k, rfl⟩ : ∃ m, k = m + 1 := ⟨k - 1, by omega⟩
    obtain rfl : i = l.length := by omega
    simp only [tollbarlaw25_FrameBack.l0]
    rw [if_neg (by omega), awake25, List.drop_length]
    simp [frs]
  | succ d ih =>
    intro i k hd hi hk
    obtain ⟨k, rfl⟩ : ∃ m, k = m + 1 := ⟨k - 1, by omega⟩
    have hlt : i < l.length := by omega
    have hw : wrap64 ((i : Int) + 1) = ((i + 1 : Nat) : Int) := by
      have h0 : 0 ≤ (i : Int) + 1 := by omega
      have h1 : (i : Int) + 1 ≤ 562949953421312 := by omega
      exact (wrap_in _ h0 h1).trans (by omega)
    have hd2 : l.drop i = l[i] :: l.drop (i + 1) := List.drop_eq_getElem_cons hlt
    have hrd : rdOf ByteArray.empty l (i : Int) = l[i] := by simp [rdOf, List.getD_eq_getElem?_getD, hlt]
    obtain ⟨hb0, hb1⟩ := hb l[i] (List.getElem_mem hlt)
    have hx : frs (l.drop i) ++ behind = fr l[i] ++ (frs (l.drop (i + 1)) ++ behind) := by
      rw [hd2]
      show (fr l[i] ++ frs (l.drop (i + 1))) ++ behind = _
      rw [ByteArray.append_assoc]
    have hnext := next_fr l[i] (frs (l.drop (i + 1)) ++ behind) 8192 hb0 hb1 (by omega) (by omega)
    have hih := ih (i + 1) k (by omega) (by omega) (by omega)
    simp only [tollbarlaw25_FrameBack.l0]
    unfold frame_Next.f
    rw [hw, hx, hnext, hrd, if_pos (by omega)]
    simp only [Option.bind_some, num25]
    rw [if_pos trivial, if_pos trivial, if_pos (by omega), if_pos trivial]
    exact hih
theorem FrameBack (x0 : (List ByteArray)) (h0 : (∀ x ∈ x0, x.size ≤ 140737488351232) ∧ x0.length * 16 ≤ 140737488351232) (x1 : ByteArray) (h1 : x1.size ≤ 140737488351232) (hb : bulk25 x0 + 1 + (x1.size + 1) ≤ 1048576) : ∃ k, tollbarlaw25_FrameBack.f k x0 x1 = some true := by
  have hl := len_bulk x0
  obtain ⟨⟨r, e⟩, hg⟩ := go_some x0 [] (by simp; omega)
  refine ⟨x0.length + 1, ?_⟩
  unfold tollbarlaw25_FrameBack.f
  have hp : frame_Put.f x0 = some (r, e) := hg
  rw [hp]
  simp only [Option.bind_some, num25]
  rcases go_frs x0 [] r e hg with h2 | ⟨h2, h3⟩
  · rw [if_neg h2]
  · by_cases he : e = 0
    · have hr : r = frs x0 := by
        rw [h2]
        exact ByteArray.empty_append
      have hsz : ∀ l : List ByteArray, (frs l).size ≤ 2 * bulk25 l := by
        intro l
        induction l with
        | nil => simp [frs, bulk25]
        | cons b r ih =>
          have : (frs (b :: r)).size = (fr b).size + (frs r).size := ByteArray.size_append
          rw [this, fr_size]
          simp only [bulk25, List.map_cons, List.sum_cons] at ih ⊢
          omega
      have hs := hsz x0
      have hle : r.size + x1.size ≤ 9223372036854775807 := by rw [hr]; omega
      rw [if_pos he, if_pos hle, hr]
      have := back_loop x0 x1 (by omega) h3 x0.length 0 (x0.length + 1) (by omega) (by omega) (by omega)
      simpa using this
    · rw [if_neg he]
end Go.Proofs.Ytildlbmhdiknfaa.Pure
