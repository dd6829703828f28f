/- Plain laws on frames: what stands at a text's front, what frames of texts are read back as; no Go and no memory. -/
import Derived.Test.YtildlbmhdiknfaaQA2
set_option linter.unusedVariables false
namespace Go.Proofs.Ytildlbmhdiknfaa.Pure
open Go.RowKit Go.Proofs.Ytildlbmhdiknfaa.Man Go.Proofs.Ytildlbmhdiknfaa.QA Go.Proofs.YtildlbmhdiknfaaW.PrintWords Go.Proofs.YtildlbmhdiknfaaW.PrintLast

theorem awake25 : tollbarlaw25_awake.f = some true := by decide +kernel

theorem num25 (x : Int) : tollbarlaw0_Num.f x = some x := rfl

theorem next_bad (s : ByteArray) (m : Int) (h : m < 1 ∨ m > 8192) : nextF s m = some (0, ⟨#[]⟩, ⟨#[]⟩, 2500) := by
  unfold nextF; rw [if_pos h]
theorem next_short (s : ByteArray) (m : Int) (h : ¬ (m < 1 ∨ m > 8192)) (h2 : (s.size : Int) < 2) : nextF s m = some (0, ⟨#[]⟩, s, 0) := by
  unfold nextF; rw [if_neg h, if_pos h2]
theorem next_form (s : ByteArray) (m : Int) (h : ¬ (m < 1 ∨ m > 8192)) (h2 : ¬ (s.size : Int) < 2) (h3 : nx s = 0 ∨ nx s > m) : nextF s m = some (2, ⟨#[]⟩, ⟨#[]⟩, 0) := by
  unfold nextF; rw [if_neg h, if_neg h2, if_pos h3]
theorem next_none (s : ByteArray) (m : Int) (h : ¬ (m < 1 ∨ m > 8192)) (h2 : ¬ (s.size : Int) < 2) (h3 : ¬ (nx s = 0 ∨ nx s > m)) (h4 : nx s > (s.size : Int) - 2) : nextF s m = some (0, ⟨#[]⟩, s, 0) := by
  unfold nextF; rw [if_neg h, if_neg h2, if_neg h3, if_pos h4]
theorem next_whole (s : ByteArray) (m : Int) (h : ¬ (m < 1 ∨ m > 8192)) (h2 : ¬ (s.size : Int) < 2) (h3 : ¬ (nx s = 0 ∨ nx s > m)) (h4 : ¬ nx s > (s.size : Int) - 2) :
    nextF s m = some (1, s.extract 2 (2 + (nx s).toNat), s.extract (2 + (nx s).toNat) s.size, 0) := by
  unfold nextF; rw [if_neg h, if_neg h2, if_neg h3, if_neg h4]
theorem next_some (s : ByteArray) (m : Int) : ∃ x, nextF s m = some x := by
  unfold nextF
  repeat' split
  all_goals exact ⟨_, rfl⟩

theorem FrameNexts : tollbarlaw25_FrameNexts.Pure := by
  intro s m hs hm
  obtain ⟨⟨a, b, c, d⟩, h⟩ := next_some s m
  unfold tollbarlaw25_FrameNexts.f frame_Next.f tollbarref22_Next.f
  rw [if_pos (by omega), h, awake25]
  simp [num25]

theorem wrap_in (x : Int) (h0 : 0 ≤ x) (h1 : x ≤ 562949953421312) : wrap64 x = x := by
  unfold wrap64
  omega
theorem wrap_sum (a n : Nat) (h : 2 + n ≤ a) (h2 : a ≤ 140737488351232) : wrap64 (wrap64 (2 + (n : Int)) + ((a - (2 + n) : Nat) : Int)) = (a : Int) := by
  rw [wrap_in (2 + (n : Int)) (by omega) (by omega), wrap_in _ (by omega) (by omega)]
  omega
theorem emp_list : (⟨#[]⟩ : ByteArray).toList = [] := by decide +kernel
theorem bt_append (s t : ByteArray) (i : Int) (h : i.toNat < s.size) : bt (s ++ t) i = bt s i := by
  have h2 : i.toNat < (s ++ t).size := by rw [ByteArray.size_append]; omega
  unfold bt
  rw [dif_pos h2, dif_pos h]
  rw [ByteArray.getElem_append_left h]
theorem nx_append (s t : ByteArray) (h : ¬ (s.size : Int) < 2) : nx (s ++ t) = nx s := by
  unfold nx
  rw [bt_append s t 0 (by simp; omega), bt_append s t 1 (by simp; omega)]
theorem ext_left (s t : ByteArray) (i j : Nat) (h : j ≤ s.size) : (s ++ t).extract i j = s.extract i j := by
  apply ByteArray.ext
  rw [ByteArray.data_extract, ByteArray.data_extract, ByteArray.data_append]
  have h' : j ≤ s.data.size := h
  rw [Array.extract_append]
  simp
  omega
theorem ext_right (s t : ByteArray) (i : Nat) (h : i ≤ s.size) : (s ++ t).extract i (s ++ t).size = s.extract i s.size ++ t := by
  apply ByteArray.ext
  rw [ByteArray.data_extract, ByteArray.data_append, ByteArray.data_append, ByteArray.data_extract, ByteArray.size_append]
  rw [Array.extract_append]
  have h' : i ≤ s.data.size := h
  have e : s.size = s.data.size := rfl
  have e2 : t.size = t.data.size := rfl
  rw [e, e2, show i - s.data.size = 0 by omega, show s.data.size + t.data.size - s.data.size = t.data.size by omega]
  congr 1
  · apply Array.toList_inj.1
    simp
    omega
  · simp
theorem FrameParts : tollbarlaw25_FrameParts.Pure := by
  intro s t m hs ht _
  have hz : (s ++ t).size = s.size + t.size := ByteArray.size_append
  unfold tollbarlaw25_FrameParts.f frame_Next.f
  rw [awake25]
  have hle : s.size + t.size ≤ 9223372036854775807 := by omega
  by_cases h1 : m < 1 ∨ m > 8192
  · rw [next_bad s m h1, next_bad _ m h1]
    simp only [Option.bind_some, num25]
    simp [hle]
  by_cases h2 : (s.size : Int) < 2
  · obtain ⟨⟨a, b, c, d⟩, hn⟩ := next_some (s ++ t) m
    have hd : d = 0 := by
      unfold nextF at hn
      rw [if_neg h1] at hn
      repeat' split at hn
      all_goals (cases hn; rfl)
    rw [next_short s m h1 h2, hn]
    simp only [Option.bind_some, num25]
    simp [hle, hd]
  have h2' : ¬ ((s ++ t).size : Int) < 2 := by omega
  have hx := nx_append s t h2
  have hr := nx_range s
  by_cases h3 : nx s = 0 ∨ nx s > m
  · rw [next_form s m h1 h2 h3, next_form _ m h1 h2' (by rw [hx]; exact h3)]
    simp only [Option.bind_some, num25]
    simp [hle]
  by_cases h4 : nx s > (s.size : Int) - 2
  · obtain ⟨⟨a, b, c, d⟩, hn⟩ := next_some (s ++ t) m
    have hd : d = 0 := by
      unfold nextF at hn
      rw [if_neg h1] at hn
      repeat' split at hn
      all_goals (cases hn; rfl)
    rw [next_none s m h1 h2 h3 h4, hn]
    simp only [Option.bind_some, num25]
    simp [hle, hd]
  rw [next_whole s m h1 h2 h3 h4, next_whole _ m h1 h2' (by rw [hx]; exact h3) (by rw [hx]; omega), hx]
  simp only [Option.bind_some, num25]
  obtain ⟨n, hn⟩ : ∃ n : Nat, nx s = (n : Int) := ⟨(nx s).toNat, by omega⟩
  rw [hn, Int.toNat_natCast]
  rw [hn] at h4 hr
  have e1 : (s ++ t).extract 2 (2 + n) = s.extract 2 (2 + n) := ext_left s t 2 (2 + n) (by omega)
  have e2 : (s ++ t).extract (2 + n) (s ++ t).size = s.extract (2 + n) s.size ++ t := ext_right s t (2 + n) (by omega)
  have e3 : (s.extract 2 (2 + n)).size = n := by rw [ByteArray.size_extract]; omega
  have e4 : (s.extract (2 + n) s.size).size = s.size - (2 + n) := by rw [ByteArray.size_extract]; omega
  have w1 := wrap_sum s.size n (by clear e1 e2 e3 e4; omega) hs
  have hle2 : s.size - (2 + n) + t.size ≤ 9223372036854775807 := by clear e1 e2 e3 e4 w1; omega
  rw [e1, e2, e3, e4]
  simp [w1, hle, hle2]
end Go.Proofs.Ytildlbmhdiknfaa.Pure
