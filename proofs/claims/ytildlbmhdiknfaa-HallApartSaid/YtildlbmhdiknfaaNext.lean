/- frame.Next and tollbarref22.Next at this dump: both return what the one plain function 'nextF' gives, for every text and every bound. -/
import Derived.Test.YtildlbmhdiknfaaBld
import Derived.Test.YtildlbmhdiknfaaWMore
import Derived.Lib.Hide
import Derived.IntWalk
set_option linter.unusedVariables false
namespace Go.Proofs.Ytildlbmhdiknfaa.Man
open Go.RowKit Go.Proofs.YtildlbmhdiknfaaW.PrintWords Go.Proofs.YtildlbmhdiknfaaW.PrintLast Go.Proofs.YtildlbmhdiknfaaW.PrintMore

/-- The length that stands at a text's front. -/
def nx (s : ByteArray) : Int := bt s 0 * 256 + bt s 1
theorem nx_range (s : ByteArray) : 0 ≤ nx s ∧ nx s ≤ 65535 := by
  have := bt_range s 0
  have := bt_range s 1
  unfold nx
  omega
def nextF (a0 : ByteArray) (a1 : Int) : Option (Int × ByteArray × ByteArray × Int) :=
  if a1 < 1 ∨ a1 > 8192 then some (0, ⟨#[]⟩, ⟨#[]⟩, 2500) else if (a0.size : Int) < 2 then some (0, ⟨#[]⟩, a0, 0)
  else if nx a0 = 0 ∨ nx a0 > a1 then some (2, ⟨#[]⟩, ⟨#[]⟩, 0) else if nx a0 > (a0.size : Int) - 2 then some (0, ⟨#[]⟩, a0, 0)
  else some (1, a0.extract 2 (2 + (nx a0).toNat), a0.extract (2 + (nx a0).toNat) a0.size, 0)
def frame_Next.f (a0 : ByteArray) (a1 : Int) : Option (Int × ByteArray × ByteArray × Int) := nextF a0 a1
def tollbarref22_Next.f (a0 : ByteArray) (a1 : Int) : Option (Int × ByteArray × ByteArray × Int) := if a0.size ≤ 562949953421312 then nextF a0 a1 else none

theorem cut_a (s : ByteArray) (n : Nat) (h : 2 + n ≤ s.size) : (s.extract 2 s.size).extract 0 n = s.extract 2 (2 + n) := by
  rw [ByteArray.extract_extract]
  congr 1
  omega
theorem cut_b (s : ByteArray) (n : Nat) (h : 2 + n ≤ s.size) : (s.extract 2 s.size).extract n (s.size - 2) = s.extract (2 + n) s.size := by
  rw [ByteArray.extract_extract]
  congr 1
  omega
theorem wraps_i64 (n : Int) (h₀ : 0 ≤ n) (h₁ : n < 2 ^ 63) : IntKind.i64.wrap n = n := by rw [IntKind.wrap_i64]; omega
theorem or_nx (s : ByteArray) : Go.bits .or .i64 (bt s 0 * 256) (bt s 1) = nx s := by
  have h0 := bt_range s 0
  have h1 := bt_range s 1
  exact bits_join .i64 63 (by decide) wraps_i64 8 _ _ (by omega) (by omega) (by omega) (by omega) (by omega) (by omega)

set_option maxHeartbeats 4000000 in
set_option maxRecDepth 100000 in
theorem frame_Next.calls (a0 : ByteArray) (a1 : Int) (r1 : Int) (r2 : ByteArray) (r3 : ByteArray) (r4 : Int) (w : World) (h : frame_Next.f a0 a1 = some (r1, r2, r3, r4)) :
    Calls Try.prog 18 #[.string a0, .int .i64 a1] w fun e w' => e = .returned (.tuple #[.int .i64 r1, .string r2, .string r3, .int .i64 r4]) ∧ Drawn0 w w' := by
  unfold frame_Next.f nextF at h
  by_cases h1 : a1 < 1
  · rw [if_pos (Or.inl h1)] at h
    cases h
    go_enter Try.func18, Try.ntmps18
    go_wp2
    refine bodyPost_ret (results_list (rs := [.tmp 4, .tmp 5, .tmp 6, .tmp 7]) rfl (by simp) (.tmp (.tmp (.tmp (.tmp .nil))))) rfl ?_
    exact ⟨rfl, by repeat (first | exact Drawn0.refl _ | apply Drawn0.step)⟩
  by_cases h2 : a1 > 8192
  · rw [if_pos (Or.inr h2)] at h
    cases h
    go_enter Try.func18, Try.ntmps18
    go_wp2
    refine bodyPost_ret (results_list (rs := [.tmp 4, .tmp 5, .tmp 6, .tmp 7]) rfl (by simp) (.tmp (.tmp (.tmp (.tmp .nil))))) rfl ?_
    exact ⟨rfl, by repeat (first | exact Drawn0.refl _ | apply Drawn0.step)⟩
  rw [if_neg (by omega)] at h
  by_cases h3 : (a0.size : Int) < 2
  · rw [if_pos h3] at h
    cases h
    go_enter Try.func18, Try.ntmps18
    go_wp2
    refine bodyPost_ret (results_list (rs := [.tmp 4, .tmp 5, .tmp 6, .tmp 7]) rfl (by simp) (.tmp (.tmp (.tmp (.tmp .nil))))) rfl ?_
    exact ⟨rfl, by repeat (first | exact Drawn0.refl _ | apply Drawn0.step)⟩
  rw [if_neg h3] at h
  have q8 : 0 < a0.size := by omega
  have hx8 : ∀ h : 0 < a0.size, ((a0[0]'h).toNat : Int) = bt a0 0 := bt_at a0 0
  have qi8 : (0 < (a0.size : Int)) = True := eq_true (by omega)
  replace q8 := eq_true q8
  have q10 : 1 < a0.size := by omega
  have hx10 : ∀ h : 1 < a0.size, ((a0[1]'h).toNat : Int) = bt a0 1 := bt_at a0 1
  have qi10 : (1 < (a0.size : Int)) = True := eq_true (by omega)
  replace q10 := eq_true q10
  have b0 := bt_range a0 0
  have b1 := bt_range a0 1
  have nr := nx_range a0
  have e1 : wrap64 (bt a0 0) = bt a0 0 := by unfold wrap64; omega
  have e2 : wrap64 (bt a0 0 * 256) = bt a0 0 * 256 := by unfold wrap64; omega
  have e3 : wrap64 (bt a0 1) = bt a0 1 := by unfold wrap64; omega
  have e4 : Go.bits .or .i64 (bt a0 0 * 256) (bt a0 1) = nx a0 := or_nx a0
  clear b0 b1
  obtain ⟨n, hn⟩ : ∃ n : Nat, nx a0 = (n : Int) := ⟨(nx a0).toNat, by omega⟩
  rw [hn] at h nr e4
  clear hn
  by_cases h4 : (n : Int) = 0
  · rw [if_pos (Or.inl h4)] at h
    cases h
    obtain rfl : n = 0 := by omega
    clear h4 nr
    go_enter Try.func18, Try.ntmps18
    go_wp2
    go_quiet (fail)
    go_wp2
    refine bodyPost_ret (results_list (rs := [.tmp 4, .tmp 5, .tmp 6, .tmp 7]) rfl (by simp) (.tmp (.tmp (.tmp (.tmp .nil))))) rfl ?_
    exact ⟨rfl, by repeat (first | exact Drawn0.refl _ | apply Drawn0.step)⟩
  have h4b : ((n : Int) == 0) = false := by simpa using h4
  by_cases h5 : (n : Int) > a1
  · rw [if_pos (Or.inr h5)] at h
    cases h
    clear h4 nr
    have h5b : decide (a1 < (n : Int)) = true := by simpa using h5
    go_enter Try.func18, Try.ntmps18
    go_wp2
    go_quiet (fail)
    go_wp2
    refine bodyPost_ret (results_list (rs := [.tmp 4, .tmp 5, .tmp 6, .tmp 7]) rfl (by simp) (.tmp (.tmp (.tmp (.tmp .nil))))) rfl ?_
    exact ⟨rfl, by repeat (first | exact Drawn0.refl _ | apply Drawn0.step)⟩
  have h5b : decide (a1 < (n : Int)) = false := by simpa using h5
  rw [if_neg (by omega)] at h
  by_cases h6 : (n : Int) > (a0.size : Int) - 2
  · rw [if_pos h6] at h
    cases h
    clear h4 nr
    go_enter Try.func18, Try.ntmps18
    go_wp2
    go_quiet (fail)
    go_wp2
    refine bodyPost_ret (results_list (rs := [.tmp 4, .tmp 5, .tmp 6, .tmp 7]) rfl (by simp) (.tmp (.tmp (.tmp (.tmp .nil))))) rfl ?_
    exact ⟨rfl, by repeat (first | exact Drawn0.refl _ | apply Drawn0.step)⟩
  rw [if_neg h6, Int.toNat_natCast] at h
  cases h
  clear h4
  go_enter Try.func18, Try.ntmps18
  go_wp2
  go_quiet (fail)
  go_wp2
  go_quiet (fail)
  go_wp2
  refine bodyPost_ret (results_list (rs := [.tmp 4, .tmp 5, .tmp 6, .tmp 7]) rfl (by simp) (.tmp (.tmp (.tmp (.tmp .nil))))) rfl ?_
  have c1 := cut_a a0 n (by omega)
  have c2 := cut_b a0 n (by omega)
  exact ⟨by simp [c1, c2], by repeat (first | exact Drawn0.refl _ | apply Drawn0.step)⟩

set_option maxHeartbeats 4000000 in
set_option maxRecDepth 100000 in
theorem tollbarref22_Next.calls (a0 : ByteArray) (a1 : Int) (r1 : Int) (r2 : ByteArray) (r3 : ByteArray) (r4 : Int) (w : World) (h : tollbarref22_Next.f a0 a1 = some (r1, r2, r3, r4)) :
    Calls Try.prog 19 #[.string a0, .int .i64 a1] w fun e w' => e = .returned (.tuple #[.int .i64 r1, .string r2, .string r3, .int .i64 r4]) ∧ Drawn0 w w' := by
  unfold tollbarref22_Next.f nextF at h
  by_cases h0 : a0.size ≤ 562949953421312
  case neg => rw [if_neg h0] at h; cases h
  rw [if_pos h0] at h
  by_cases h1 : a1 < 1
  · rw [if_pos (Or.inl h1)] at h
    cases h
    go_enter Try.func19, Try.ntmps19
    go_wp2
    refine bodyPost_ret (results_list (rs := [.tmp 4, .tmp 5, .tmp 6, .tmp 7]) rfl (by simp) (.tmp (.tmp (.tmp (.tmp .nil))))) rfl ?_
    exact ⟨rfl, by repeat (first | exact Drawn0.refl _ | apply Drawn0.step)⟩
  by_cases h2 : a1 > 8192
  · rw [if_pos (Or.inr h2)] at h
    cases h
    go_enter Try.func19, Try.ntmps19
    go_wp2
    refine bodyPost_ret (results_list (rs := [.tmp 4, .tmp 5, .tmp 6, .tmp 7]) rfl (by simp) (.tmp (.tmp (.tmp (.tmp .nil))))) rfl ?_
    exact ⟨rfl, by repeat (first | exact Drawn0.refl _ | apply Drawn0.step)⟩
  rw [if_neg (by omega)] at h
  by_cases h3 : (a0.size : Int) < 2
  · rw [if_pos h3] at h
    cases h
    go_enter Try.func19, Try.ntmps19
    go_wp2
    refine bodyPost_ret (results_list (rs := [.tmp 4, .tmp 5, .tmp 6, .tmp 7]) rfl (by simp) (.tmp (.tmp (.tmp (.tmp .nil))))) rfl ?_
    exact ⟨rfl, by repeat (first | exact Drawn0.refl _ | apply Drawn0.step)⟩
  rw [if_neg h3] at h
  have q8 : 0 < a0.size := by omega
  have hx8 : ∀ h : 0 < a0.size, ((a0[0]'h).toNat : Int) = bt a0 0 := bt_at a0 0
  have qi8 : (0 < (a0.size : Int)) = True := eq_true (by omega)
  replace q8 := eq_true q8
  have q10 : 1 < a0.size := by omega
  have hx10 : ∀ h : 1 < a0.size, ((a0[1]'h).toNat : Int) = bt a0 1 := bt_at a0 1
  have qi10 : (1 < (a0.size : Int)) = True := eq_true (by omega)
  replace q10 := eq_true q10
  have b0 := bt_range a0 0
  have b1 := bt_range a0 1
  have nr := nx_range a0
  have e1 : wrap64 (bt a0 0) = bt a0 0 := by unfold wrap64; omega
  have e2 : wrap64 (bt a0 0 * 256) = bt a0 0 * 256 := by unfold wrap64; omega
  have e3 : wrap64 (bt a0 1) = bt a0 1 := by unfold wrap64; omega
  have e4 : wrap64 (bt a0 0 * 256 + bt a0 1) = nx a0 := by show _ = bt a0 0 * 256 + bt a0 1; unfold wrap64; omega
  clear b0 b1
  obtain ⟨n, hn⟩ : ∃ n : Nat, nx a0 = (n : Int) := ⟨(nx a0).toNat, by omega⟩
  rw [hn] at h nr e4
  clear hn
  by_cases h4 : (n : Int) = 0
  · rw [if_pos (Or.inl h4)] at h
    cases h
    obtain rfl : n = 0 := by omega
    clear h4 nr
    go_enter Try.func19, Try.ntmps19
    go_wp2
    go_quiet (fail)
    go_wp2
    refine bodyPost_ret (results_list (rs := [.tmp 4, .tmp 5, .tmp 6, .tmp 7]) rfl (by simp) (.tmp (.tmp (.tmp (.tmp .nil))))) rfl ?_
    exact ⟨rfl, by repeat (first | exact Drawn0.refl _ | apply Drawn0.step)⟩
  have h4b : ((n : Int) == 0) = false := by simpa using h4
  by_cases h5 : (n : Int) > a1
  · rw [if_pos (Or.inr h5)] at h
    cases h
    clear h4 nr
    have h5b : decide (a1 < (n : Int)) = true := by simpa using h5
    go_enter Try.func19, Try.ntmps19
    go_wp2
    go_quiet (fail)
    go_wp2
    refine bodyPost_ret (results_list (rs := [.tmp 4, .tmp 5, .tmp 6, .tmp 7]) rfl (by simp) (.tmp (.tmp (.tmp (.tmp .nil))))) rfl ?_
    exact ⟨rfl, by repeat (first | exact Drawn0.refl _ | apply Drawn0.step)⟩
  have h5b : decide (a1 < (n : Int)) = false := by simpa using h5
  rw [if_neg (by omega)] at h
  by_cases h6 : (n : Int) > (a0.size : Int) - 2
  · rw [if_pos h6] at h
    cases h
    clear h4 nr
    go_enter Try.func19, Try.ntmps19
    go_wp2
    go_quiet (fail)
    go_wp2
    refine bodyPost_ret (results_list (rs := [.tmp 4, .tmp 5, .tmp 6, .tmp 7]) rfl (by simp) (.tmp (.tmp (.tmp (.tmp .nil))))) rfl ?_
    exact ⟨rfl, by repeat (first | exact Drawn0.refl _ | apply Drawn0.step)⟩
  rw [if_neg h6, Int.toNat_natCast] at h
  cases h
  clear h4
  have g1 : IntKind.i64.wrap (2 + (n : Int)) = 2 + (n : Int) := IntWalk.i64_in _ (by omega)
  have g2 : 0 ≤ (2 : Int) + (n : Int) := by omega
  have g3 : ((2 : Int) + (n : Int)).toNat = 2 + n := by omega
  have g4 : ((2 : Int) + (n : Int) ≤ (a0.size : Int)) = True := eq_true (by omega)
  have g5 : ((2 : Int) ≤ (2 : Int) + (n : Int)) = True := eq_true (by omega)
  have g6 : ((2 : Int) ≤ (a0.size : Int)) = True := eq_true (by omega)
  go_enter Try.func19, Try.ntmps19
  go_wp2
  go_quiet (fail)
  go_wp2
  go_quiet (fail)
  go_wp2
  refine bodyPost_ret (results_list (rs := [.tmp 4, .tmp 5, .tmp 6, .tmp 7]) rfl (by simp) (.tmp (.tmp (.tmp (.tmp .nil))))) rfl ?_
  exact ⟨by first | rfl | (simp; done) | (simp [*]; done), by repeat (first | exact Drawn0.refl _ | apply Drawn0.step)⟩
end Go.Proofs.Ytildlbmhdiknfaa.Man
