/- The laws HallApart and HallEnds: their calls return true. -/
import Derived.Test.YtildlbmhdiknfaaHallP
set_option linter.unusedVariables false
namespace Go.Proofs.Ytildlbmhdiknfaa.Man
open Go.RowKit Go.Proofs.YtildlbmhdiknfaaW.PrintWords Go.Proofs.YtildlbmhdiknfaaW.PrintLast Go.Proofs.YtildlbmhdiknfaaW.PrintMore

theorem two_open1 : openF 2 [] = (0, 0, [ByteArray.empty]) := by decide
theorem two_open2 : openF 2 [ByteArray.empty] = (1, 0, [ByteArray.empty, ByteArray.empty]) := by decide
theorem two_in0 (x y s : ByteArray) : inputF [x, y] 0 s = if (s.size : Int) > 256 - (x.size : Int) then (2703, [x, y]) else (0, [x ++ s, y]) := by
  unfold inputF
  rw [if_pos (by simp)]
  rfl
theorem two_in1 (x y s : ByteArray) : inputF [x, y] 1 s = if (s.size : Int) > 256 - (y.size : Int) then (2703, [x, y]) else (0, [x, y ++ s]) := by
  unfold inputF
  rw [if_pos (by simp)]
  rfl
theorem two_box1 (x y : ByteArray) : boxF [x, y] 1 = y := by
  unfold boxF
  rw [if_pos (by simp)]
  rfl
theorem two_box0 (x y : ByteArray) : boxF [x, y] 0 = x := by
  unfold boxF
  rw [if_pos (by simp)]
  rfl
theorem two_take (x y : ByteArray) : takeF [x, y] 0 = ((nextV x).1, (nextV x).2.1, [(nextV x).2.2.1, y]) := by
  unfold takeF
  rw [two_box0, if_pos (by simp)]
  rfl
theorem one_take (x : ByteArray) : takeF [x] 0 = ((nextV x).1, (nextV x).2.1, [(nextV x).2.2.1]) := by
  unfold takeF
  rw [one_box, if_pos (by simp)]
  rfl
theorem empty_add (x : ByteArray) : ByteArray.empty ++ x = x := by simp
/-- What is ready is taken. -/
theorem next_less (x : ByteArray) (h : (nextV x).1 ≠ 0) : (nextV x).2.2.1.size < x.size := by
  revert h
  unfold nextV nextF
  rw [if_neg (by decide)]
  by_cases h2 : (x.size : Int) < 2
  · rw [if_pos h2]; exact fun h => absurd rfl h
  rw [if_neg h2]
  by_cases h3 : nx x = 0 ∨ nx x > 64
  · rw [if_pos h3]
    intro _
    show (0 : Nat) < _
    omega
  rw [if_neg h3]
  by_cases h4 : nx x > (x.size : Int) - 2
  · rw [if_pos h4]; exact fun h => absurd rfl h
  rw [if_neg h4]
  intro _
  show (x.extract (2 + (nx x).toNat) x.size).size < _
  rw [ByteArray.size_extract]
  omega

def Taken (w : World) (b : ByteArray) (i : Value) (w' : World) : Prop := ∃ (v : Value) (x : ByteArray) (k : Nat), i = .int .i64 (k : Int) ∧ k ≤ 7 ∧ HallIs 72 w w' w.heap.size v 2 [x, b]

set_option maxHeartbeats 8000000 in
set_option maxRecDepth 100000 in
theorem apart_true (a b : ByteArray) (n : Int) (w : World) (ha : a.size ≤ 140737488351232) (hb : b.size ≤ 140737488351232) :
    Calls Try.prog 10 #[.string a, .string b, .int .i64 n] w fun e w' => e = .returned (.bool true) ∧ Below w.heap.size w w' := by
  go_enter Try.func10, Try.ntmps10
  go_wp2_with fail
  refine (hall_New 2 w w (by omega) (Below.refl _ _)).mono ?_
  rintro e w1 ⟨rfl, h1, _⟩
  have H1 := Lib.hid h1
  clear h1
  go_wp2_with fail
  refine (num_is _ _).mono ?_
  rintro e w2 ⟨rfl, rfl⟩
  go_wp2_with fail
  refine (hall_Open w w1 w.heap.size _ 2 [] H1.out).mono ?_
  rintro e w2 ⟨v2, rfl, h2, _⟩
  rw [two_open1] at h2 ⊢
  have H2 := Lib.hid h2
  clear h2
  go_wp2_with fail
  refine (hall_Open w w2 w.heap.size _ 2 _ H2.out).mono ?_
  rintro e w3 ⟨v3, rfl, h3, _⟩
  rw [two_open2] at h3 ⊢
  have H3 := Lib.hid h3
  clear h3
  go_wp2_with fail
  refine (hall_Input w w3 w.heap.size _ 2 _ 0 a H3.out).mono ?_
  rintro e w4 ⟨v4, rfl, h4, _⟩
  rw [two_in0] at h4 ⊢
  by_cases la : (a.size : Int) > 256 - (ByteArray.empty.size : Int)
  · rw [if_pos la] at h4 ⊢
    have H4 := Lib.hid h4
    clear h4
    have hd : decide ((a.size : Int) > 256) = true := by simpa using la
    clear la
    go_wp2_with fail
    refine (hall_Input w w4 w.heap.size _ 2 _ 1 b H4.out).mono ?_
    rintro e w5 ⟨v5, rfl, h5, _⟩
    obtain ⟨q, hq⟩ : ∃ q, inputF [ByteArray.empty, ByteArray.empty] 1 b = q := ⟨_, rfl⟩
    rw [hq] at h5 ⊢
    have H5 := Lib.hid h5
    clear h5 hq
    go_wp2_with fail
    refine (num_is _ _).mono ?_
    rintro e w6 ⟨rfl, rfl⟩
    go_wp2_with fail
    refine (awake27 w5).mono ?_
    rintro e w7 ⟨rfl, h7⟩
    have H7 := Lib.hid (H5.out.later h7)
    clear h7
    go_wp2
    go_ret
    exact ⟨rfl, H7.out.below⟩
  rw [if_neg la, empty_add] at h4
  rw [if_neg la]
  have H4 := Lib.hid h4
  clear h4
  have hda : decide ((a.size : Int) > 256) = false := by simpa using la
  clear la
  go_wp2_with fail
  refine (hall_Input w w4 w.heap.size _ 2 _ 1 b H4.out).mono ?_
  rintro e w5 ⟨v5, rfl, h5, _⟩
  rw [two_in1] at h5 ⊢
  by_cases lb : (b.size : Int) > 256 - (ByteArray.empty.size : Int)
  · rw [if_pos lb] at h5 ⊢
    have H5 := Lib.hid h5
    clear h5
    have hdb : decide ((b.size : Int) > 256) = true := by simpa using lb
    clear lb
    go_wp2_with fail
    refine (num_is _ _).mono ?_
    rintro e w6 ⟨rfl, rfl⟩
    go_wp2_with fail
    refine (num_is _ _).mono ?_
    rintro e w6 ⟨rfl, rfl⟩
    go_wp2_with fail
    refine (awake27 w5).mono ?_
    rintro e w7 ⟨rfl, h7⟩
    have H7 := Lib.hid (H5.out.later h7)
    clear h7
    go_wp2
    go_ret
    exact ⟨rfl, H7.out.below⟩
  rw [if_neg lb, empty_add] at h5
  rw [if_neg lb]
  have H5 := Lib.hid h5
  clear h5 lb
  go_wp2_with fail
  refine (num_is _ _).mono ?_
  rintro e w6 ⟨rfl, rfl⟩
  go_wp2_with fail
  refine (num_is _ _).mono ?_
  rintro e w6 ⟨rfl, rfl⟩
  obtain ⟨hb0, hb1⟩ : 0 ≤ Go.bits .and .i64 n 7 ∧ Go.bits .and .i64 n 7 ≤ 7 := and_range n 7 (by decide)
  obtain ⟨t, ht⟩ := Int.eq_ofNat_of_zero_le hb0
  rw [ht] at hb1
  go_wp2_with fail
  go_loopw [11] (Taken w b) (fun i _ => (8 - (intOf i).toNat))
  case atStart => exact ⟨v5, a, 0, rfl, by omega, H5.out⟩
  case round =>
    obtain ⟨v, x, k, rfl, hk7, hH⟩ := hrel
    have HH := Lib.hid hH
    clear hH
    by_cases hk : k < t
    · have hd : decide ((k : Int) < (t : Int)) = true := by simpa using hk
      go_wp2_with fail
      refine (hall_Take w wr w.heap.size v 2 _ 0 HH.out).mono ?_
      rintro e w6 ⟨v6, rfl, h6, _⟩
      rw [two_take] at h6 ⊢
      have H6 := Lib.hid h6
      clear h6
      go_wp2
      go_roundw
      case rel => exact ⟨v6, _, k + 1, by go_num, by omega, H6.out⟩
      case measure => simp [intOf]; omega
    · have hd : decide ((k : Int) < (t : Int)) = false := by simpa using hk
      go_wp2_with fail
      refine (awake27 wr).mono ?_
      rintro e w7 ⟨rfl, h7⟩
      have H7 := Lib.hid (HH.out.later h7)
      clear h7
      go_wp2_with fail
      refine (hall_Inbox w w7 w.heap.size _ 2 _ 1 H7.out).mono ?_
      rintro e w8 ⟨rfl, h8⟩
      rw [two_box1]
      have H8 := Lib.hid (H7.out.drawn h8)
      clear h8
      go_wp2
      go_ret
      exact ⟨rfl, H8.out.below⟩

def Ended (w : World) (n : Nat) (i : Value) (w' : World) : Prop := ∃ (v : Value) (x : ByteArray) (k : Nat), i = .int .i64 (k : Int) ∧ x.size + k ≤ n ∧ n ≤ 256 ∧ HallIs 72 w w' w.heap.size v 1 [x]

set_option maxHeartbeats 8000000 in
set_option maxRecDepth 100000 in
theorem ends_true (s : ByteArray) (w : World) (hs : s.size ≤ 140737488351232) :
    Calls Try.prog 11 #[.string s] w fun e w' => e = .returned (.bool true) ∧ Below w.heap.size w w' := by
  go_enter Try.func11, Try.ntmps11
  go_wp2_with fail
  refine (hall_New 1 w w (by omega) (Below.refl _ _)).mono ?_
  rintro e w1 ⟨rfl, h1, _⟩
  have H1 := Lib.hid h1
  clear h1
  go_wp2_with fail
  refine (num_is _ _).mono ?_
  rintro e w2 ⟨rfl, rfl⟩
  go_wp2_with fail
  refine (hall_Open w w1 w.heap.size _ 1 [] H1.out).mono ?_
  rintro e w2 ⟨v2, rfl, h2, _⟩
  rw [one_open] at h2 ⊢
  have H2 := Lib.hid h2
  clear h2
  go_wp2_with fail
  refine (hall_Input w w2 w.heap.size _ 1 _ 0 s H2.out).mono ?_
  rintro e w4 ⟨v4, rfl, h4, _⟩
  by_cases la : (s.size : Int) > 256 - (ByteArray.empty.size : Int)
  · rw [one_long _ _ la] at h4 ⊢
    have H4 := Lib.hid h4
    clear h4
    have hd : decide ((s.size : Int) > 256) = true := by simpa using la
    clear la
    go_wp2_with fail
    refine (num_is _ _).mono ?_
    rintro e w6 ⟨rfl, rfl⟩
    go_wp2_with fail
    refine (awake27 w4).mono ?_
    rintro e w7 ⟨rfl, h7⟩
    have H7 := Lib.hid (H4.out.later h7)
    clear h7
    go_wp2
    go_ret
    exact ⟨rfl, H7.out.below⟩
  have hle : s.size ≤ 256 := by
    have : (ByteArray.empty.size : Int) = 0 := rfl
    omega
  rw [one_in _ _ (by omega), empty_add] at h4
  rw [one_in _ _ (by omega)]
  have H4 := Lib.hid h4
  clear h4 la
  go_wp2_with fail
  refine (num_is _ _).mono ?_
  rintro e w6 ⟨rfl, rfl⟩
  go_wp2_with fail
  go_loopw [5] (Ended w s.size) (fun i _ => (s.size - (intOf i).toNat))
  case atStart => exact ⟨v4, s, 0, rfl, by omega, hle, H4.out⟩
  case round =>
    obtain ⟨v, x, k, rfl, hk7, _, hH⟩ := hrel
    have HH := Lib.hid hH
    clear hH
    by_cases hk : k < s.size
    case neg =>
      have hd : decide ((k : Int) < (s.size : Int)) = false := by simpa using hk
      have hx0 : Hid ((nextV x).1 = 0) := Lib.hid (by
        have : x = ByteArray.empty := ByteArray.ext (Array.eq_empty_of_size_eq_zero (by show x.size = 0; omega))
        rw [this]
        exact next_empty.1)
      go_wp2_with fail
      refine (awake27 wr).mono ?_
      rintro e w7 ⟨rfl, h7⟩
      have H7 := Lib.hid (HH.out.later h7)
      clear h7
      go_wp2_with fail
      refine (hall_Ready w w7 w.heap.size _ 1 _ 0 H7.out).mono ?_
      rintro e w8 ⟨rfl, h8⟩
      rw [one_box, hx0.out]
      have H8 := Lib.hid (H7.out.drawn h8)
      clear h8
      go_wp2
      go_ret
      exact ⟨rfl, H8.out.below⟩
    have hd : decide ((k : Int) < (s.size : Int)) = true := by simpa using hk
    by_cases hz : (nextV x).1 = 0
    · have hx0 := Lib.hid hz
      clear hz
      go_wp2_with fail
      refine (hall_Ready w wr w.heap.size _ 1 _ 0 HH.out).mono ?_
      rintro e w6 ⟨rfl, h6⟩
      rw [one_box, hx0.out]
      have H6 := Lib.hid (HH.out.drawn h6)
      clear h6
      go_wp2_with fail
      refine (awake27 w6).mono ?_
      rintro e w7 ⟨rfl, h7⟩
      have H7 := Lib.hid (H6.out.later h7)
      clear h7
      go_wp2_with fail
      refine (hall_Ready w w7 w.heap.size _ 1 _ 0 H7.out).mono ?_
      rintro e w8 ⟨rfl, h8⟩
      rw [one_box, hx0.out]
      have H8 := Lib.hid (H7.out.drawn h8)
      clear h8
      go_wp2
      go_ret
      exact ⟨rfl, H8.out.below⟩
    · have hnz : Hid (((nextV x).1 != 0) = true) := Lib.hid (by simpa using hz)
      have hls := next_less x hz
      have HLS := Lib.hid hls
      clear hz
      go_wp2_with fail
      refine (hall_Ready w wr w.heap.size _ 1 _ 0 HH.out).mono ?_
      rintro e w6 ⟨rfl, h6⟩
      rw [one_box, hnz.out]
      have H6 := Lib.hid (HH.out.drawn h6)
      clear h6
      go_wp2_with fail
      refine (hall_Inbox w w6 w.heap.size _ 1 _ 0 H6.out).mono ?_
      rintro e w7 ⟨rfl, h7⟩
      rw [one_box]
      have H7 := Lib.hid (H6.out.drawn h7)
      clear h7
      go_wp2_with fail
      refine (hall_Take w w7 w.heap.size _ 1 _ 0 H7.out).mono ?_
      rintro e w8 ⟨v8, rfl, h8, _⟩
      rw [one_take] at h8 ⊢
      have H8 := Lib.hid h8
      clear h8
      go_wp2_with fail
      refine (hall_Inbox w w8 w.heap.size _ 1 _ 0 H8.out).mono ?_
      rintro e w9 ⟨rfl, h9⟩
      rw [one_box]
      have H9 := Lib.hid (H8.out.drawn h9)
      clear h9
      have hd5 : decide (x.size ≤ (nextV x).2.2.1.size) = false := by simpa using hls
      have hd6 : decide ((nextV x).2.2.1.size ≥ x.size) = false := by simpa using hls
      go_wp2
      go_roundw
      case rel => exact ⟨v8, _, k + 1, by go_num, by have := HLS.out; omega, hle, H9.out⟩
      case measure => simp [intOf]; omega
end Go.Proofs.Ytildlbmhdiknfaa.Man
