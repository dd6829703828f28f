/- The law HallPieces: its call returns true. -/
import Derived.Test.YtildlbmhdiknfaaHallA
set_option linter.unusedVariables false
namespace Go.Proofs.Ytildlbmhdiknfaa.Man
open Go.RowKit Go.Proofs.YtildlbmhdiknfaaW.PrintWords Go.Proofs.YtildlbmhdiknfaaW.PrintLast Go.Proofs.YtildlbmhdiknfaaW.PrintMore

theorem and_range (x : Int) (m : Nat) (hm : m < 2 ^ 62) : 0 ≤ Go.bits .and .i64 x (m : Int) ∧ Go.bits .and .i64 x (m : Int) ≤ (m : Int) := by
  have h1 : (BitVec.ofInt 64 x &&& BitVec.ofInt 64 (m : Int)).toNat ≤ m := by
    rw [BitVec.toNat_and, BitVec.ofInt_natCast, BitVec.toNat_ofNat, Nat.mod_eq_of_lt (by omega)]
    exact Nat.and_le_right
  have h2 : Go.bits .and .i64 x (m : Int) = IntKind.i64.wrap ((BitVec.ofInt 64 x &&& BitVec.ofInt 64 (m : Int)).toNat : Int) := rfl
  rw [h2, IntKind.wrap_i64]
  omega

theorem one_open : openF 1 [] = (0, 0, [ByteArray.empty]) := by decide
theorem one_box (x : ByteArray) : boxF [x] 0 = x := by
  unfold boxF
  rw [if_pos (by simp)]
  rfl
theorem one_in (x s : ByteArray) (h : (s.size : Int) ≤ 256 - (x.size : Int)) : inputF [x] 0 s = (0, [x ++ s]) := by
  unfold inputF
  rw [if_pos (by simp)]
  have e : rdOf ByteArray.empty [x] 0 = x := rfl
  rw [e, if_neg (by omega)]
  rfl
theorem one_long (x s : ByteArray) (h : (s.size : Int) > 256 - (x.size : Int)) : inputF [x] 0 s = (2703, [x]) := by
  unfold inputF
  rw [if_pos (by simp)]
  have e : rdOf ByteArray.empty [x] 0 = x := rfl
  rw [e, if_pos h]

/-- Where the pieces stand. -/
def Pieces (w : World) (n : Nat) (a tx i : Value) (w' : World) : Prop := ∃ (v : Value) (x : ByteArray) (k : Nat), a = .int .i64 x.size ∧ i = .int .i64 (k : Int) ∧ tx = .string x ∧ x.size ≤ n ∧ x.size ≤ 256 ∧ HallIs 72 w w' w.heap.size v 1 [x]

set_option maxHeartbeats 8000000 in
set_option maxRecDepth 100000 in
theorem pieces_true (s : ByteArray) (A1 : Option Addr) (c1 : Nat) (cuts : List Int) (w : World) (hs : s.size ≤ 140737488351232) (hr : Kd.C (Kd.int .i64) w A1 cuts.length cuts) (hc : cuts.length ≤ c1) (hl : cuts.length ≤ 1099511627776 * 32) :
    Calls Try.prog 9 #[.string s, .slice A1 cuts.length c1] w fun e w' => e = .returned (.bool true) ∧ Below w.heap.size w w' := by
  have HR := Lib.hid hr
  clear hr
  go_enter Try.func9, Try.ntmps9
  go_wp2_with fail
  refine (hall_New 1 w w (by omega) (Below.refl _ _)).mono ?_
  rintro e w1 ⟨rfl, h1, _⟩
  have H1 := Lib.hid h1
  clear h1
  go_wp2_with fail
  refine (num_is _ _).mono ?_
  rintro e w2 ⟨rfl, rfl⟩
  go_wp2_with fail
  refine (hall_Open w w1 w.heap.size _ 1 [] H1.out).mono ?_
  rintro e w2 ⟨v2, rfl, h2, _⟩
  rw [one_open] at h2 ⊢
  have H2 := Lib.hid h2
  clear h2
  go_wp2_with fail
  go_loopw [9, 10, 11] (Pieces w s.size) (fun _ _ i _ => (cuts.length - (intOf i).toNat))
  case atStart => exact ⟨v2, ⟨#[]⟩, 0, rfl, rfl, rfl, Nat.zero_le _, Nat.zero_le _, H2.out⟩
  case round =>
    obtain ⟨v, x, k, rfl, rfl, rfl, hx1, hx2, hH⟩ := hrel
    by_cases hk : k < cuts.length
    case neg =>
      have hd : decide ((k : Int) < (cuts.length : Int)) = false := by simpa using hk
      go_wp2_with fail
      refine (awake27 wr).mono ?_
      rintro e w4 ⟨rfl, h4⟩
      have H4 := Lib.hid (hH.later h4)
      clear h4 hH
      go_wp2_with fail
      refine (num_is _ _).mono ?_
      rintro e w5 ⟨rfl, rfl⟩
      go_wp2_with fail
      refine (hall_Inbox w w4 w.heap.size _ 1 _ 0 H4.out).mono ?_
      rintro e w6 ⟨rfl, h6⟩
      rw [one_box]
      have H6 := Lib.hid (H4.out.drawn h6)
      clear h6
      go_wp2
      go_ret
      exact ⟨rfl, H6.out.below⟩
    by_cases hxs : x.size < s.size
    case neg =>
      have hd : decide ((k : Int) < (cuts.length : Int)) = true := by simpa using hk
      have hd2 : decide ((x.size : Int) < (s.size : Int)) = false := by simpa using hxs
      go_wp2_with fail
      refine (awake27 wr).mono ?_
      rintro e w4 ⟨rfl, h4⟩
      have H4 := Lib.hid (hH.later h4)
      clear h4 hH
      go_wp2_with fail
      refine (num_is _ _).mono ?_
      rintro e w5 ⟨rfl, rfl⟩
      go_wp2_with fail
      refine (hall_Inbox w w4 w.heap.size _ 1 _ 0 H4.out).mono ?_
      rintro e w6 ⟨rfl, h6⟩
      rw [one_box]
      have H6 := Lib.hid (H4.out.drawn h6)
      clear h6
      go_wp2
      go_ret
      exact ⟨rfl, H6.out.below⟩
    have hd : decide ((k : Int) < (cuts.length : Int)) = true := by simpa using hk
    have hd2 : decide ((x.size : Int) < (s.size : Int)) = true := by simpa using hxs
    obtain ⟨ad, e4, hcell⟩ := Kd.at_int (Kd.C_below HR.out hH.below) (k : Int) (by omega) (by omega)
    subst e4
    rw [Int.toNat_natCast] at hcell
    generalize rd cuts (k : Int) = c at hcell
    obtain ⟨hb0, hb1⟩ : 0 ≤ Go.bits .and .i64 c 63 ∧ Go.bits .and .i64 c 63 ≤ 63 := and_range c 63 (by decide)
    have HH := Lib.hid hH
    clear hH
    obtain ⟨n, hn⟩ := Int.eq_ofNat_of_zero_le hb0
    rw [hn] at hb1
    by_cases hgt : x.size + 1 + n > s.size
    · have hd3 : decide ((x.size : Int) + 1 + (n : Int) > (s.size : Int)) = true := by simp; omega
      go_wp2_with fail
      obtain ⟨y, hy⟩ : ∃ y, s.extract x.size (s.size) = y := ⟨_, rfl⟩
      have hys : y.size = (s.size) - x.size := by rw [← hy, ByteArray.size_extract]; omega
      rw [hy]
      have HY := Lib.hid hy
      have HYS := Lib.hid hys
      clear hy hys
      by_cases hlong : (y.size : Int) > 256 - (x.size : Int)
      · refine (hall_Input w wr w.heap.size v 1 [x] 0 y HH.out).mono ?_
        rintro e w3 ⟨v3, rfl, h3, _⟩
        rw [one_long x y hlong] at h3 ⊢
        have H3 := Lib.hid h3
        clear h3
        have hd4 : decide ((x.size : Int) + (s.size : Int) - (x.size : Int) > 256) = true := by have := HYS.out; simp; omega
        clear hlong
        go_wp2_with fail
        refine (awake27 w3).mono ?_
        rintro e w4 ⟨rfl, h4⟩
        have H4 := Lib.hid (H3.out.later h4)
        clear h4
        go_wp2_with fail
        refine (num_is _ _).mono ?_
        rintro e w5 ⟨rfl, rfl⟩
        go_wp2_with fail
        refine (hall_Inbox w w4 w.heap.size _ 1 _ 0 H4.out).mono ?_
        rintro e w6 ⟨rfl, h6⟩
        rw [one_box]
        have H6 := Lib.hid (H4.out.drawn h6)
        clear h6
        go_wp2
        go_ret
        exact ⟨rfl, H6.out.below⟩
      · refine (hall_Input w wr w.heap.size v 1 [x] 0 y HH.out).mono ?_
        rintro e w3 ⟨v3, rfl, h3, _⟩
        rw [one_in x y (by omega)] at h3 ⊢
        have H3 := Lib.hid h3
        have H5 : Hid ((x ++ y).size ≤ 256 ∧ (x ++ y).size = (s.size)) := Lib.hid (by have := HYS.out; rw [ByteArray.size_append]; omega)
        clear h3
        have hd4 : decide ((x.size : Int) + (s.size : Int) - (x.size : Int) > 256) = false := by have := HYS.out; simp; omega
        clear hlong
        go_wp2_with fail
        refine (num_is _ _).mono ?_
        rintro e w5 ⟨rfl, rfl⟩
        go_wp2
        go_roundw
        case rel =>
          refine ⟨v3, x ++ y, k + 1, ?_, ?_, ?_, ?_, H5.out.1, H3.out⟩
          · first | (rw [H5.out.2]; done) | (rw [H5.out.2]; go_num)
          · go_num
          · rw [HY.out]
          · rw [H5.out.2]; omega
        case measure => simp [intOf]; omega
    · have hd3 : decide ((x.size : Int) + 1 + (n : Int) > (s.size : Int)) = false := by simp; omega
      have q1 : (x.size : Int) ≤ (x.size : Int) + 1 + (n : Int) := by omega
      have q2 : (x.size : Int) + 1 + (n : Int) ≤ (s.size : Int) := by omega
      go_wp2_with fail
      obtain ⟨y, hy⟩ : ∃ y, s.extract x.size (x.size + 1 + n) = y := ⟨_, rfl⟩
      have hys : y.size = (x.size + 1 + n) - x.size := by rw [← hy, ByteArray.size_extract]; omega
      rw [hy]
      have HY := Lib.hid hy
      have HYS := Lib.hid hys
      clear hy hys
      by_cases hlong : (y.size : Int) > 256 - (x.size : Int)
      · refine (hall_Input w wr w.heap.size v 1 [x] 0 y HH.out).mono ?_
        rintro e w3 ⟨v3, rfl, h3, _⟩
        rw [one_long x y hlong] at h3 ⊢
        have H3 := Lib.hid h3
        clear h3
        have hd4 : decide ((x.size : Int) + ((x.size : Int) + 1 + (n : Int)) - (x.size : Int) > 256) = true := by have := HYS.out; simp; omega
        clear hlong
        go_wp2_with fail
        refine (awake27 w3).mono ?_
        rintro e w4 ⟨rfl, h4⟩
        have H4 := Lib.hid (H3.out.later h4)
        clear h4
        go_wp2_with fail
        refine (num_is _ _).mono ?_
        rintro e w5 ⟨rfl, rfl⟩
        go_wp2_with fail
        refine (hall_Inbox w w4 w.heap.size _ 1 _ 0 H4.out).mono ?_
        rintro e w6 ⟨rfl, h6⟩
        rw [one_box]
        have H6 := Lib.hid (H4.out.drawn h6)
        clear h6
        go_wp2
        go_ret
        exact ⟨rfl, H6.out.below⟩
      · refine (hall_Input w wr w.heap.size v 1 [x] 0 y HH.out).mono ?_
        rintro e w3 ⟨v3, rfl, h3, _⟩
        rw [one_in x y (by omega)] at h3 ⊢
        have H3 := Lib.hid h3
        have H5 : Hid ((x ++ y).size ≤ 256 ∧ (x ++ y).size = (x.size + 1 + n)) := Lib.hid (by have := HYS.out; rw [ByteArray.size_append]; omega)
        clear h3
        have hd4 : decide ((x.size : Int) + ((x.size : Int) + 1 + (n : Int)) - (x.size : Int) > 256) = false := by have := HYS.out; simp; omega
        clear hlong
        go_wp2_with fail
        refine (num_is _ _).mono ?_
        rintro e w5 ⟨rfl, rfl⟩
        go_wp2
        go_roundw
        case rel =>
          refine ⟨v3, x ++ y, k + 1, ?_, ?_, ?_, ?_, H5.out.1, H3.out⟩
          · first | (rw [H5.out.2]; done) | (rw [H5.out.2]; go_num)
          · go_num
          · rw [HY.out]
          · rw [H5.out.2]; omega
        case measure => simp [intOf]; omega
end Go.Proofs.Ytildlbmhdiknfaa.Man
