/- Chapter 27's 'awake' returns true. -/
import Derived.Test.YtildlbmhdiknfaaHallT
set_option linter.unusedVariables false
namespace Go.Proofs.Ytildlbmhdiknfaa.Man
open Go.RowKit Go.Proofs.YtildlbmhdiknfaaW.PrintWords Go.Proofs.YtildlbmhdiknfaaW.PrintLast Go.Proofs.YtildlbmhdiknfaaW.PrintMore

theorem HallIs.later {t : Nat} {w0 w w' : World} {g : Nat} {v : Value} {m : Int} {bs : List ByteArray} (h : HallIs t w0 w g v m bs) (hb : Below w.heap.size w w') : HallIs t w0 w' g v m bs :=
  ⟨(hb.block g h.lt).trans h.cells, Kd.R_below h.own hb, h.ge, h.ne, below_then h.below h.below.size hb, h.most, h.len, h.box⟩

def tA : ByteArray := ⟨#[0, 1, 97, 98]⟩
def tB : ByteArray := ⟨#[98]⟩
theorem aw_open1 : openF 1 [] = (0, 0, [ByteArray.empty]) := by decide
theorem aw_open2 : openF 1 [ByteArray.empty] = (0, 2702, [ByteArray.empty]) := by decide
theorem aw_input : inputF [ByteArray.empty] 0 ⟨#[0, 1, 97, 98]⟩ = (0, [tA]) := by decide
theorem aw_ready : (nextV (boxF [tA] 0)).1 = 1 := by decide
theorem aw_take : takeF [tA] 0 = (1, ⟨#[97]⟩, [tB]) := by decide
theorem aw_box : boxF [tB] 0 = ⟨#[98]⟩ := by decide
theorem aw_none : (nextV (boxF [tB] 0)).1 = 0 := by decide
theorem aw_bad : inputF [tB] 1 ⟨#[]⟩ = (2701, [tB]) := by decide

set_option maxHeartbeats 8000000 in
set_option maxRecDepth 100000 in
theorem awake27 (w : World) : Calls Try.prog 22 #[] w fun e w' => e = .returned (.bool true) ∧ Below w.heap.size w w' := by
  go_enter Try.func22, Try.ntmps22
  go_wp2_with fail
  refine (hall_New 1 w w (by omega) (Below.refl _ _)).mono ?_
  rintro e w1 ⟨rfl, h1, _⟩
  have H1 := Lib.hid h1
  clear h1
  go_wp2_with fail
  refine (num_is _ _).mono ?_
  rintro e w2 ⟨rfl, rfl⟩
  go_wp2_with fail
  refine (hall_Open w w1 w.heap.size _ 1 [] H1.out).mono ?_
  rintro e w2 ⟨v2, rfl, h2, _⟩
  rw [aw_open1] at h2 ⊢
  have H2 := Lib.hid h2
  clear h2
  go_wp2_with fail
  refine (hall_Open w w2 w.heap.size _ 1 _ H2.out).mono ?_
  rintro e w3 ⟨v3, rfl, h3, _⟩
  rw [aw_open2] at h3 ⊢
  have H3 := Lib.hid h3
  clear h3
  go_wp2_with fail
  refine (hall_Input w w3 w.heap.size _ 1 _ 0 _ H3.out).mono ?_
  rintro e w4 ⟨v4, rfl, h4, _⟩
  rw [aw_input] at h4 ⊢
  have H4 := Lib.hid h4
  clear h4
  go_wp2_with fail
  refine (hall_Ready w w4 w.heap.size _ 1 _ 0 H4.out).mono ?_
  rintro e w5 ⟨rfl, h5⟩
  rw [aw_ready]
  have H5 := Lib.hid (H4.out.drawn h5)
  clear h5
  go_wp2_with fail
  refine (hall_Take w w5 w.heap.size _ 1 _ 0 H5.out).mono ?_
  rintro e w6 ⟨v6, rfl, h6, _⟩
  rw [aw_take] at h6 ⊢
  have H6 := Lib.hid h6
  clear h6
  go_wp2_with fail
  refine (hall_New_bad 0 w6 (by omega)).mono ?_
  rintro e w7 ⟨rfl, rfl⟩
  go_wp2_with fail
  refine (num_is _ _).mono ?_
  rintro e w7 ⟨rfl, rfl⟩
  go_wp2_with fail
  refine (num_is _ _).mono ?_
  rintro e w7 ⟨rfl, rfl⟩
  go_wp2_with fail
  refine (num_is _ _).mono ?_
  rintro e w7 ⟨rfl, rfl⟩
  go_wp2_with fail
  refine (hall_Inbox w w6 w.heap.size _ 1 _ 0 H6.out).mono ?_
  rintro e w7 ⟨rfl, h7⟩
  rw [aw_box]
  have H7 := Lib.hid (H6.out.drawn h7)
  clear h7
  go_wp2_with fail
  refine (hall_Ready w w7 w.heap.size _ 1 _ 0 H7.out).mono ?_
  rintro e w8 ⟨rfl, h8⟩
  rw [aw_none]
  have H8 := Lib.hid (H7.out.drawn h8)
  clear h8
  go_wp2_with fail
  refine (hall_Count w w8 w.heap.size _ 1 _ H8.out).mono ?_
  rintro e w9 ⟨rfl, h9⟩
  have H9 := Lib.hid (H8.out.drawn h9)
  clear h9
  go_wp2_with fail
  refine (num_is _ _).mono ?_
  rintro e w10 ⟨rfl, rfl⟩
  go_wp2_with fail
  refine (hall_Input w w9 w.heap.size _ 1 _ 1 _ H9.out).mono ?_
  rintro e w11 ⟨v11, rfl, h11, _⟩
  rw [aw_bad] at h11 ⊢
  have H11 := Lib.hid h11
  clear h11
  go_wp2_with fail
  refine (num_is _ _).mono ?_
  rintro e w12 ⟨rfl, rfl⟩
  go_wp2
  go_ret
  exact ⟨rfl, H11.out.below⟩
end Go.Proofs.Ytildlbmhdiknfaa.Man
