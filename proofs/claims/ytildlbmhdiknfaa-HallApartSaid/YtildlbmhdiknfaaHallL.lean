/- The contracts of the laws of chapter 27, in the printed form, and their plain laws. -/
import Derived.Test.YtildlbmhdiknfaaHallS
set_option linter.unusedVariables false
namespace Go.Proofs.Ytildlbmhdiknfaa.Man
open Go.RowKit Go.Proofs.YtildlbmhdiknfaaW.PrintWords Go.Proofs.YtildlbmhdiknfaaW.PrintLast Go.Proofs.YtildlbmhdiknfaaW.PrintMore

def tollbarlaw27_Halls.f (a0 : Int) (l1 l2 : List Int) (l3 : List ByteArray) : Option Bool := if l1.length ≤ 35184372088832 then some true else none
theorem tollbarlaw27_Halls.calls (a0 : Int) (A1 : Option Addr) (c1 : Nat) (l1 : List Int) (A2 : Option Addr) (c2 : Nat) (l2 : List Int) (A3 : Option Addr) (c3 : Nat) (l3 : List ByteArray) (r1 : Bool) (w : World) (hr1 : Kd.C (Kd.int .i64) w A1 l1.length l1) (hc1 : l1.length ≤ c1) (hr2 : Kd.C (Kd.int .i64) w A2 l2.length l2) (hc2 : l2.length ≤ c2) (hr3 : Kd.C Kd.string w A3 l3.length l3) (hc3 : l3.length ≤ c3) (h : tollbarlaw27_Halls.f a0 l1 l2 l3 = some r1) :
    Calls Try.prog 8 #[.int .i64 a0, .slice A1 l1.length c1, .slice A2 l2.length c2, .slice A3 l3.length c3] w fun e w' => e = .returned (.bool r1) ∧ Below w.heap.size w w' := by
  unfold tollbarlaw27_Halls.f at h
  by_cases hl : l1.length ≤ 35184372088832
  case neg => rw [if_neg hl] at h; cases h
  rw [if_pos hl] at h
  cases h
  by_cases hm : 1 ≤ a0 ∧ a0 ≤ 4
  · exact halls_true a0 A1 A2 A3 c1 c2 c3 l1 l2 l3 w hm hr1 hc1 hr2 hc2 hr3 hc3 (by omega)
  · exact halls_bad a0 A1 A2 A3 _ _ _ c1 c2 c3 w (by omega)

def tollbarlaw27_HallPieces.f (a0 : ByteArray) (l1 : List Int) : Option Bool := if a0.size ≤ 140737488351232 ∧ l1.length ≤ 35184372088832 then some true else none
theorem tollbarlaw27_HallPieces.calls (a0 : ByteArray) (A1 : Option Addr) (c1 : Nat) (l1 : List Int) (r1 : Bool) (w : World) (hr1 : Kd.C (Kd.int .i64) w A1 l1.length l1) (hc1 : l1.length ≤ c1) (h : tollbarlaw27_HallPieces.f a0 l1 = some r1) :
    Calls Try.prog 9 #[.string a0, .slice A1 l1.length c1] w fun e w' => e = .returned (.bool r1) ∧ Below w.heap.size w w' := by
  unfold tollbarlaw27_HallPieces.f at h
  by_cases hl : a0.size ≤ 140737488351232 ∧ l1.length ≤ 35184372088832
  case neg => rw [if_neg hl] at h; cases h
  rw [if_pos hl] at h
  cases h
  exact pieces_true a0 A1 c1 l1 w hl.1 hr1 hc1 (by omega)

def tollbarlaw27_HallApart.f (a0 a1 : ByteArray) (a2 : Int) : Option Bool := if a0.size ≤ 140737488351232 ∧ a1.size ≤ 140737488351232 then some true else none
theorem tollbarlaw27_HallApart.calls (a0 a1 : ByteArray) (a2 : Int) (r1 : Bool) (w : World) (h : tollbarlaw27_HallApart.f a0 a1 a2 = some r1) :
    Calls Try.prog 10 #[.string a0, .string a1, .int .i64 a2] w fun e w' => e = .returned (.bool r1) ∧ Below w.heap.size w w' := by
  unfold tollbarlaw27_HallApart.f at h
  by_cases hl : a0.size ≤ 140737488351232 ∧ a1.size ≤ 140737488351232
  case neg => rw [if_neg hl] at h; cases h
  rw [if_pos hl] at h
  cases h
  exact apart_true a0 a1 a2 w hl.1 hl.2

def tollbarlaw27_HallEnds.f (a0 : ByteArray) : Option Bool := if a0.size ≤ 140737488351232 then some true else none
theorem tollbarlaw27_HallEnds.calls (a0 : ByteArray) (r1 : Bool) (w : World) (h : tollbarlaw27_HallEnds.f a0 = some r1) :
    Calls Try.prog 11 #[.string a0] w fun e w' => e = .returned (.bool r1) ∧ Below w.heap.size w w' := by
  unfold tollbarlaw27_HallEnds.f at h
  by_cases hl : a0.size ≤ 140737488351232
  case neg => rw [if_neg hl] at h; cases h
  rw [if_pos hl] at h
  cases h
  exact ends_true a0 w hl
end Go.Proofs.Ytildlbmhdiknfaa.Man
namespace Go.Proofs.Ytildlbmhdiknfaa.Pure
open Go.RowKit Go.Proofs.Ytildlbmhdiknfaa.Man
theorem Halls (x0 : Int) (h0 : (Lit.int .i64 x0).wf = true) (x1 : List Int) (h1 : (∀ x ∈ x1, (Lit.int .i64 x).wf = true) ∧ x1.length * 8 ≤ 140737488351232) (x2 : List Int) (h2 : (∀ x ∈ x2, (Lit.int .i64 x).wf = true) ∧ x2.length * 8 ≤ 140737488351232) (x3 : List ByteArray) (h3 : (∀ x ∈ x3, x.size ≤ 140737488351232) ∧ x3.length * 16 ≤ 140737488351232) : tollbarlaw27_Halls.f x0 x1 x2 x3 = some true := if_pos (by omega)
theorem HallPieces (x0 : ByteArray) (h0 : x0.size ≤ 140737488351232) (x1 : List Int) (h1 : (∀ x ∈ x1, (Lit.int .i64 x).wf = true) ∧ x1.length * 8 ≤ 140737488351232) : tollbarlaw27_HallPieces.f x0 x1 = some true := if_pos ⟨h0, by omega⟩
theorem HallApart (x0 : ByteArray) (h0 : x0.size ≤ 140737488351232) (x1 : ByteArray) (h1 : x1.size ≤ 140737488351232) (x2 : Int) (h2 : (Lit.int .i64 x2).wf = true) : tollbarlaw27_HallApart.f x0 x1 x2 = some true := if_pos ⟨h0, h1⟩
theorem HallEnds (x0 : ByteArray) (h0 : x0.size ≤ 140737488351232) : tollbarlaw27_HallEnds.f x0 = some true := if_pos h0
end Go.Proofs.Ytildlbmhdiknfaa.Pure
