/- The law Words: numbers that are lent with marked room behind them are put as the reference puts them, and are as they were: the walk, by the contracts of what it calls. -/
import Derived.Test.YtikblicmnfnomaaLend
import Derived.Test.YtikblicmnfnomaaPure3
set_option linter.unusedVariables false
namespace Go.Proofs.Ytikblicmnfnomaa.Man
open Go.RowKit Go.Proofs.Ytikblicmnfnomaa.QA Go.Proofs.Ytikblicmnfnomaa.Same Go.Proofs.YtikblicmnfnomaaW.PrintWords Go.Proofs.YtikblicmnfnomaaW.PrintLast Go.Proofs.YtikblicmnfnomaaW.PrintMore

/-- The law Words: here its guard on the size; there it is true. -/
def tollbarlaw3_Words.f (l0 : List Int) : Option Bool := if l0.length ≤ 1048576 then some true else none
set_option maxHeartbeats 8000000 in
set_option maxRecDepth 100000 in
theorem tollbarlaw3_Words.calls (A0 : Option Addr) (c0 : Nat) (l0 : List Int) (r : Bool) (w : World) (hr0 : Kd.C (Kd.int .i64) w A0 l0.length l0) (hc0 : l0.length ≤ c0) (h : tollbarlaw3_Words.f l0 = some r) :
    Calls Try.prog 3 #[.slice A0 l0.length c0] w fun e w' => e = .returned (.bool r) ∧ Below w.heap.size w w' := by
  unfold tollbarlaw3_Words.f at h
  by_cases hl : l0.length ≤ 1048576
  case neg => rw [if_neg hl] at h; cases h
  rw [if_pos hl] at h
  cases h
  have HR := Aside0.mk hr0
  have HC0 := Aside0.mk hc0
  have HL := Aside0.mk hl
  obtain ⟨⟨s, x⟩, hp⟩ : ∃ q, word_Put.f l0 = some q := by
    unfold word_Put.f
    rw [WordL.put_is l0 (by omega)]
    split <;> exact ⟨_, rfl⟩
  have HP := Aside0.mk hp
  have HA := Aside0.mk (Pure.awake_at 20 (Nat.le_refl _))
  clear hr0 hc0 hl hp
  go_enter Try.func3, Try.ntmps3
  go_wp2_with fail
  refine (lend_ints A0 c0 l0 w HR.out HC0.out (by have := HL.out; omega)).mono ?_
  rintro e w1 ⟨A, c, rfl, hc, hC, hb⟩
  have HLC := Aside0.mk hC
  have HCC := Aside0.mk hc
  have HB1 := Aside0.mk hb
  clear hC hc hb
  have HT : Aside0 (Kd.C (Kd.int .i64) w1 A l0.length l0) := ⟨by
    refine ⟨rfl, by have := HL.out; omega, fun hn => ?_⟩
    obtain ⟨ad2, e, hcc⟩ := HLC.out.2.2 (by omega)
    refine ⟨ad2, e, fun j p hj => hcc j p ?_⟩
    rw [List.getElem?_append_left (List.getElem?_eq_some_iff.1 hj).1]
    exact hj⟩
  go_wp2_with fail
  refine (word_Put.calls A c l0 s x w1 HT.out (by have := HCC.out; omega) HP.out).mono ?_
  rintro e w2 ⟨rfl, hb⟩
  have HB2 := Aside0.mk hb
  clear hb
  go_wp2_with fail
  refine (tollbarref1_Put.calls A0 c0 l0 s x w2 (Kd.C_below HR.out (below_then HB1.out HB1.out.size HB2.out)) HC0.out HP.out).mono ?_
  rintro e w3 ⟨rfl, hb⟩
  have HB3 := Aside0.mk hb
  clear hb
  go_wp2_with fail
  refine (tollbarlaw3_awake.calls 20 true w3 HA.out).mono ?_
  rintro e w4 ⟨rfl, hb⟩
  have HB4 := Aside0.mk hb
  clear hb
  have HBa : Aside0 (Below w.heap.size w w2) := ⟨below_then HB1.out HB1.out.size HB2.out⟩
  have HBb : Aside0 (Below w.heap.size w w3) := ⟨below_then HBa.out HBa.out.size HB3.out⟩
  have HBc : Aside0 (Below w.heap.size w w4) := ⟨below_then HBb.out HBb.out.size HB4.out⟩
  have HD : Aside0 (Below w1.heap.size w1 w4) := ⟨below_then (below_then HB2.out HB2.out.size HB3.out) (below_then HB2.out HB2.out.size HB3.out).size HB4.out⟩
  go_wp2_with fail
  refine (tollbarlaw0_Num.calls x x w4 rfl).mono ?_
  rintro e w5 ⟨rfl, ⟨m5, rfl⟩⟩
  go_wp2_with fail
  refine (kept_ints A c l0 A0 c0 (w4.drewN m5) HCC.out (Kd.C_drewN (Kd.C_below HLC.out HD.out) m5) (Kd.C_drewN (Kd.C_below HR.out HBc.out) m5) HC0.out (by have := HL.out; omega)).mono ?_
  rintro e w6 ⟨rfl, ⟨m6, rfl⟩⟩
  go_wp2
  go_ret
  exact ⟨rfl, pw_below_drewN HBc.out (m5 + m6)⟩
end Go.Proofs.Ytikblicmnfnomaa.Man
namespace Go.Proofs.Ytikblicmnfnomaa.Pure
open Go.Proofs.Ytikblicmnfnomaa.Same
theorem Words (x0 : List Int) (h0 : (∀ x ∈ x0, (Lit.int .i64 x).wf = true) ∧ x0.length * 8 ≤ 140737488351232) (hb : (x0.map fun _ : Int => 1).sum + 1 ≤ 1048576) : Man.tollbarlaw3_Words.f x0 = some true := by
  rw [bulk_ints] at hb
  unfold Man.tollbarlaw3_Words.f
  rw [if_pos (by omega)]
end Go.Proofs.Ytikblicmnfnomaa.Pure
