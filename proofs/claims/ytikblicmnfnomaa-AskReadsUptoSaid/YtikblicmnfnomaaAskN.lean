/- ask.May and tollbarref19.RequestMay at this dump, with one plain function. -/
import Derived.Test.YtikblicmnfnomaaAskM
import Derived.Test.YtikblicmnfnomaaWordR
set_option linter.unusedVariables false
namespace Go.Proofs.Ytikblicmnfnomaa.Man
open Go.RowKit Go.Proofs.YtikblicmnfnomaaW.PrintWords Go.Proofs.YtikblicmnfnomaaW.PrintLast Go.Proofs.YtikblicmnfnomaaW.PrintMore

def mayQ (a b k i s d r : Int) : Bool := if offsK k = [] then false else mayK k (offsK k) (qcells a b k i s d r)

theorem offs_nil {k : Int} (h : offsK k = []) : k ≠ 1 ∧ k ≠ 2 ∧ k ≠ 3 ∧ k ≠ 4 ∧ k ≠ 5 ∧ k ≠ 6 := by
  refine ⟨?_, ?_, ?_, ?_, ?_, ?_⟩ <;> (rintro rfl; revert h; decide)

set_option maxHeartbeats 4000000 in
set_option maxRecDepth 100000 in
theorem mayAsk_none (a b k i s d r : Int) (w : World) (hnil : offsK k = []) :
    Calls Try.prog 40 #[.agg #[.int .i64 a, .int .i64 b, .int .i64 k, .int .i64 i, .int .i64 s, .int .i64 d, .int .i64 r]] w fun e w' => e = .returned (.bool false) ∧ Below w.heap.size w w' := by
  obtain ⟨h1, h2, h3, h4, h5, h6⟩ := offs_nil hnil
  have H1 := beq_eq_false_iff_ne.2 h1
  have H2 := beq_eq_false_iff_ne.2 h2
  have H3 := beq_eq_false_iff_ne.2 h3
  have H4 := beq_eq_false_iff_ne.2 h4
  have H5 := beq_eq_false_iff_ne.2 h5
  have H6 := beq_eq_false_iff_ne.2 h6
  clear h1 h2 h3 h4 h5 h6 hnil
  go_enter Try.func40, Try.ntmps40
  go_wp2_with fail
  refine (fields_none _ k _ (by simp) H1 H2 H3 H4 H5 H6).mono ?_
  rintro e w1 (⟨_, rfl, rfl⟩ | ⟨h, _⟩)
  case inr => exact absurd rfl h
  go_wp2_with fail
  refine (fields_none _ k _ (by simp) H1 H2 H3 H4 H5 H6).mono ?_
  rintro e w1 (⟨_, rfl, rfl⟩ | ⟨h, _⟩)
  case inr => exact absurd rfl h
  go_wp2
  go_loopw [13] (fun x wr => x = .int .i64 0 ∧ Below w.heap.size w wr) (fun x _ => 0)
  case atStart => exact ⟨rfl, ((Below.refl w.heap.size w).alloc (Nat.le_refl _) _).alloc (by simp) _⟩
  case round =>
    obtain ⟨rfl, hb⟩ := hrel
    go_wp2
    go_ret
    exact ⟨rfl, hb⟩

theorem mayAsk_at (a b k i s d r : Int) (w : World) :
    Calls Try.prog 40 #[.agg #[.int .i64 a, .int .i64 b, .int .i64 k, .int .i64 i, .int .i64 s, .int .i64 d, .int .i64 r]] w fun e w' => e = .returned (.bool (mayQ a b k i s d r)) ∧ Below w.heap.size w w' := by
  unfold mayQ
  by_cases h : offsK k = []
  · rw [if_pos h]
    exact mayAsk_none a b k i s d r w h
  · rw [if_neg h]
    exact mayAsk_loop a b k i s d r w h

def ask_May.f (a b k i s d r : Int) : Option Bool := some (mayQ a b k i s d r)
set_option maxHeartbeats 4000000 in
set_option maxRecDepth 100000 in
theorem ask_May.calls (a0_0 a0_1 a0_2 a0_3 a0_4 a0_5 a0_6 : Int) (r1 : Bool) (w : World) (h : ask_May.f a0_0 a0_1 a0_2 a0_3 a0_4 a0_5 a0_6 = some r1) :
    Calls Try.prog 29 #[.agg #[.int .i64 a0_0, .int .i64 a0_1, .int .i64 a0_2, .int .i64 a0_3, .int .i64 a0_4, .int .i64 a0_5, .int .i64 a0_6]] w fun e w' => e = .returned (.bool r1) ∧ Below w.heap.size w w' := by
  cases h
  go_enter Try.func29, Try.ntmps29
  go_wp2_with fail
  refine (mayAsk_at _ _ _ _ _ _ _ _).mono ?_
  rintro e w1 ⟨rfl, hb⟩
  go_wp2
  go_ret
  exact ⟨rfl, ((Below.refl w.heap.size w).alloc (Nat.le_refl _) _).trans (hb.mono (by simp))⟩
end Go.Proofs.Ytikblicmnfnomaa.Man
