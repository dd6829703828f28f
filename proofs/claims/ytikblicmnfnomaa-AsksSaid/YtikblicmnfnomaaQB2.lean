-- written by this session's program mprint.py: functions of the Go program, and their contracts
import Derived.Test.YtikblicmnfnomaaQB0
namespace Go.Proofs.Ytikblicmnfnomaa.QB
open Go.RowKit Go.Proofs.Ytikblicmnfnomaa.Man Go.Proofs.YtikblicmnfnomaaW.PrintWords Go.Proofs.YtikblicmnfnomaaW.PrintLast Go.Proofs.YtikblicmnfnomaaW.PrintMore
attribute [local go_sem] max2_int min2_int max_two min_two max_three min_three max_four min_four   -- for this text's walks alone
set_option linter.unusedVariables false
set_option linter.unusedSimpArgs false

/-! ### tollbarlaw0_Num: function 18 -/
def tollbarlaw0_Num.f (a0 : Int) : Option (Int) := some a0
set_option maxHeartbeats 8000000 in
set_option maxRecDepth 100000 in
theorem tollbarlaw0_Num.calls (a0 : Int) (r : Int) (w : World) (h : tollbarlaw0_Num.f a0 = some r) :
    Calls Try.prog 18 #[.int .i64 a0] w fun e w' => e = .returned (.int .i64 r) ∧ Drawn0 w w' := by
  have H : (some a0) = some r := h
  clear h
  obtain rfl := Option.some.inj H
  go_enter Try.func18, Try.ntmps18
  go_wp2
  go_ret
  exact ⟨by first | rfl | (simp; done) | (simp [*]; done), by repeat (first | exact Drawn0.refl _ | apply Drawn0.step)⟩

-- NOT PRINTED: function 33 (rate_Is)

-- NOT PRINTED: function 43 (bits_Len64)

-- NOT PRINTED: function 34 (word_size)

-- NOT PRINTED: function 45 (abi_NoEscape)

-- NOT PRINTED: function 44 (strings_Builder_copyCheck)

-- NOT PRINTED: function 35 (strings_Builder_WriteByte)

-- NOT PRINTED: function 36 (strings_Builder_String)

-- BY HAND: function 15 (word_Put)

-- NOT PRINTED: function 39 (calendar_Fields)

-- NOT PRINTED: function 40 (calendar_MayAsk)

-- BY HAND: function 29 (ask_May)

-- BY HAND: function 26 (ask_Write)

/-! ### tollbarref1_Rate: function 37 -/
def tollbarref1_Rate.f (a0 : Int) : Option (Bool) := if a0 ≥ 0 then (some (decide (a0 ≤ 4611686018427387904))) else (some false)
set_option maxHeartbeats 8000000 in
set_option maxRecDepth 100000 in
theorem tollbarref1_Rate.calls (a0 : Int) (r : Bool) (w : World) (h : tollbarref1_Rate.f a0 = some r) :
    Calls Try.prog 37 #[.int .i64 a0] w fun e w' => e = .returned (.bool r) ∧ Drawn0 w w' := by
  have H : (if a0 ≥ 0 then (some (decide (a0 ≤ 4611686018427387904))) else (some false)) = some r := h
  clear h
  by_cases c2 : a0 ≥ 0
  · rw [if_pos c2] at H
    have c2b0 : decide (0 ≤ a0) = true := decide_eq_true c2
    clear c2
    obtain rfl := Option.some.inj H
    go_enter Try.func37, Try.ntmps37
    go_wp2
    go_ret
    exact ⟨by first | rfl | (simp; done) | (simp [*]; done), by repeat (first | exact Drawn0.refl _ | apply Drawn0.step)⟩
  · rw [if_neg c2] at H
    have c2b0 : decide (0 ≤ a0) = false := decide_eq_false c2
    clear c2
    obtain rfl := Option.some.inj H
    go_enter Try.func37, Try.ntmps37
    go_wp2
    go_ret
    exact ⟨by first | rfl | (simp; done) | (simp [*]; done), by repeat (first | exact Drawn0.refl _ | apply Drawn0.step)⟩

-- BY HAND: function 16 (tollbarref1_Put)

-- BY HAND: function 41 (tollbarref19_only)

end Go.Proofs.Ytikblicmnfnomaa.QB
