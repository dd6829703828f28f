/- word.size and rate.Is at this dump: how many bytes a number takes; is it a rate. -/
import Derived.Test.YteikgpdjfhdneaaBld
import Derived.Test.YteikgpdjfhdneaaWMore
import Derived.Test.YteikgpdjfhdneaaWordM
import Derived.IntWalk
set_option linter.unusedVariables false
namespace Go.Proofs.Yteikgpdjfhdneaa.Man
open Go.RowKit Go.Proofs.YteikgpdjfhdneaaW.PrintWords Go.Proofs.YteikgpdjfhdneaaW.PrintLast Go.Proofs.YteikgpdjfhdneaaW.PrintMore Go.Proofs.Yteikgpdjfhdneaa.WordM
theorem u64_in (x : Nat) (hx : x < 9223372036854775808) : IntKind.u64.wrap (x : Int) = (x : Int) := IntWalk.u64_in _ (by omega)
set_option maxHeartbeats 2000000 in
set_option maxRecDepth 100000 in
theorem size_at (x : Nat) (w : World) (hx : x < 9223372036854775808) :
    Calls Try.prog 60 #[.int .i64 (x : Int)] w fun e w' => e = .returned (.int .i64 ((szW x : Nat) : Int)) ∧ w = w' := by
  have H := Lib.hid (size_is x hx)
  have HX := Lib.hid hx
  have hw := u64_in x hx
  have h8 : Lib.bitLen x ≤ 64 := Lib.bitLen_le x 64 (by decide) (by omega)
  clear hx
  go_enter Try.func60, Try.ntmps60
  go_wp2_with fail
  refine (Try.bits_Len64 (x : Int) w (by omega) (by have := HX.out; omega)).mono ?_
  rintro e w' ⟨rfl, rfl⟩
  rw [Int.toNat_natCast]
  generalize Lib.bitLen x = b at *
  clear hw
  go_wp2
  go_ret
  refine ⟨?_, rfl⟩
  rw [← H.out]
  congr 2
set_option maxHeartbeats 2000000 in
theorem is_rate (x : Int) (w : World) (h0 : 0 ≤ x) (h1 : x ≤ 4611686018427387904) :
    Calls Try.prog 45 #[.int .i64 x] w fun e w' => e = .returned (.bool true) ∧ w = w' := by
  go_enter Try.func45, Try.ntmps45
  go_wp2
  go_ret
  exact ⟨rfl, rfl⟩
set_option maxHeartbeats 2000000 in
theorem no_rate (x : Int) (w : World) (h : x < 0 ∨ x > 4611686018427387904) :
    Calls Try.prog 45 #[.int .i64 x] w fun e w' => e = .returned (.bool false) ∧ w = w' := by
  rcases h with h | h
  · have hd : decide (0 ≤ x) = false := by simpa using h
    go_enter Try.func45, Try.ntmps45
    go_wp2
    go_ret
    exact ⟨rfl, rfl⟩
  · have hd : decide (x ≤ 4611686018427387904) = false := by simpa using h
    have hd2 : decide (0 ≤ x) = true := by simp; omega
    go_enter Try.func45, Try.ntmps45
    go_wp2
    go_ret
    exact ⟨rfl, rfl⟩
end Go.Proofs.Yteikgpdjfhdneaa.Man
