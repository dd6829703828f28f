/- The hall's functions that only read: Count, Has, Inbox, front, Ready. -/
import Derived.Test.YtildlbmhdiknfaaHall
set_option linter.unusedVariables false
namespace Go.Proofs.Ytildlbmhdiknfaa.Man
open Go.RowKit Go.Proofs.YtildlbmhdiknfaaW.PrintWords Go.Proofs.YtildlbmhdiknfaaW.PrintLast Go.Proofs.YtildlbmhdiknfaaW.PrintMore

def nextV (s : ByteArray) : Int × ByteArray × ByteArray × Int := (nextF s 64).getD (0, ⟨#[]⟩, ⟨#[]⟩, 0)
theorem next_some (s : ByteArray) : nextF s 64 = some (nextV s) := by
  unfold nextV nextF
  rw [if_neg (by decide)]
  by_cases h2 : (s.size : Int) < 2
  · rw [if_pos h2]; rfl
  rw [if_neg h2]
  by_cases h3 : nx s = 0 ∨ nx s > 64
  · rw [if_pos h3]; rfl
  rw [if_neg h3]
  by_cases h4 : nx s > (s.size : Int) - 2
  · rw [if_pos h4]; rfl
  rw [if_neg h4]; rfl
def hasF (bs : List ByteArray) (k : Int) : Bool := decide (0 ≤ k) && decide (k < (bs.length : Int))

set_option maxHeartbeats 4000000 in
set_option maxRecDepth 100000 in
theorem hall_Count (w0 w : World) (g : Nat) (v : Value) (m : Int) (bs : List ByteArray) (H : HallIs 72 w0 w g v m bs) :
    Calls Try.prog 24 #[.pointer (some ⟨g, 0, none⟩)] w fun e w' => e = .returned (.int .i64 (bs.length : Int)) ∧ Drawn0 w w' := by
  have c1 := H.c1
  obtain ⟨A, c, rfl⟩ := Kd.R_slice H.own
  clear H
  go_enter Try.func24, Try.ntmps24
  go_wp2
  go_ret
  exact ⟨rfl, by repeat (first | exact Drawn0.refl _ | apply Drawn0.step)⟩

set_option maxHeartbeats 4000000 in
set_option maxRecDepth 100000 in
theorem hall_Has (w0 w : World) (g : Nat) (v : Value) (m : Int) (bs : List ByteArray) (k : Int) (H : HallIs 72 w0 w g v m bs) :
    Calls Try.prog 38 #[.pointer (some ⟨g, 0, none⟩), .int .i64 k] w fun e w' => e = .returned (.bool (hasF bs k)) ∧ Drawn0 w w' := by
  have c1 := H.c1
  obtain ⟨A, c, rfl⟩ := Kd.R_slice H.own
  clear H
  unfold hasF
  cases h0 : decide (0 ≤ k)
  · go_enter Try.func38, Try.ntmps38
    go_wp2
    go_ret
    exact ⟨rfl, by repeat (first | exact Drawn0.refl _ | apply Drawn0.step)⟩
  · go_enter Try.func38, Try.ntmps38
    go_wp2
    go_ret
    exact ⟨rfl, by repeat (first | exact Drawn0.refl _ | apply Drawn0.step)⟩

set_option maxHeartbeats 4000000 in
set_option maxRecDepth 100000 in
theorem hall_Inbox (w0 w : World) (g : Nat) (v : Value) (m : Int) (bs : List ByteArray) (k : Int) (H : HallIs 72 w0 w g v m bs) :
    Calls Try.prog 25 #[.pointer (some ⟨g, 0, none⟩), .int .i64 k] w fun e w' => e = .returned (.string (boxF bs k)) ∧ Drawn0 w w' := by
  have HH := Lib.hid H
  unfold boxF
  by_cases hk : 0 ≤ k ∧ k < (bs.length : Int)
  case neg =>
    rw [if_neg hk]
    have hf : hasF bs k = false := by
      rw [← Bool.not_eq_true, hasF, Bool.and_eq_true, decide_eq_true_eq, decide_eq_true_eq]
      exact hk
    clear H hk
    go_enter Try.func25, Try.ntmps25
    go_wp2_with fail
    refine (hall_Has w0 w g v m bs k HH.out).mono ?_
    rintro e w1 ⟨rfl, nd, rfl⟩
    rw [hf]
    go_wp2
    go_ret
    exact ⟨rfl, nd, rfl⟩
  · rw [if_pos hk]
    have hf : hasF bs k = true := by
      rw [hasF, Bool.and_eq_true, decide_eq_true_eq, decide_eq_true_eq]
      exact hk
    obtain ⟨A, c, rfl, hc, hC⟩ := Kd.R_reads H.own
    obtain ⟨ad, rfl, hcell⟩ := Kd.at_string hC k hk.1 hk.2
    obtain ⟨n, rfl⟩ : ∃ n : Nat, k = (n : Int) := ⟨k.toNat, by omega⟩
    rw [Int.toNat_natCast] at hcell
    have c1 := H.c1
    have h0 : (0 ≤ (n : Int)) = True := eq_true hk.1
    have h1 : n < bs.length := by omega
    generalize rdOf ByteArray.empty bs (n : Int) = x at *
    clear H hC
    go_enter Try.func25, Try.ntmps25
    go_wp2_with fail
    refine (hall_Has w0 w g _ m bs n HH.out).mono ?_
    rintro e w1 ⟨rfl, nd, rfl⟩
    rw [hf]
    go_wp2
    go_ret
    exact ⟨rfl, nd, rfl⟩

set_option maxHeartbeats 4000000 in
set_option maxRecDepth 100000 in
theorem hall_front (w0 w : World) (g : Nat) (v : Value) (m : Int) (bs : List ByteArray) (k : Int) (H : HallIs 72 w0 w g v m bs) :
    Calls Try.prog 39 #[.pointer (some ⟨g, 0, none⟩), .int .i64 k] w fun e w' => e = .returned (.tuple #[.int .i64 (nextV (boxF bs k)).1, .string (nextV (boxF bs k)).2.1, .string (nextV (boxF bs k)).2.2.1]) ∧ Drawn0 w w' := by
  have HH := Lib.hid H
  obtain ⟨x, hx⟩ : ∃ x, boxF bs k = x := ⟨_, rfl⟩
  have HN : Hid (frame_Next.f x 64 = some ((nextV x).1, (nextV x).2.1, (nextV x).2.2.1, (nextV x).2.2.2)) := Lib.hid (next_some x)
  rw [hx]
  clear H
  go_enter Try.func39, Try.ntmps39
  go_wp2_with fail
  refine (hall_Inbox w0 w g v m bs k HH.out).mono ?_
  rintro e w1 ⟨rfl, nd, rfl⟩
  rw [hx]
  go_wp2_with fail
  refine (frame_Next.calls x 64 _ _ _ _ _ HN.out).mono ?_
  rintro e w1 ⟨rfl, nd2, rfl⟩
  go_wp2
  go_ret3
  exact ⟨rfl, nd + nd2, rfl⟩

set_option maxHeartbeats 4000000 in
set_option maxRecDepth 100000 in
theorem hall_Ready (w0 w : World) (g : Nat) (v : Value) (m : Int) (bs : List ByteArray) (k : Int) (H : HallIs 72 w0 w g v m bs) :
    Calls Try.prog 27 #[.pointer (some ⟨g, 0, none⟩), .int .i64 k] w fun e w' => e = .returned (.bool ((nextV (boxF bs k)).1 != 0)) ∧ Drawn0 w w' := by
  have HH := Lib.hid H
  clear H
  obtain ⟨p, hp⟩ : ∃ p, nextV (boxF bs k) = p := ⟨_, rfl⟩
  rw [hp]
  go_enter Try.func27, Try.ntmps27
  go_wp2_with fail
  refine (hall_front w0 w g v m bs k HH.out).mono ?_
  rintro e w1 ⟨rfl, nd, rfl⟩
  rw [hp]
  go_wp2
  go_ret
  exact ⟨rfl, nd, rfl⟩
end Go.Proofs.Ytildlbmhdiknfaa.Man
