/- tollbarref1.Put at this dump: it returns what 'word_Put.go' gives, as long as that has at most 2^47 bytes. -/
import Derived.Test.YteikgpdjfhdneaaWordP
set_option linter.unusedVariables false
namespace Go.Proofs.Yteikgpdjfhdneaa.Man
open Go.RowKit Go.Proofs.YteikgpdjfhdneaaW.PrintWords Go.Proofs.YteikgpdjfhdneaaW.PrintLast Go.Proofs.YteikgpdjfhdneaaW.PrintMore Go.Proofs.Yteikgpdjfhdneaa.WordM
def tollbarref1_Put.f (l0 : List Int) : Option (ByteArray × Int) := word_Put.go [] l0
theorem conv_one (P : Program) (src e dst : TypeId) (hs : P.underlying src = some (.slice e)) (he : P.underlying e = some (.int .u8)) (hd : P.underlying dst = some .string) (w : World) (n : Nat) (hn : n < 256) (t : TypeId) :
    (convert src dst (.slice (some ⟨w.heap.size, 0, none⟩) 1 1)).run P (w.alloc (.cells #[.int .u8 (n : Int)] t)) = .ok (.string ⟨#[n.toUInt8]⟩) (w.alloc (.cells #[.int .u8 (n : Int)] t)) := by
  have := run_convert_bytes_arg (P := P) (w.alloc (.cells #[.int .u8 (n : Int)] t)) src e hs he w.heap.size 0 1 1 [(n : Int)] rfl (fun i hi => by
    match i, hi with
    | 0, _ => simp) dst hd
  rw [this]
  simp [strOfNums]
set_option maxHeartbeats 2000000 in
theorem ref_rate (x : Int) (w : World) (h0 : 0 ≤ x) (h1 : x ≤ 4611686018427387904) :
    Calls Try.prog 51 #[.int .i64 x] w fun e w' => e = .returned (.bool true) ∧ w = w' := by
  go_enter Try.func51, Try.ntmps51
  go_wp2
  go_ret
  exact ⟨rfl, rfl⟩
set_option maxHeartbeats 2000000 in
theorem ref_no_rate (x : Int) (w : World) (h : x < 0 ∨ x > 4611686018427387904) :
    Calls Try.prog 51 #[.int .i64 x] w fun e w' => e = .returned (.bool false) ∧ w = w' := by
  rcases h with h | h
  · have hd : decide (0 ≤ x) = false := by simpa using h
    go_enter Try.func51, Try.ntmps51
    go_wp2
    go_ret
    exact ⟨rfl, rfl⟩
  · have hd : decide (x ≤ 4611686018427387904) = false := by simpa using h
    have hd2 : decide (0 ≤ x) = true := by simp; omega
    go_enter Try.func51, Try.ntmps51
    go_wp2
    go_ret
    exact ⟨rfl, rfl⟩
set_option maxHeartbeats 4000000 in
set_option maxRecDepth 1000000 in
theorem tollbarref1_Put.calls (A0 : Option Addr) (c0 : Nat) (l0 : List Int) (r1 : ByteArray) (r2 : Int) (w : World) (hr0 : Kd.C (Kd.int .i64) w A0 l0.length l0) (hc0 : l0.length ≤ c0) (h : tollbarref1_Put.f l0 = some (r1, r2)) :
    Calls Try.prog 35 #[.slice A0 l0.length c0] w fun e w' => e = .returned (.tuple #[.string r1, .int .i64 r2]) ∧ Below w.heap.size w w' := by
  have hm := Kd.C_max hr0
  have HR := Lib.hid hr0
  have HF := Lib.hid h
  clear hr0 h
  go_enter Try.func35, Try.ntmps35
  go_wp2
  go_loopw [4, 5] (fun o i wr => ∃ (k : Nat) (acc : List UInt8), k ≤ l0.length ∧ o = .string ⟨acc.toArray⟩ ∧ i = .int .i64 k ∧ Below w.heap.size w wr ∧ acc.length ≤ 140737488355328 ∧ Hid (word_Put.go acc (l0.drop k) = some (r1, r2))) (fun _ i _ => l0.length - (intOf i).toNat)
  case atStart => exact ⟨0, [], Nat.zero_le _, rfl, rfl, Below.refl _ w, by simp, HF⟩
  case round =>
    obtain ⟨k, acc, hk, rfl, rfl, hbw, hal, HG⟩ := hrel
    by_cases hlt : k < l0.length
    · have hC := Kd.C_below HR.out hbw
      obtain ⟨ad, rfl, hcell⟩ := Kd.at_int hC (k : Int) (by omega) (by omega)
      have HS := Lib.hid (wp_step acc l0 k hlt)
      clear hC
      rw [Int.toNat_natCast] at hcell
      generalize hx : rd l0 (k : Int) = x at *
      have HX := Lib.hid hx
      clear hx
      have hsz := hbw.size
      by_cases h0 : x < 0 ∨ x > 4611686018427387904
      · have HG' := HG.out
        rw [HS.out, if_pos h0] at HG'
        cases HG'
        have H0 := Lib.hid h0
        clear h0
        go_wp2_with fail
        refine (ref_no_rate x _ H0.out).mono ?_
        rintro e w' ⟨rfl, rfl⟩
        go_wp2
        go_ret2
        exact ⟨rfl, hbw⟩
      · by_cases h2 : acc.length + 9 ≤ 140737488355328
        · have HN : Hid (word_Put.go (acc ++ encW x.toNat) (l0.drop (k + 1)) = some (r1, r2)) := by
            have := HG.out
            rw [HS.out, if_neg h0, if_pos h2] at this
            exact Lib.hid this
          obtain ⟨y, rfl⟩ := Int.eq_ofNat_of_zero_le (show 0 ≤ x by omega)
          rw [Int.toNat_natCast] at HN
          have HY : Hid (y ≤ 4611686018427387904) := Lib.hid (by omega)
          clear HG HS h0
          go_wp2_with fail
          refine (ref_rate (y : Int) _ (by omega) (by have := HY.out; omega)).mono ?_
          rintro e w' ⟨rfl, rfl⟩
          go_wp2
          go_loopw [6, 7] (fun o z w2 => ∃ (q : Nat) (l : List UInt8), o = .string ⟨l.toArray⟩ ∧ z = .int .i64 (q : Int) ∧ Hid (q ≤ y) ∧ Hid (bytesW y = bytesW q ++ l) ∧ Below w.heap.size w w2) (fun _ z _ => (intOf z).toNat)
          case atStart => exact ⟨y, [], rfl, rfl, Lib.hid (Nat.le_refl _), Lib.hid (by simp), hbw⟩
          case round =>
            obtain ⟨q, l, rfl, rfl, HQ, HL, hbw2⟩ := hrel
            have hs2 := hbw2.size
            have hll : l.length ≤ 8 := by
              have h1 := congrArg List.length HL.out
              rw [List.length_append, bytesW_length, bytesW_length] at h1
              have := szW_le y
              omega
            rcases Nat.eq_zero_or_pos q with hq0 | hq0
            · subst hq0
              have e5 : ¬ 9223372036854775807 < acc.length + 1 := by omega
              have e6 : ¬ 9223372036854775807 < acc.length + 1 + l.length := by omega
              have kc := conv_one Try.prog 96 5 9 Try.underlying96 Try.underlying5 Try.underlying9 wr l.length (by omega) 5
              go_wp2
              go_roundw
              case rel =>
                have hl : l = bytesW y := by have := HL.out; rw [bytesW_zero] at this; exact this.symm
                refine ⟨k + 1, acc ++ encW y, by omega, ?_, by go_num, hbw2.alloc hs2 _, ?_, HN⟩
                · rw [hl]
                  congr 1
                  apply ByteArray.ext
                  apply Array.toList_inj.1
                  simp [encW, bytesW_length]
                · rw [List.length_append, encW_length]
                  have := szW_le y
                  omega
              case measure => simp [intOf]; omega
            · have e5 : ¬ 9223372036854775807 < 1 + l.length := by omega
              have hq62 : (q : Int) ≤ 4611686018427387904 := by have := HQ.out; have := HY.out; omega
              have kc := conv_one Try.prog 96 5 9 Try.underlying96 Try.underlying5 Try.underlying9 wr (q % 256) (by omega) 5
              have e7 : ((q % 256 : Nat) : Int) = (q : Int) % 256 := by omega
              rw [e7] at kc
              clear e7
              go_wp2
              go_roundw
              case rel =>
                have hq : q ≠ 0 := by omega
                refine ⟨q / 256, (q % 256).toUInt8 :: l, ?_, by go_num, Lib.hid (by have := HQ.out; omega), Lib.hid ?_, hbw2.alloc hs2 _⟩
                · congr 1
                · rw [HL.out, bytesW_div q (by have := HQ.out; have := HY.out; omega) hq]
                  simp
              case measure => simp [intOf]; omega
        · exfalso
          have := HG.out
          rw [HS.out, if_neg h0, if_neg h2] at this
          cases this
    · have hkl : k = l0.length := by omega
      have HG' : Hid (r1 = ⟨acc.toArray⟩ ∧ r2 = 0) := by
        have := HG.out
        rw [hkl, List.drop_length] at this
        cases this
        exact Lib.hid ⟨rfl, rfl⟩
      clear HG hkl
      have hsz := hbw.size
      go_wp2
      go_ret2
      obtain ⟨rfl, rfl⟩ := HG'.out
      exact ⟨rfl, hbw⟩
end Go.Proofs.Yteikgpdjfhdneaa.Man
