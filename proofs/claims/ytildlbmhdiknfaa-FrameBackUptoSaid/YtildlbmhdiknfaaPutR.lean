/- tollbarref22.PutFrames at this dump: it returns what 'frame_Put.go' gives, as long as that has at most 2^47 bytes. -/
import Derived.Test.YtildlbmhdiknfaaPutF
import Derived.Deep.RegionWith
import Derived.IntWalk
set_option linter.unusedVariables false
namespace Go.Proofs.Ytildlbmhdiknfaa.Man
open Go.RowKit Go.Proofs.YtildlbmhdiknfaaW.PrintWords Go.Proofs.YtildlbmhdiknfaaW.PrintLast Go.Proofs.YtildlbmhdiknfaaW.PrintMore

theorem u8_in (a : UInt8) : IntKind.u8.wrap (a.toNat : Int) = (a.toNat : Int) := IntWalk.u8_in _ (by have := a.toNat_lt; omega)
theorem conv_two (P : Program) (src e dst : TypeId) (hs : P.underlying src = some (.slice e)) (he : P.underlying e = some (.int .u8)) (hd : P.underlying dst = some .string) (w : World) (a b : UInt8) (t : TypeId) :
    (convert src dst (.slice (some ⟨w.heap.size, 0, none⟩) 2 2)).run P (w.alloc (.cells #[.int .u8 (a.toNat : Int), .int .u8 (b.toNat : Int)] t)) = .ok (.string ⟨#[a, b]⟩) (w.alloc (.cells #[.int .u8 (a.toNat : Int), .int .u8 (b.toNat : Int)] t)) ∧
    (convert src dst (.slice (some ⟨w.heap.size, 0, none⟩) 2 2)).run P ((w.alloc (.cells #[.int .u8 (a.toNat : Int), .int .u8 (b.toNat : Int)] t)).drew) = .ok (.string ⟨#[a, b]⟩) ((w.alloc (.cells #[.int .u8 (a.toNat : Int), .int .u8 (b.toNat : Int)] t)).drew) := by
  constructor
  · have := run_convert_bytes_arg (P := P) (w.alloc (.cells #[.int .u8 (a.toNat : Int), .int .u8 (b.toNat : Int)] t)) src e hs he w.heap.size 0 2 2 [(a.toNat : Int), (b.toNat : Int)] rfl (fun i hi => by
      match i, hi with
      | 0, _ => simp
      | 1, _ => simp) dst hd
    rw [this]
    simp [strOfNums]
  · have := run_convert_bytes_arg (P := P) ((w.alloc (.cells #[.int .u8 (a.toNat : Int), .int .u8 (b.toNat : Int)] t)).drew) src e hs he w.heap.size 0 2 2 [(a.toNat : Int), (b.toNat : Int)] rfl (fun i hi => by
      match i, hi with
      | 0, _ => simp
      | 1, _ => simp) dst hd
    rw [this]
    simp [strOfNums]
def tollbarref22_PutFrames.f (l0 : List ByteArray) : Option (ByteArray × Int) := frame_Put.go [] l0

set_option maxHeartbeats 4000000 in
set_option maxRecDepth 1000000 in
theorem tollbarref22_PutFrames.calls (A0 : Option Addr) (c0 : Nat) (l0 : List ByteArray) (r1 : ByteArray) (r2 : Int) (w : World) (hr0 : Kd.C Kd.string w A0 l0.length l0) (hc0 : l0.length ≤ c0) (h : tollbarref22_PutFrames.f l0 = some (r1, r2)) :
    Calls Try.prog 14 #[.slice A0 l0.length c0] w fun e w' => e = .returned (.tuple #[.string r1, .int .i64 r2]) ∧ Below w.heap.size w w' := by
  have hm := Kd.C_max hr0
  have HR := Lib.hid hr0
  have HF := Lib.hid h
  clear hr0 h
  go_enter Try.func14, Try.ntmps14
  go_wp2
  go_loopw [4, 5] (fun o i wr => ∃ (k : Nat) (acc : List UInt8), k ≤ l0.length ∧ o = .string ⟨acc.toArray⟩ ∧ i = .int .i64 k ∧ Below w.heap.size w wr ∧ acc.length ≤ 140737488355328 ∧ Hid (frame_Put.go acc (l0.drop k) = some (r1, r2))) (fun _ i _ => l0.length - (intOf i).toNat)
  case atStart => exact ⟨0, [], Nat.zero_le _, rfl, rfl, Below.refl _ w, by simp, HF⟩
  case round =>
    obtain ⟨k, acc, hk, rfl, rfl, hbw, hal, HG⟩ := hrel
    by_cases hlt : k < l0.length
    · have hC := Kd.C_below HR.out hbw
      obtain ⟨ad, rfl, hcell⟩ := Kd.at_string hC (k : Int) (by omega) (by omega)
      have HS := Lib.hid (fp_step acc l0 k hlt)
      clear hC
      rw [Int.toNat_natCast] at hcell
      generalize hx : rdOf ByteArray.empty l0 (k : Int) = x at *
      have HX := Lib.hid hx
      clear hx
      have hsz := hbw.size
      by_cases h0 : (x.size : Int) = 0
      · have h0b : ((x.size : Int) == 0) = true := by simpa using h0
        clear h0
        go_wp2
        go_ret2
        have := HG.out
        rw [HS.out, if_pos (Or.inl (by simpa using h0b))] at this
        cases this
        exact ⟨rfl, hbw⟩
      · have h0b : ((x.size : Int) == 0) = false := by simpa using h0
        by_cases h1 : (x.size : Int) > 8192
        · have h1b : decide ((x.size : Int) > 8192) = true := by simpa using h1
          clear h0
          go_wp2
          go_ret2
          have := HG.out
          rw [HS.out, if_pos (Or.inr h1)] at this
          cases this
          exact ⟨rfl, hbw⟩
        · by_cases h2 : acc.length + 2 + x.size ≤ 140737488355328
          · have h1b : decide ((x.size : Int) > 8192) = false := by simpa using h1
            obtain ⟨a, Ha⟩ : ∃ a : UInt8, a = (x.size / 256).toUInt8 := ⟨_, rfl⟩
            obtain ⟨b, Hb⟩ : ∃ a : UInt8, a = x.size.toUInt8 := ⟨_, rfl⟩
            have HHI := fp_hi x.size (by omega)
            have HLO := fp_lo x.size
            have HN : Hid (frame_Put.go (acc ++ [(x.size / 256).toUInt8, x.size.toUInt8] ++ x.data.toList) (l0.drop (k + 1)) = some (r1, r2)) := by
              have := HG.out
              rw [HS.out, if_neg (by omega), if_pos h2] at this
              exact Lib.hid this
            clear HG HS h0
            rw [← Ha] at HHI HN
            rw [← Hb] at HLO HN
            clear Ha Hb
            have e1 : IntKind.i64.wrap ((x.size : Int) / 256) = (a.toNat : Int) := by rw [← HHI, IntWalk.i64_in _ (by omega)]
            have e2 : (x.size : Int).tmod 256 = (b.toNat : Int) := by rw [← HLO, Int.tmod_eq_emod_of_nonneg (by omega)]
            have e3 : IntKind.u8.wrap (a.toNat : Int) = (a.toNat : Int) := u8_in a
            have e4 : IntKind.u8.wrap (b.toNat : Int) = (b.toNat : Int) := u8_in b
            obtain ⟨kc1, kc2⟩ := conv_two Try.prog 61 5 9 Try.underlying61 Try.underlying5 Try.underlying9 wr a b 5
            have hcell2 : (wr.alloc (.cells #[.int .u8 (a.toNat : Int), .int .u8 (b.toNat : Int)] 5)).cell? (ad.add k) = some (.string x) := ((below_alloc (Below.refl _ wr) _).cell (World.block_lt_of_cell? wr _ hcell)).trans hcell
            have e5 : ¬ 9223372036854775807 < acc.length + 2 := by omega
            have e6 : ¬ 9223372036854775807 < acc.length + 2 + x.size := by omega
            clear HHI HLO
            go_wp2_with fail
            go_region
            go_wp2
            go_roundw
            case rel =>
              refine ⟨k + 1, _, by omega, ?_, by go_num, (((hbw.alloc hsz _)).drew), ?_, HN⟩
              · congr 1
              · rw [List.length_append, List.length_append, data_length]; simp; omega
            case measure => simp [intOf]; omega
          · exfalso
            have := HG.out
            rw [HS.out, if_neg (by omega), if_neg h2] at this
            cases this
    · have hkl : k = l0.length := by omega
      have HG' : Hid (r1 = ⟨acc.toArray⟩ ∧ r2 = 0) := by
        have := HG.out
        rw [hkl, List.drop_length] at this
        cases this
        exact Lib.hid ⟨rfl, rfl⟩
      clear HG hkl
      go_wp2
      go_ret2
      obtain ⟨rfl, rfl⟩ := HG'.out
      exact ⟨rfl, hbw⟩
end Go.Proofs.Ytildlbmhdiknfaa.Man
