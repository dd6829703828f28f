/- frame.Put at this dump: for every row of texts that is read, it returns what the plain function 'frame_Put.go' gives, as long as that has at most 2^47 bytes. -/
import Derived.Test.YtildlbmhdiknfaaBld
import Derived.Test.YtildlbmhdiknfaaWMore
import Derived.Lib.Hide
set_option linter.unusedVariables false
namespace Go.Proofs.Ytildlbmhdiknfaa.Man
open Go.RowKit Go.Proofs.YtildlbmhdiknfaaW.PrintWords Go.Proofs.YtildlbmhdiknfaaW.PrintLast Go.Proofs.YtildlbmhdiknfaaW.PrintMore

/-- The frames of texts behind what is held: none where they pass 2^47 bytes; an error where a text is empty or too long. -/
def frame_Put.go : List UInt8 → List ByteArray → Option (ByteArray × Int)
  | acc, [] => some (⟨acc.toArray⟩, 0)
  | acc, b :: bs => if (b.size : Int) = 0 ∨ (b.size : Int) > 8192 then some (⟨#[]⟩, 2500)
      else if acc.length + 2 + b.size ≤ 140737488355328 then frame_Put.go (acc ++ [(b.size / 256).toUInt8, b.size.toUInt8] ++ b.data.toList) bs else none
def frame_Put.f (l0 : List ByteArray) : Option (ByteArray × Int) := frame_Put.go [] l0

theorem fp_hi (n : Nat) (h : n ≤ 8192) : (n : Int) / 256 = ((n / 256).toUInt8.toNat : Int) := by
  have : (n / 256).toUInt8.toNat = n / 256 := by simp; omega
  omega
theorem fp_lo (n : Nat) : (n : Int) % 256 = (n.toUInt8.toNat : Int) := by
  have : n.toUInt8.toNat = n % 256 := by simp
  omega
theorem fp_step (acc : List UInt8) (l0 : List ByteArray) (k : Nat) (hk : k < l0.length) :
    frame_Put.go acc (l0.drop k) = if ((rdOf ByteArray.empty l0 k).size : Int) = 0 ∨ ((rdOf ByteArray.empty l0 k).size : Int) > 8192 then some (⟨#[]⟩, 2500)
      else if acc.length + 2 + (rdOf ByteArray.empty l0 k).size ≤ 140737488355328 then frame_Put.go (acc ++ [((rdOf ByteArray.empty l0 k).size / 256).toUInt8, (rdOf ByteArray.empty l0 k).size.toUInt8] ++ (rdOf ByteArray.empty l0 k).data.toList) (l0.drop (k + 1)) else none := by
  have e : l0.drop k = l0[k] :: l0.drop (k + 1) := List.drop_eq_getElem_cons hk
  have e2 : rdOf ByteArray.empty l0 k = l0[k] := by simp [rdOf, List.getD_eq_getElem?_getD, hk]
  rw [e, e2]; rfl

set_option maxHeartbeats 4000000 in
set_option maxRecDepth 1000000 in
theorem frame_Put.calls (A0 : Option Addr) (c0 : Nat) (l0 : List ByteArray) (r1 : ByteArray) (r2 : Int) (w : World) (hr0 : Kd.C Kd.string w A0 l0.length l0) (hc0 : l0.length ≤ c0) (h : frame_Put.f l0 = some (r1, r2)) :
    Calls Try.prog 13 #[.slice A0 l0.length c0] w fun e w' => e = .returned (.tuple #[.string r1, .int .i64 r2]) ∧ Below w.heap.size w w' := by
  have hm := Kd.C_max hr0
  have HR := Lib.hid hr0
  have HF := Lib.hid h
  clear hr0 h
  go_enter Try.func13, Try.ntmps13
  go_wp2
  go_loopw [10] (fun i wr => ∃ (k : Nat) (acc : List UInt8), k ≤ l0.length ∧ i = .int .i64 k ∧ Lib.IsBuilder 63 5 w.heap.size w.heap.size (Lib.byteCells acc) wr ∧ Below w.heap.size w wr ∧ acc.length ≤ 140737488355328 ∧ Hid (frame_Put.go acc (l0.drop k) = some (r1, r2))) (fun i _ => l0.length - (intOf i).toNat)
  case atStart => exact ⟨0, [], Nat.zero_le _, rfl, Lib.fresh_isBuilder _ _ w, (Below.refl _ w).alloc (Nat.le_refl _) _, by simp, HF⟩
  case round =>
    obtain ⟨k, acc, hk, rfl, hI, hbw, hal, HG⟩ := hrel
    by_cases hlt : k < l0.length
    · have hC := Kd.C_below HR.out hbw
      obtain ⟨ad, rfl, hcell⟩ := Kd.at_string hC (k : Int) (by omega) (by omega)
      have HS := Lib.hid (fp_step acc l0 k hlt)
      clear hC
      rw [Int.toNat_natCast] at hcell
      generalize hx : rdOf ByteArray.empty l0 (k : Int) = x at *
      have HX := Lib.hid hx
      clear hx
      have hsz := hbw.size
      by_cases h0 : (x.size : Int) = 0
      · have h0b : ((x.size : Int) == 0) = true := by simpa using h0
        clear h0
        go_wp2
        go_ret2
        have := HG.out
        rw [HS.out, if_pos (Or.inl (by simpa using h0b))] at this
        cases this
        exact ⟨rfl, hbw⟩
      · have h0b : ((x.size : Int) == 0) = false := by simpa using h0
        by_cases h1 : (x.size : Int) > 8192
        · have h1b : decide ((x.size : Int) > 8192) = true := by simpa using h1
          clear h0
          go_wp2
          go_ret2
          have := HG.out
          rw [HS.out, if_pos (Or.inr h1)] at this
          cases this
          exact ⟨rfl, hbw⟩
        · by_cases h2 : acc.length + 2 + x.size ≤ 140737488355328
          · have h1b : decide ((x.size : Int) > 8192) = false := by simpa using h1
            have HHI := Lib.hid (fp_hi x.size (by omega))
            have HLO := Lib.hid (fp_lo x.size)
            have HN : Hid (frame_Put.go (acc ++ [(x.size / 256).toUInt8, x.size.toUInt8] ++ x.data.toList) (l0.drop (k + 1)) = some (r1, r2)) := by
              have := HG.out
              rw [HS.out, if_neg (by omega), if_pos h2] at this
              exact Lib.hid this
            clear HG HS h0
            go_wp2_with fail
            refine (Try.bld_byte_in w.heap.size w.heap.size (Lib.byteCells acc) _ _ hI (by rw [Lib.byteCells_length]; omega) hsz).mono ?_
            rintro e w1 ⟨rfl, hI1, hb1⟩
            have hs1 := hb1.size
            go_wp2_with fail
            refine (Try.bld_byte_in w.heap.size w.heap.size _ _ _ (Or.inr hI1) (by rw [List.length_append, Lib.byteCells_length]; simp; omega) (by omega)).mono ?_
            rintro e w2 ⟨rfl, hI2, hb2⟩
            have hs2 := hb2.size
            go_wp2_with fail
            refine (Try.bld_text_in w.heap.size w.heap.size _ x _ (Or.inr hI2) (by rw [List.length_append, List.length_append, Lib.byteCells_length]; simp; omega) (by omega)).mono ?_
            rintro e w3 ⟨rfl, hI3, hb3⟩
            go_wp2
            go_roundw
            case rel =>
              refine ⟨k + 1, _, by omega, by go_num, Or.inr ?_, (hbw.trans hb1).trans (hb2.trans hb3), ?_, HN⟩
              · rw [HHI.out, HLO.out] at hI3
                simpa [Lib.byteCells, Lib.strCells] using hI3
              · rw [List.length_append, List.length_append, data_length]; simp; omega
            case measure => simp [intOf]; omega
          · exfalso
            have := HG.out
            rw [HS.out, if_neg (by omega), if_neg h2] at this
            cases this
    · have hkl : k = l0.length := by omega
      have HG' : Hid (r1 = ⟨acc.toArray⟩ ∧ r2 = 0) := by
        have := HG.out
        rw [hkl, List.drop_length] at this
        cases this
        exact Lib.hid ⟨rfl, rfl⟩
      clear HG hkl
      have hsz := hbw.size
      go_wp2_with fail
      refine (Try.Builder_String_any w.heap.size w.heap.size acc wr hI hsz).mono ?_
      rintro e w1 ⟨rfl, hb1⟩
      go_wp2
      go_ret2
      obtain ⟨rfl, rfl⟩ := HG'.out
      exact ⟨rfl, hbw.trans hb1⟩
end Go.Proofs.Ytildlbmhdiknfaa.Man
