/- word.Put at this dump: for every row of numbers that is read, it returns what the plain function 'word_Put.go' gives, as long as that has at most 2^47 bytes. -/
import Derived.Test.YteikgpdjfhdneaaWordC
set_option linter.unusedVariables false
namespace Go.Proofs.Yteikgpdjfhdneaa.Man
open Go.RowKit Go.Proofs.YteikgpdjfhdneaaW.PrintWords Go.Proofs.YteikgpdjfhdneaaW.PrintLast Go.Proofs.YteikgpdjfhdneaaW.PrintMore Go.Proofs.Yteikgpdjfhdneaa.WordM
def word_Put.go : List UInt8 → List Int → Option (ByteArray × Int)
  | acc, [] => some (⟨acc.toArray⟩, 0)
  | acc, x :: xs => if x < 0 ∨ x > 4611686018427387904 then some (⟨#[]⟩, 300)
      else if acc.length + 9 ≤ 140737488355328 then word_Put.go (acc ++ encW x.toNat) xs else none
def word_Put.f (l0 : List Int) : Option (ByteArray × Int) := word_Put.go [] l0
theorem wp_step (acc : List UInt8) (l0 : List Int) (k : Nat) (hk : k < l0.length) :
    word_Put.go acc (l0.drop k) = if rd l0 k < 0 ∨ rd l0 k > 4611686018427387904 then some (⟨#[]⟩, 300)
      else if acc.length + 9 ≤ 140737488355328 then word_Put.go (acc ++ encW (rd l0 k).toNat) (l0.drop (k + 1)) else none := by
  have e : l0.drop k = l0[k] :: l0.drop (k + 1) := List.drop_eq_getElem_cons hk
  have e2 : rd l0 k = l0[k] := by simp [rd, List.getD_eq_getElem?_getD, hk]
  rw [e, e2]; rfl
theorem wp_byte (acc : List UInt8) (n q y : Nat) (h : q + 1 ≤ n) : Lib.byteCells acc ++ [Value.int .u8 (n : Int)] ++ Lib.byteCells (bytesN (n - (q + 1)) (y / 256 ^ (q + 1))) ++ [Value.int .u8 ((y : Int) / 2 ^ (8 * q) % 256)] =
    Lib.byteCells acc ++ [Value.int .u8 (n : Int)] ++ Lib.byteCells (bytesN (n - q) (y / 256 ^ q)) := by
  have e : n - q = n - (q + 1) + 1 := by omega
  have e2 : y / 256 ^ q / 256 = y / 256 ^ (q + 1) := by rw [Nat.div_div_eq_div_mul, Nat.pow_succ]
  have e3 : (y : Int) / 2 ^ (8 * q) % 256 = (((y / 256 ^ q) % 256).toUInt8.toNat : Int) := by
    have h1 : ((y / 256 ^ q) % 256).toUInt8.toNat = (y / 256 ^ q) % 256 := by simp
    have h2 : (2 : Nat) ^ (8 * q) = 256 ^ q := by rw [Nat.pow_mul]
    rw [h1, ← h2]
    simp
  rw [e, bytesN, e2, e3]
  simp [Lib.byteCells]
set_option maxHeartbeats 4000000 in
set_option maxRecDepth 1000000 in
theorem word_Put.calls (A0 : Option Addr) (c0 : Nat) (l0 : List Int) (r1 : ByteArray) (r2 : Int) (w : World) (hr0 : Kd.C (Kd.int .i64) w A0 l0.length l0) (hc0 : l0.length ≤ c0) (h : word_Put.f l0 = some (r1, r2)) :
    Calls Try.prog 34 #[.slice A0 l0.length c0] w fun e w' => e = .returned (.tuple #[.string r1, .int .i64 r2]) ∧ Below w.heap.size w w' := by
  have hm := Kd.C_max hr0
  have HR := Lib.hid hr0
  have HF := Lib.hid h
  clear hr0 h
  go_enter Try.func34, Try.ntmps34
  go_wp2
  go_loopw [11] (fun i wr => ∃ (k : Nat) (acc : List UInt8), k ≤ l0.length ∧ i = .int .i64 k ∧ Lib.IsBuilder 98 5 w.heap.size w.heap.size (Lib.byteCells acc) wr ∧ Below w.heap.size w wr ∧ acc.length ≤ 140737488355328 ∧ Hid (word_Put.go acc (l0.drop k) = some (r1, r2))) (fun i _ => l0.length - (intOf i).toNat)
  case atStart => exact ⟨0, [], Nat.zero_le _, rfl, Lib.fresh_isBuilder _ _ w, (Below.refl _ w).alloc (Nat.le_refl _) _, by simp, HF⟩
  case round =>
    obtain ⟨k, acc, hk, rfl, hI, hbw, hal, HG⟩ := hrel
    by_cases hlt : k < l0.length
    · have hC := Kd.C_below HR.out hbw
      obtain ⟨ad, rfl, hcell⟩ := Kd.at_int hC (k : Int) (by omega) (by omega)
      have HS := Lib.hid (wp_step acc l0 k hlt)
      clear hC
      rw [Int.toNat_natCast] at hcell
      generalize hx : rd l0 (k : Int) = x at *
      have HX := Lib.hid hx
      clear hx
      have hsz := hbw.size
      by_cases h0 : x < 0 ∨ x > 4611686018427387904
      · have HG' := HG.out
        rw [HS.out, if_pos h0] at HG'
        cases HG'
        have H0 := Lib.hid h0
        clear h0
        go_wp2_with fail
        refine (no_rate x _ H0.out).mono ?_
        rintro e w' ⟨rfl, rfl⟩
        go_wp2
        go_ret2
        exact ⟨rfl, hbw⟩
      · by_cases h2 : acc.length + 9 ≤ 140737488355328
        · have HN : Hid (word_Put.go (acc ++ encW x.toNat) (l0.drop (k + 1)) = some (r1, r2)) := by
            have := HG.out
            rw [HS.out, if_neg h0, if_pos h2] at this
            exact Lib.hid this
          obtain ⟨y, rfl⟩ := Int.eq_ofNat_of_zero_le (show 0 ≤ x by omega)
          rw [Int.toNat_natCast] at HN
          have HY : Hid (y ≤ 4611686018427387904) := Lib.hid (by omega)
          clear HG HS h0
          have hn8 := szW_le y
          obtain ⟨n, hn⟩ : ∃ n, n = szW y := ⟨_, rfl⟩
          have HSZ := Lib.hid hn
          go_wp2_with fail
          refine (is_rate (y : Int) _ (by omega) (by have := HY.out; omega)).mono ?_
          rintro e w' ⟨rfl, rfl⟩
          go_wp2_with fail
          refine (size_at y _ (by have := HY.out; omega)).mono ?_
          rintro e w' ⟨rfl, rfl⟩
          rw [← hn] at hn8 ⊢
          clear hn
          go_wp2_with fail
          refine (Try.bld_byte_in w.heap.size w.heap.size (Lib.byteCells acc) _ _ hI (by rw [Lib.byteCells_length]; omega) hsz).mono ?_
          rintro e w1 ⟨rfl, hI1, hb1⟩
          have hs1 := hb1.size
          go_wp2
          have hbw1 := hbw.trans hb1
          clear hI hb1 hcell
          go_loopw [8] (fun i w2 => ∃ m : Nat, m ≤ n ∧ i = .int .i64 ((m : Int) - 1) ∧ Lib.IsBuilder 98 5 w.heap.size w.heap.size (Lib.byteCells acc ++ [.int .u8 (n : Int)] ++ Lib.byteCells (bytesN (n - m) (y / 256 ^ m))) w2 ∧ Below w.heap.size w w2) (fun i _ => (intOf i + 1).toNat)
          case atStart => exact ⟨n, Nat.le_refl _, rfl, by rw [Nat.sub_self]; simp only [bytesN, Lib.byteCells, List.map_nil, List.append_nil]; exact Or.inr hI1, hbw1⟩
          case round =>
            obtain ⟨m, hm2, rfl, hI2, hbw2⟩ := hrel
            have hs2 := hbw2.size
            rcases Nat.eq_zero_or_pos m with hm0 | hm0
            · subst hm0
              go_wp2
              go_roundw
              case rel =>
                refine ⟨k + 1, acc ++ encW y, by omega, by go_num, ?_, hbw2, ?_, HN⟩
                · have e : Lib.byteCells (acc ++ encW y) = Lib.byteCells acc ++ [Value.int .u8 (n : Int)] ++ Lib.byteCells (bytesN (n - 0) (y / 256 ^ 0)) := by
                    have e1 : (szW y).toUInt8.toNat = szW y := by have := szW_le y; simp; omega
                    rw [HSZ.out] at hn8 ⊢
                    simp only [encW, bytesW, Lib.byteCells, List.map_append, List.map_cons, e1, Nat.sub_zero, Nat.pow_zero, Nat.div_one, List.append_assoc, List.cons_append, List.nil_append]
                  rw [e]
                  exact hI2
                · rw [List.length_append, encW_length, ← HSZ.out]
                  omega
              case measure => simp [intOf]; omega
            · obtain ⟨q, rfl⟩ : ∃ q, m = q + 1 := ⟨m - 1, by omega⟩
              have hl9 : (Lib.byteCells acc ++ [Value.int .u8 (n : Int)] ++ Lib.byteCells (bytesN (n - (q + 1)) (y / 256 ^ (q + 1)))).length + 1 ≤ 140737488355328 := by
                rw [List.length_append, List.length_append, Lib.byteCells_length, Lib.byteCells_length, bytesN_length, List.length_singleton]
                omega
              have HB := Lib.hid (wp_byte acc n q y hm2)
              go_wp2_with fail
              refine (Try.bld_byte_in w.heap.size w.heap.size _ _ _ hI2 hl9 hs2).mono ?_
              rintro e w3 ⟨rfl, hI3, hb3⟩
              go_wp2
              go_roundw
              case rel =>
                refine ⟨q, by omega, by go_num, Or.inr ?_, hbw2.trans hb3⟩
                rw [HB.out] at hI3
                exact hI3
              case measure => simp [intOf]
        · exfalso
          have := HG.out
          rw [HS.out, if_neg h0, if_neg h2] at this
          cases this
    · have hkl : k = l0.length := by omega
      have HG' : Hid (r1 = ⟨acc.toArray⟩ ∧ r2 = 0) := by
        have := HG.out
        rw [hkl, List.drop_length] at this
        cases this
        exact Lib.hid ⟨rfl, rfl⟩
      clear HG hkl
      have hsz := hbw.size
      go_wp2_with fail
      refine (Try.Builder_String_any w.heap.size w.heap.size acc wr hI hsz).mono ?_
      rintro e w1 ⟨rfl, hb1⟩
      go_wp2
      go_ret2
      obtain ⟨rfl, rfl⟩ := HG'.out
      exact ⟨rfl, hbw.trans hb1⟩
end Go.Proofs.Yteikgpdjfhdneaa.Man
