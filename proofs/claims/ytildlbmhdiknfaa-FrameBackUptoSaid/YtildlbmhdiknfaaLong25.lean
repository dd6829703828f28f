/- The plain law FrameLong: a body that is doubled together to any length is put, and taken by whom it is not too long for. -/
import Derived.Test.YtildlbmhdiknfaaQA3
import Derived.Test.YtildlbmhdiknfaaAw25
set_option linter.unusedVariables false
namespace Go.Proofs.Ytildlbmhdiknfaa.Pure
open Go.RowKit Go.Proofs.Ytildlbmhdiknfaa.Man Go.Proofs.Ytildlbmhdiknfaa.QA Go.Proofs.YtildlbmhdiknfaaW.PrintWords Go.Proofs.YtildlbmhdiknfaaW.PrintLast

theorem and_bitN (m j : Nat) : m &&& 2 ^ j = if m.testBit j then 2 ^ j else 0 := by
  apply Nat.eq_of_testBit_eq
  intro i
  rw [Nat.testBit_and, Nat.testBit_two_pow]
  by_cases h : j = i
  · subst h
    cases ht : m.testBit j <;> simp
  · cases ht : m.testBit j <;> simp [h]
theorem mod_next (m j : Nat) : m % 2 ^ (j + 1) = m % 2 ^ j + (if m.testBit j then 2 ^ j else 0) := by
  rw [Nat.mod_pow_succ, Nat.testBit_eq_decide_div_mod_eq]
  rcases Nat.mod_two_eq_zero_or_one (m / 2 ^ j) with h | h
  · rw [h]; simp
  · rw [h]; simp
theorem and_mask (x : Int) : ∃ m : Nat, Go.bits .and .i64 x 16383 = (m : Int) ∧ m < 16384 := by
  refine ⟨(BitVec.ofInt 64 x &&& BitVec.ofInt 64 16383).toNat, ?_, ?_⟩
  · have h : (BitVec.ofInt 64 x &&& BitVec.ofInt 64 16383).toNat < 16384 := by
      rw [BitVec.toNat_and]
      exact Nat.lt_of_le_of_lt Nat.and_le_right (by decide)
    show IntKind.i64.wrap ((BitVec.ofInt 64 x &&& BitVec.ofInt 64 16383).toNat : Int) = _
    exact IntWalk.i64_in _ (by omega)
  · rw [BitVec.toNat_and]
    exact Nat.lt_of_le_of_lt Nat.and_le_right (by decide)
theorem and_bit (m j : Nat) (hm : m < 16384) (hj : j ≤ 14) : Go.bits .and .i64 (m : Int) ((2 ^ j : Nat) : Int) = (if m.testBit j then ((2 ^ j : Nat) : Int) else 0) := by
  have h2 : 2 ^ j ≤ 2 ^ 14 := Nat.pow_le_pow_right (by decide) hj
  rw [(bits_nat .i64 63 (by decide) wraps_i64 m (2 ^ j) (by omega) (by omega)).1, and_bitN]
  cases m.testBit j <;> simp
theorem text_grows (j : Nat) (hj : j ≤ 14) : ∀ (d i k : Nat) (b : ByteArray), i ≤ j → b.size = 2 ^ i → j - i = d → d < k → ∃ r, tollbarlaw25_text.l0 k ((2 ^ j : Nat) : Int) b = some r ∧ r.size = 2 ^ j := by
  have hp : 2 ^ j ≤ 2 ^ 14 := Nat.pow_le_pow_right (by decide) hj
  intro d
  induction d with
  | zero =>
    intro i k b hi hb hd hk
    obtain ⟨k, rfl⟩ : ∃ m, k = m + 1 := ⟨k - 1, by omega⟩
    obtain rfl : i = j := by omega
    refine ⟨b, ?_, hb⟩
    simp only [tollbarlaw25_text.l0]
    rw [if_neg (by rw [hb]; omega)]
  | succ d ih =>
    intro i k b hi hb hd hk
    obtain ⟨k, rfl⟩ : ∃ m, k = m + 1 := ⟨k - 1, by omega⟩
    have h1 : 2 ^ (i + 1) ≤ 2 ^ j := Nat.pow_le_pow_right (by decide) (by omega)
    have h2 : 2 ^ (i + 1) = 2 ^ i + 2 ^ i := by rw [Nat.pow_succ]; omega
    have h3 : 0 < 2 ^ i := Nat.two_pow_pos i
    have hbb : (b ++ b).size = 2 ^ (i + 1) := by rw [ByteArray.size_append, hb, h2]
    obtain ⟨r, hr, hz⟩ := ih (i + 1) k (b ++ b) (by omega) hbb (by omega) (by omega)
    refine ⟨r, ?_, hz⟩
    simp only [tollbarlaw25_text.l0]
    rw [hb, if_pos (by omega), if_pos (by omega)]
    exact hr
theorem text_any (j k : Nat) (hj : j ≤ 14) (hk : 20 ≤ k) : ∃ r, tollbarlaw25_text.f k ((2 ^ j : Nat) : Int) = some r ∧ r.size = 2 ^ j :=
  text_grows j hj j 0 k _ (by omega) rfl (by omega) (by omega)

theorem put_one (b : ByteArray) (hb : b.size < 16384) : frame_Put.f [b] = if b.size = 0 ∨ b.size > 8192 then some (⟨#[]⟩, 2500) else some (⟨([(b.size / 256).toUInt8, b.size.toUInt8] ++ b.data.toList).toArray⟩, 0) := by
  unfold frame_Put.f frame_Put.go
  by_cases h : b.size = 0 ∨ b.size > 8192
  · rw [if_pos (by omega), if_pos h]
  · rw [if_neg (by omega), if_neg h, if_pos (by simp; omega)]
    rfl
/-- A frame. -/
def fr (b : ByteArray) : ByteArray := ⟨([(b.size / 256).toUInt8, b.size.toUInt8] ++ b.data.toList).toArray⟩
theorem fr_size (b : ByteArray) : (fr b).size = b.size + 2 := by
  show (fr b).data.size = _
  simp [fr]
theorem fr_nx (b : ByteArray) (h : b.size ≤ 8192) : nx (fr b) = b.size := by
  have h0 : bt (fr b) 0 = ((b.size / 256).toUInt8.toNat : Int) := by
    unfold bt
    rw [dif_pos (by rw [fr_size]; simp)]
    rfl
  have h1 : bt (fr b) 1 = (b.size.toUInt8.toNat : Int) := by
    unfold bt
    rw [dif_pos (by rw [fr_size]; simp)]
    rfl
  unfold nx
  rw [h0, h1, ← fp_hi b.size h, ← fp_lo b.size]
  omega
theorem fr_body (b t : ByteArray) : (fr b ++ t).extract 2 (2 + b.size) = b := by
  rw [ext_left _ _ _ _ (by rw [fr_size]; omega)]
  apply ByteArray.ext
  rw [ByteArray.data_extract]
  apply Array.toList_inj.1
  simp [fr]
  apply List.take_of_length_le
  rw [Array.length_toList]; exact Nat.le_refl _
theorem fr_rest (b t : ByteArray) : (fr b ++ t).extract (2 + b.size) (fr b ++ t).size = t := by
  rw [ext_right _ _ _ (by rw [fr_size]; omega)]
  have : (fr b).extract (2 + b.size) (fr b).size = ByteArray.empty := by
    apply ByteArray.ext
    rw [ByteArray.data_extract]
    apply Array.toList_inj.1
    have := fr_size b
    have h : (fr b).data.size = b.size + 2 := this
    rw [this]
    simp [h]
    omega
  rw [this]
  simp
/-- What a frame is read back as. -/
theorem next_fr (b t : ByteArray) (m : Int) (h0 : b.size ≠ 0) (h1 : b.size ≤ 8192) (hm : ¬ (m < 1 ∨ m > 8192)) (hle : (b.size : Int) ≤ m) : nextF (fr b ++ t) m = some (1, b, t, 0) := by
  have hz : (fr b ++ t).size = b.size + 2 + t.size := by rw [ByteArray.size_append, fr_size]
  have hn : nx (fr b ++ t) = (b.size : Int) := by rw [nx_append _ _ (by rw [fr_size]; omega), fr_nx b h1]
  rw [next_whole _ m hm (by rw [hz]; omega) (by rw [hn]; omega) (by rw [hn, hz]; omega), hn, Int.toNat_natCast, fr_body, fr_rest]
theorem next_fr_bad (b t : ByteArray) (m : Int) (h0 : b.size ≠ 0) (h1 : b.size ≤ 8192) (hm : ¬ (m < 1 ∨ m > 8192)) (hle : (b.size : Int) > m) : nextF (fr b ++ t) m = some (2, ⟨#[]⟩, ⟨#[]⟩, 0) := by
  have hz : (fr b ++ t).size = b.size + 2 + t.size := by rw [ByteArray.size_append, fr_size]
  have hn : nx (fr b ++ t) = (b.size : Int) := by rw [nx_append _ _ (by rw [fr_size]; omega), fr_nx b h1]
  rw [next_form _ m hm (by rw [hz]; omega) (by rw [hn]; omega)]

theorem put_fr (b : ByteArray) (m : Nat) (hb : b.size = m) (hm : m < 16384) : frame_Put.f [b] = if m = 0 ∨ m > 8192 then some (⟨#[]⟩, 2500) else some (fr b, 0) := by
  subst hb
  exact put_one b hm
theorem j2_true (k m : Nat) (x1 : Int) (b f : ByteArray) (hz : (f.size : Int) = wrap64 ((m : Int) + 2)) : tollbarlaw25_FrameLong.j2 (k + 1) x1 m b f 0 true = some true := by
  simp only [tollbarlaw25_FrameLong.j2]
  rw [awake25, if_pos hz]
  simp [num25]
theorem fr_emp (b : ByteArray) : fr b = fr b ++ ByteArray.empty := by simp
theorem fr_bad (m : Nat) (x1 : Int) (b : ByteArray) (hb : b.size = m) (h0 : m ≠ 0) (h1 : m ≤ 8192) (hx : ¬ (x1 < 1 ∨ x1 > 8192)) (hgt : (m : Int) > x1) : nextF (fr b) x1 = some (2, ⟨#[]⟩, ⟨#[]⟩, 0) := by
  rw [fr_emp b, next_fr_bad b _ x1 (by rw [hb]; exact h0) (by rw [hb]; exact h1) hx (by rw [hb]; exact hgt)]
theorem fr_whole (m : Nat) (x1 : Int) (b : ByteArray) (hb : b.size = m) (h0 : m ≠ 0) (h1 : m ≤ 8192) (hx : ¬ (x1 < 1 ∨ x1 > 8192)) (hle : (m : Int) ≤ x1) : nextF (fr b) x1 = some (1, b, ByteArray.empty, 0) := by
  rw [fr_emp b, next_fr b _ x1 (by rw [hb]; exact h0) (by rw [hb]; exact h1) hx (by rw [hb]; exact hle)]
theorem j2_bad (k m : Nat) (x1 : Int) (b f : ByteArray) (hgt : (m : Int) > x1) (hn : nextF f x1 = some (2, ⟨#[]⟩, ⟨#[]⟩, 0)) : tollbarlaw25_FrameLong.j2 (k + 1) x1 m b f 0 false = some true := by
  simp only [tollbarlaw25_FrameLong.j2]
  unfold frame_Next.f
  rw [awake25, if_neg (by decide), hn]
  simp only [Option.bind_some]
  rw [if_pos hgt]
  simp only [Option.bind_some, num25]
  rw [if_pos trivial, if_pos trivial, if_pos emp_list]
  rfl
theorem j2_whole (k m : Nat) (x1 : Int) (b f r : ByteArray) (hgt : ¬ (m : Int) > x1) (hn : nextF f x1 = some (1, b, r, 0)) : tollbarlaw25_FrameLong.j2 (k + 1) x1 m b f 0 false = some true := by
  simp only [tollbarlaw25_FrameLong.j2]
  unfold frame_Next.f
  rw [awake25, if_neg (by decide), hn]
  simp only [Option.bind_some]
  rw [if_neg hgt]
  simp only [Option.bind_some, num25]
  rw [if_pos trivial, if_pos trivial, if_pos trivial]
  rfl
theorem j2_false (k m : Nat) (x1 : Int) (b : ByteArray) (hb : b.size = m) (h0 : m ≠ 0) (h1 : m ≤ 8192) (hx : ¬ (x1 < 1 ∨ x1 > 8192)) : tollbarlaw25_FrameLong.j2 (k + 1) x1 m b (fr b) 0 false = some true := by
  by_cases hgt : (m : Int) > x1
  · exact j2_bad k m x1 b (fr b) hgt (fr_bad m x1 b hb h0 h1 hx hgt)
  · exact j2_whole k m x1 b (fr b) ByteArray.empty hgt (fr_whole m x1 b hb h0 h1 hx (by omega))
theorem j1_true (k m : Nat) (x1 : Int) (b : ByteArray) : tollbarlaw25_FrameLong.j1 (k + 1) x1 m b ⟨#[]⟩ 2500 true = some true := by
  simp only [tollbarlaw25_FrameLong.j1]
  rw [awake25]
  simp [num25]
theorem j1_parts (k m : Nat) (x1 : Int) (b f : ByteArray) (hz : (f.size : Int) = wrap64 ((m : Int) + 2)) (hf : ¬ (x1 < 1 ∨ x1 > 8192) → tollbarlaw25_FrameLong.j2 (k + 1) x1 m b f 0 false = some true) : tollbarlaw25_FrameLong.j1 (k + 2) x1 m b f 0 false = some true := by
  have hj2 := j2_true k m x1 b f hz
  simp only [tollbarlaw25_FrameLong.j1]
  rw [← hz, if_neg (by decide)]
  simp only [Option.bind_some, num25]
  rw [if_pos trivial, if_pos trivial]
  by_cases hx : x1 < 1
  · rw [if_pos hx]
    exact hj2
  · rw [if_neg hx]
    by_cases hy : x1 > 8192
    · rw [decide_eq_true hy]
      exact hj2
    · rw [decide_eq_false hy]
      exact hf (fun h => h.elim hx hy)
theorem wrap_two (s m : Nat) (h : s = m + 2) (hm : m ≤ 8192) : (s : Int) = wrap64 ((m : Int) + 2) := by
  have h0 : 0 ≤ (m : Int) + 2 := by omega
  have h1 : (m : Int) + 2 ≤ 562949953421312 := by omega
  have h2 : (s : Int) = (m : Int) + 2 := by omega
  exact h2.trans (wrap_in _ h0 h1).symm
theorem j1_false (k m : Nat) (x1 : Int) (b : ByteArray) (hb : b.size = m) (h0 : m ≠ 0) (h1 : m ≤ 8192) : tollbarlaw25_FrameLong.j1 (k + 2) x1 m b (fr b) 0 false = some true := by
  have hz : ((fr b).size : Int) = wrap64 ((m : Int) + 2) := wrap_two _ m (by rw [fr_size, hb]) h1
  exact j1_parts k m x1 b (fr b) hz (j2_false k m x1 b hb h0 h1)
theorem long_end (k m : Nat) (x1 : Int) (b : ByteArray) (hm : m < 16384) (hb : b.size = m) (hk : 3 ≤ k) :
    ((frame_Put.f [b]).bind fun bt191 => (if (m : Int) = 0 then (tollbarlaw25_FrameLong.j1 k x1 m b bt191.1 bt191.2 true) else (tollbarlaw25_FrameLong.j1 k x1 m b bt191.1 bt191.2 (decide ((m : Int) > 8192))))) = some true := by
  obtain ⟨k, rfl⟩ : ∃ q, k = q + 2 := ⟨k - 2, by omega⟩
  rw [put_fr b m hb hm]
  by_cases h : m = 0 ∨ m > 8192
  · rw [if_pos h]
    simp only [Option.bind_some]
    by_cases h0 : (m : Int) = 0
    · rw [if_pos h0, j1_true]
    · rw [if_neg h0, decide_eq_true (by omega), j1_true]
  · rw [if_neg h]
    simp only [Option.bind_some]
    rw [if_neg (by omega), decide_eq_false (by omega)]
    exact j1_false k m x1 b hb (by omega) (by omega)

theorem long_loop (m : Nat) (hm : m < 16384) (x1 : Int) : ∀ (d j k : Nat) (b : ByteArray), 14 - j = d → j ≤ 14 → b.size = m % 2 ^ j → 30 + d ≤ k →
    tollbarlaw25_FrameLong.l0 k x1 m b ((2 ^ j : Nat) : Int) = some true := by
  intro d
  induction d with
  | zero =>
    intro j k b hd hj hb hk
    obtain ⟨k, rfl⟩ : ∃ q, k = q + 1 := ⟨k - 1, by omega⟩
    obtain rfl : j = 14 := by omega
    simp only [tollbarlaw25_FrameLong.l0]
    rw [if_neg (by simp; omega)]
    exact long_end k m x1 b hm (by rw [hb]; exact Nat.mod_eq_of_lt (by omega)) (by omega)
  | succ d ih =>
    intro j k b hd hj hb hk
    obtain ⟨k, rfl⟩ : ∃ q, k = q + 1 := ⟨k - 1, by omega⟩
    simp only [tollbarlaw25_FrameLong.l0]
    have h2 : 2 ^ (j + 1) = 2 * 2 ^ j := by rw [Nat.pow_succ]; omega
    have hp : 2 ^ j ≤ 2 ^ 14 := Nat.pow_le_pow_right (by decide) hj
    have hw : wrap64 (2 * ((2 ^ j : Nat) : Int)) = ((2 ^ (j + 1) : Nat) : Int) := by rw [wrap_in _ (by omega) (by omega)]; omega
    by_cases hle : ((2 ^ j : Nat) : Int) ≤ (m : Int)
    · rw [if_pos hle, and_bit m j hm (by omega), hw]
      have hn := mod_next m j
      cases ht : m.testBit j with
      | false =>
        rw [ht] at hn
        rw [if_pos (by simp)]
        exact ih (j + 1) k b (by omega) (by omega) (by rw [hb, hn]; simp) (by omega)
      | true =>
        rw [ht] at hn
        have hpos : 0 < 2 ^ j := Nat.two_pow_pos j
        rw [if_neg (by rw [if_pos rfl]; omega)]
        obtain ⟨r, hr, hz⟩ := text_any j k (by omega) (by omega)
        rw [hr]
        simp only [Option.bind_some]
        have hlt : m % 2 ^ j < 2 ^ j := Nat.mod_lt _ hpos
        rw [if_pos (by rw [hb, hz]; omega)]
        exact ih (j + 1) k (b ++ r) (by omega) (by omega) (by rw [ByteArray.size_append, hb, hz, hn, if_pos rfl]) (by omega)
    · rw [if_neg hle]
      exact long_end k m x1 b hm (by rw [hb]; exact Nat.mod_eq_of_lt (by omega)) (by omega)

theorem FrameLong : tollbarlaw25_FrameLong.Pure := by
  intro a0 a1 _ _
  obtain ⟨m, hm, hlt⟩ := and_mask a0
  refine ⟨60, ?_⟩
  unfold tollbarlaw25_FrameLong.f
  rw [hm]
  exact long_loop m hlt a1 14 0 60 ⟨#[]⟩ (by omega) (by omega) (by simp [Nat.mod_one]; rfl) (by omega)
end Go.Proofs.Ytildlbmhdiknfaa.Pure
