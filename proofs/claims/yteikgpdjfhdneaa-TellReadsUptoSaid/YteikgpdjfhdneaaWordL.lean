/- Plain laws on numbers as bytes: what is put is read, what is read is put again; no Go and no memory. -/
import Derived.Test.YteikgpdjfhdneaaWordR
import Derived.Test.YteikgpdjfhdneaaWordH
set_option linter.unusedVariables false
namespace Go.Proofs.Yteikgpdjfhdneaa.WordL
open Go.RowKit Go.Proofs.Yteikgpdjfhdneaa.Man Go.Proofs.Yteikgpdjfhdneaa.WordM Go.Proofs.YteikgpdjfhdneaaW.PrintWords
def encs (xs : List Int) : List UInt8 := xs.flatMap fun x => encW x.toNat
def rates (xs : List Int) : Prop := ∀ x ∈ xs, 0 ≤ x ∧ x ≤ 4611686018427387904
theorem encs_cons (x : Int) (xs : List Int) : encs (x :: xs) = encW x.toNat ++ encs xs := rfl
theorem encs_append (xs ys : List Int) : encs (xs ++ ys) = encs xs ++ encs ys := by simp [encs]
theorem encW_le (x : Nat) : (encW x).length ≤ 9 := by rw [encW_length]; have := szW_le x; omega
theorem encW_ge (x : Nat) : 1 ≤ (encW x).length := by rw [encW_length]; omega
theorem encs_le (xs : List Int) : (encs xs).length ≤ 9 * xs.length := by
  induction xs with
  | nil => simp [encs]
  | cons x r ih =>
    have := encW_le x.toNat
    rw [encs_cons, List.length_append, List.length_cons]
    omega
theorem encs_ge (xs : List Int) : xs.length ≤ (encs xs).length := by
  induction xs with
  | nil => simp
  | cons x r ih =>
    have := encW_ge x.toNat
    rw [encs_cons, List.length_append, List.length_cons]
    omega
theorem get_enc (s : ByteArray) (pre suf : List UInt8) (y : Nat) (hs : s.data.toList = pre ++ (encW y ++ suf)) (hy : y ≤ 4611686018427387904) :
    getF s (pre.length : Int) = ((y : Int), (pre.length : Int) + 1 + (szW y : Int), 0) := by
  have hlen : s.size = pre.length + (szW y + 1 + suf.length) := by
    rw [← data_length, hs, List.length_append, List.length_append, encW_length]
  have h8 := szW_le y
  have hb : bt s (pre.length : Int) = (szW y : Int) := by
    rw [bt_lt s pre.length (by omega)]
    have e : s.data.toList[pre.length]'(by rw [data_length]; omega) = (szW y).toUInt8 := by
      simp only [hs]
      rw [List.getElem_append_right (Nat.le_refl _)]
      simp [encW]
    rw [e]
    simp
    omega
  have hw : wl s pre.length (szW y) = bytesW y := by
    unfold wl
    rw [hs, List.drop_append, List.drop_of_length_le (by omega)]
    have e : pre.length + 1 - pre.length = 1 := by omega
    rw [e, List.nil_append]
    show ((bytesW y) ++ suf).take (szW y) = _
    rw [← bytesW_length, List.take_left]
  unfold getF
  rw [if_neg (by omega), if_neg (by omega), hb, Int.toNat_natCast, Int.toNat_natCast, hw, val_bytesW y (by omega), if_neg (by omega), if_neg (by omega), if_neg (by simp; omega)]
theorem get_ok (s : ByteArray) (p : Nat) (v q e : Int) (h : getF s (p : Int) = (v, q, e)) (he : e = 0) :
    ∃ y n : Nat, v = (y : Int) ∧ y ≤ 4611686018427387904 ∧ n = szW y ∧ q = ((p + 1 + n : Nat) : Int) ∧ p + 1 + n ≤ s.size ∧ s.data.toList.drop p = encW y ++ s.data.toList.drop (p + 1 + n) := by
  unfold getF at h
  by_cases h1 : (p : Int) < 0 ∨ (p : Int) > (s.size : Int)
  · rw [if_pos h1] at h; cases h; cases he
  rw [if_neg h1] at h
  by_cases h2 : (p : Int) = (s.size : Int)
  · rw [if_pos h2] at h; cases h; cases he
  rw [if_neg h2] at h
  have hp : p < s.size := by omega
  have hbt := bt_lt s p hp
  have hpl : p < s.data.toList.length := by rw [data_length]; exact hp
  obtain ⟨b, hb⟩ : ∃ b, b = s.data.toList[p] := ⟨_, rfl⟩
  rw [← hb] at hbt
  have hb255 := b.toNat_lt
  rw [hbt, Int.toNat_natCast, Int.toNat_natCast] at h
  by_cases h3 : (b.toNat : Int) > 8
  · rw [if_pos h3] at h; cases h; cases he
  rw [if_neg h3] at h
  by_cases h4 : (b.toNat : Int) > (s.size : Int) - (p : Int) - 1
  · rw [if_pos h4] at h; cases h; cases he
  rw [if_neg h4] at h
  obtain ⟨l, hl⟩ : ∃ l, l = wl s p b.toNat := ⟨_, rfl⟩
  have hll : l.length = b.toNat := by rw [hl]; exact wl_length s p b.toNat (by omega)
  rw [← hl] at h
  by_cases h5 : valW l > 4611686018427387904 ∨ szW (valW l) ≠ b.toNat
  · rw [if_pos h5] at h; cases h; cases he
  rw [if_neg h5] at h
  have h6 : szW (valW l) = b.toNat := Classical.byContradiction fun hh => h5 (.inr hh)
  have h7 : valW l ≤ 4611686018427387904 := Nat.le_of_not_lt fun hh => h5 (.inl hh)
  cases h
  refine ⟨valW l, b.toNat, rfl, h7, h6.symm, by omega, by omega, ?_⟩
  have e1 : s.data.toList.drop p = b :: s.data.toList.drop (p + 1) := by rw [hb]; exact List.drop_eq_getElem_cons hpl
  have e2 : s.data.toList.drop (p + 1) = l ++ s.data.toList.drop (p + 1 + b.toNat) := by
    have := List.take_append_drop b.toNat (s.data.toList.drop (p + 1))
    rw [List.drop_drop] at this
    rw [hl]
    exact this.symm
  have e3 : encW (valW l) = b :: l := by
    unfold encW
    rw [bytesW_val l (h6.trans hll.symm), h6]
    simp
  rw [e1, e2, e3]
  rfl
def listF : Nat → ByteArray → List Int → Int → Option (List Int × Int)
  | 0, _, _, _ => none
  | k + 1, s, acc, p => if p < (s.size : Int) then ((word_Get.f s p).bind fun r => (if r.2.2 = 0 then (if acc.length < 17592186044416 then listF k s (acc ++ [r.1]) r.2.1 else none) else some (([] : List Int), r.2.2))) else some (acc, 0)
theorem list_some (s : ByteArray) (hs : s.size ≤ 1099511627776) : ∀ (d : Nat) (acc : List Int) (p k : Nat), s.size - p = d → p ≤ s.size → acc.length ≤ p → d < k → ∃ r, listF k s acc (p : Int) = some r := by
  intro d
  induction d using Nat.strongRecOn with
  | _ d ih =>
    intro acc p k hd hp ha hk
    obtain ⟨k, rfl⟩ : ∃ m, k = m + 1 := ⟨k - 1, by omega⟩
    unfold listF word_Get.f
    by_cases h1 : (p : Int) < (s.size : Int)
    · rw [if_pos h1, if_pos (by omega)]
      obtain ⟨⟨v, q, e⟩, hg⟩ : ∃ r, getF s (p : Int) = r := ⟨_, rfl⟩
      rw [hg]
      simp only [Option.bind_some]
      by_cases he : e = 0
      · obtain ⟨y, n, rfl, _, _, rfl, hn, _⟩ := get_ok s p v q e hg he
        rw [if_pos he, if_pos (by omega)]
        exact ih (s.size - (p + 1 + n)) (by omega) _ _ k rfl hn (by rw [List.length_append, List.length_singleton]; omega) (by omega)
      · rw [if_neg he]
        exact ⟨_, rfl⟩
    · rw [if_neg h1]
      exact ⟨_, rfl⟩
theorem list_enc (s : ByteArray) (hs : s.size ≤ 1099511627776) : ∀ (xs acc : List Int) (pre : List UInt8) (k : Nat), s.data.toList = pre ++ encs xs → rates xs → acc.length ≤ pre.length → xs.length < k → listF k s acc (pre.length : Int) = some (acc ++ xs, 0)
  | [], acc, pre, k, h, _, _, hk => by
    obtain ⟨k, rfl⟩ : ∃ m, k = m + 1 := ⟨k - 1, by omega⟩
    have hl : s.size = pre.length := by rw [← data_length, h]; simp [encs]
    unfold listF
    rw [if_neg (by omega)]
    simp
  | x :: r, acc, pre, k, h, hr, ha, hk => by
    obtain ⟨k, rfl⟩ : ∃ m, k = m + 1 := ⟨k - 1, by omega⟩
    have hx := hr x (List.mem_cons_self ..)
    obtain ⟨y, rfl⟩ := Int.eq_ofNat_of_zero_le hx.1
    rw [encs_cons, Int.toNat_natCast] at h
    have hlen : s.size = pre.length + ((encW y).length + (encs r).length) := by rw [← data_length, h, List.length_append, List.length_append]
    have h1 := encW_ge y
    rw [List.length_cons] at hk
    unfold listF word_Get.f
    rw [if_pos (by omega), if_pos (by omega), get_enc s pre (encs r) y h (by omega)]
    simp only [Option.bind_some]
    rw [if_pos trivial, if_pos (by omega)]
    have hih := list_enc s hs r (acc ++ [(y : Int)]) (pre ++ encW y) k (by rw [h, List.append_assoc]) (fun z hz => hr z (List.mem_cons_of_mem _ hz)) (by rw [List.length_append, List.length_append, List.length_singleton]; omega) (by omega)
    have e : (pre.length : Int) + 1 + (szW y : Int) = ((pre ++ encW y).length : Int) := by rw [List.length_append, encW_length]; omega
    rw [e, hih]
    simp
theorem list_ok (s : ByteArray) : ∀ (k : Nat) (acc xs : List Int) (p : Nat) (e : Int), listF k s acc (p : Int) = some (xs, e) → e = 0 → p ≤ s.size → ∃ ys, xs = acc ++ ys ∧ rates ys ∧ s.data.toList.drop p = encs ys
  | 0, _, _, _, _, h, _, _ => by cases h
  | k + 1, acc, xs, p, e, h, he, hp => by
    unfold listF at h
    by_cases h1 : (p : Int) < (s.size : Int)
    · rw [if_pos h1] at h
      by_cases hs : s.size ≤ 562949953421312
      · unfold word_Get.f at h
        rw [if_pos hs] at h
        simp only [Option.bind_some] at h
        obtain ⟨⟨v, q, e'⟩, hg⟩ : ∃ r, getF s (p : Int) = r := ⟨_, rfl⟩
        rw [hg] at h
        by_cases he' : e' = 0
        · obtain ⟨y, n, rfl, hy, _, rfl, hn, hd⟩ := get_ok s p v q e' hg he'
          simp only [if_pos he'] at h
          by_cases ha : acc.length < 17592186044416
          · rw [if_pos ha] at h
            obtain ⟨ys, hxs, hr, hdr⟩ := list_ok s k (acc ++ [(y : Int)]) xs (p + 1 + n) e h he hn
            refine ⟨(y : Int) :: ys, by rw [hxs]; simp, ?_, ?_⟩
            · intro z hz
              rcases List.mem_cons.1 hz with rfl | hz
              · omega
              · exact hr z hz
            · rw [hd, hdr, encs_cons, Int.toNat_natCast]
          · rw [if_neg ha] at h; cases h
        · simp only [if_neg he'] at h
          cases h
          exact absurd he he'
      · unfold word_Get.f at h
        rw [if_neg hs] at h
        cases h
    · rw [if_neg h1] at h
      cases h
      refine ⟨[], (List.append_nil _).symm, fun z hz => (by cases hz), ?_⟩
      rw [List.drop_of_length_le (by rw [data_length]; omega)]
      rfl
theorem list_err (s : ByteArray) : ∀ (k : Nat) (acc xs : List Int) (p : Int) (e : Int), listF k s acc p = some (xs, e) → e ≠ 0 → xs = []
  | 0, _, _, _, _, h, _ => by cases h
  | k + 1, acc, xs, p, e, h, he => by
    unfold listF at h
    by_cases h1 : p < (s.size : Int)
    · rw [if_pos h1] at h
      cases hg : word_Get.f s p with
      | none => rw [hg] at h; cases h
      | some r =>
        rw [hg] at h
        simp only [Option.bind_some] at h
        by_cases h2 : r.2.2 = 0
        · rw [if_pos h2] at h
          by_cases h3 : acc.length < 17592186044416
          · rw [if_pos h3] at h
            exact list_err s k _ xs _ e h he
          · rw [if_neg h3] at h; cases h
        · rw [if_neg h2] at h
          cases h
          rfl
    · rw [if_neg h1] at h
      cases h
      exact absurd rfl he
theorem list_whole (s : ByteArray) (hs : s.size ≤ 1099511627776) (k : Nat) (hk : s.size < k) : ∃ xs e, listF k s [] 0 = some (xs, e) ∧ ((e = 0 ∧ rates xs ∧ s.data.toList = encs xs) ∨ (e ≠ 0 ∧ xs = [] ∧ ∀ ys, rates ys → s.data.toList ≠ encs ys)) := by
  obtain ⟨⟨xs, e⟩, h⟩ := list_some s hs s.size [] 0 k rfl (by omega) (by simp) hk
  have h' : listF k s [] 0 = some (xs, e) := h
  refine ⟨xs, e, h', ?_⟩
  by_cases he : e = 0
  · obtain ⟨ys, rfl, hr, hd⟩ := list_ok s k [] xs 0 e h he (by omega)
    exact .inl ⟨he, by simpa using hr, by simpa using hd⟩
  · refine .inr ⟨he, ?_, ?_⟩
    · exact list_err s k [] xs 0 e h' he
    · intro ys hr hy
      have hl : ys.length ≤ s.size := by rw [← data_length, hy]; exact encs_ge ys
      have := list_enc s hs ys [] [] k (by simpa using hy) hr (by simp) (by omega)
      have h2 : listF k s [] 0 = some (ys, 0) := by simpa using this
      rw [h2] at h'
      cases h'
      exact he rfl
end Go.Proofs.Yteikgpdjfhdneaa.WordL
