/- word.Get and tollbarref1.Get at this dump: both return what the one plain function 'getF' gives, for every text of at most 2^49 bytes and every place. -/
import Derived.Test.YteikgpdjfhdneaaWordC
set_option linter.unusedVariables false
namespace Go.Proofs.Yteikgpdjfhdneaa.Man
open Go.RowKit Go.Proofs.YteikgpdjfhdneaaW.PrintWords Go.Proofs.YteikgpdjfhdneaaW.PrintLast Go.Proofs.YteikgpdjfhdneaaW.PrintMore Go.Proofs.Yteikgpdjfhdneaa.WordM
def wl (s : ByteArray) (p n : Nat) : List UInt8 := (s.data.toList.drop (p + 1)).take n
def getF (s : ByteArray) (at_ : Int) : Int × Int × Int :=
  if at_ < 0 ∨ at_ > (s.size : Int) then (0, 0, 300) else if at_ = (s.size : Int) then (0, 0, 301)
  else if bt s at_ > 8 then (0, 0, 300) else if bt s at_ > (s.size : Int) - at_ - 1 then (0, 0, 301)
  else if valW (wl s at_.toNat (bt s at_).toNat) > 4611686018427387904 ∨ szW (valW (wl s at_.toNat (bt s at_).toNat)) ≠ (bt s at_).toNat then (0, 0, 300)
  else ((valW (wl s at_.toNat (bt s at_).toNat) : Nat), at_ + 1 + bt s at_, 0)
def word_Get.f (a0 : ByteArray) (a1 : Int) : Option (Int × Int × Int) := if a0.size ≤ 562949953421312 then some (getF a0 a1) else none
def tollbarref1_Get.f (a0 : ByteArray) (a1 : Int) : Option (Int × Int × Int) := if a0.size ≤ 562949953421312 then some (getF a0 a1) else none
theorem wl_length (s : ByteArray) (p n : Nat) (h : p + 1 + n ≤ s.size) : (wl s p n).length = n := by
  unfold wl
  rw [List.length_take, List.length_drop, data_length]
  omega
theorem bt_lt (s : ByteArray) (p : Nat) (h : p < s.size) : bt s (p : Int) = ((s.data.toList[p]'(by rw [data_length]; exact h)).toNat : Int) := by
  unfold bt
  rw [dif_pos (by simpa using h)]
  rfl
theorem bt_nat (s : ByteArray) (p : Nat) : ∀ h : p < s.size, ((s[p]'h).toNat : Int) = bt s (p : Int) := fun h => by
  rw [bt_lt s p h]
  rfl
theorem wl_get (s : ByteArray) (p n k : Nat) (h : p + 1 + n ≤ s.size) (hk : k < n) : ∃ b : UInt8, (wl s p n)[k]? = some b ∧ bt s ((p + 1 + k : Nat) : Int) = (b.toNat : Int) := by
  have hlt : p + 1 + k < s.data.toList.length := by rw [data_length]; omega
  refine ⟨s.data.toList[p + 1 + k], ?_, bt_lt s (p + 1 + k) (by omega)⟩
  unfold wl
  rw [List.getElem?_take_of_lt hk, List.getElem?_drop, List.getElem?_eq_getElem hlt]
theorem val_take (l : List UInt8) (k : Nat) (b : UInt8) (h : l[k]? = some b) : valW (l.take (k + 1)) = 256 * valW (l.take k) + b.toNat := by
  have hk : k < l.length := (List.getElem?_eq_some_iff.1 h).1
  rw [List.take_add_one, h]
  exact valW_snoc _ _
theorem val_mono (a b : List UInt8) : valW a ≤ valW (a ++ b) := by
  induction b using snoc_ind with
  | h0 => simp
  | h1 l c ih => rw [← List.append_assoc, valW_snoc]; omega
theorem val_take_le (l : List UInt8) (k : Nat) : valW (l.take k) ≤ valW l := by
  have := val_mono (l.take k) (l.drop k)
  rwa [List.take_append_drop] at this
set_option maxHeartbeats 4000000 in
set_option maxRecDepth 100000 in
theorem tollbarref1_Get.calls (a0 : ByteArray) (a1 : Int) (r1 : Int) (r2 : Int) (r3 : Int) (w : World) (h : tollbarref1_Get.f a0 a1 = some (r1, r2, r3)) :
    Calls Try.prog 65 #[.string a0, .int .i64 a1] w fun e w' => e = .returned (.tuple #[.int .i64 r1, .int .i64 r2, .int .i64 r3]) ∧ Drawn0 w w' := by
  unfold tollbarref1_Get.f at h
  by_cases hs : a0.size ≤ 562949953421312
  case neg => rw [if_neg hs] at h; cases h
  rw [if_pos hs, Option.some.injEq] at h
  unfold getF at h
  by_cases h1 : a1 < 0
  · rw [if_pos (Or.inl h1)] at h
    cases h
    go_enter Try.func65, Try.ntmps65
    go_wp2
    refine bodyPost_ret (results_list (rs := [.tmp 4, .tmp 5, .tmp 6]) rfl (by simp) (.tmp (.tmp (.tmp .nil)))) rfl ?_
    exact ⟨rfl, Drawn0.refl _⟩
  by_cases h2 : a1 > (a0.size : Int)
  · rw [if_pos (Or.inr h2)] at h
    cases h
    go_enter Try.func65, Try.ntmps65
    go_wp2
    refine bodyPost_ret (results_list (rs := [.tmp 4, .tmp 5, .tmp 6]) rfl (by simp) (.tmp (.tmp (.tmp .nil)))) rfl ?_
    exact ⟨rfl, Drawn0.refl _⟩
  rw [if_neg (by omega)] at h
  obtain ⟨p, rfl⟩ := Int.eq_ofNat_of_zero_le (show 0 ≤ a1 by omega)
  by_cases h3 : p = a0.size
  · subst h3
    rw [if_pos rfl] at h
    cases h
    go_enter Try.func65, Try.ntmps65
    go_wp2
    refine bodyPost_ret (results_list (rs := [.tmp 4, .tmp 5, .tmp 6]) rfl (by simp) (.tmp (.tmp (.tmp .nil)))) rfl ?_
    exact ⟨rfl, Drawn0.refl _⟩
  rw [if_neg (by omega), Int.toNat_natCast] at h
  have h3b : decide (p = a0.size) = false := by simpa using h3
  have h3c : ((p : Int) == (a0.size : Int)) = false := beq_eq_false_iff_ne.2 (by omega)
  have hp : p < a0.size := by omega
  obtain ⟨n, hn⟩ : ∃ n : Nat, bt a0 (p : Int) = (n : Int) := ⟨(bt a0 p).toNat, by have := bt_range a0 p; omega⟩
  have hx8 : ∀ h : p < a0.size, ((a0[p]'h).toNat : Int) = (n : Int) := fun h => by rw [← hn]; exact bt_nat a0 p h
  have qi8 : ((p : Int) < (a0.size : Int)) = True := eq_true (by omega)
  have q8 : (p < a0.size) = True := eq_true hp
  have n255 : (n : Int) ≤ 255 := by have := bt_range a0 p; omega
  rw [hn] at h
  rw [Int.toNat_natCast] at h
  have HBT := Lib.hid hn
  clear hn h1 h2
  by_cases h4 : (n : Int) > 8
  · rw [if_pos h4] at h
    cases h
    go_enter Try.func65, Try.ntmps65
    go_wp2
    refine bodyPost_ret (results_list (rs := [.tmp 4, .tmp 5, .tmp 6]) rfl (by simp) (.tmp (.tmp (.tmp .nil)))) rfl ?_
    exact ⟨rfl, Drawn0.refl _⟩
  rw [if_neg h4] at h
  by_cases h5 : (n : Int) > (a0.size : Int) - (p : Int) - 1
  · rw [if_pos h5] at h
    cases h
    go_enter Try.func65, Try.ntmps65
    go_wp2
    refine bodyPost_ret (results_list (rs := [.tmp 4, .tmp 5, .tmp 6]) rfl (by simp) (.tmp (.tmp (.tmp .nil)))) rfl ?_
    exact ⟨rfl, Drawn0.refl _⟩
  rw [if_neg h5] at h
  have hsp : p + 1 + n ≤ a0.size := by omega
  have hll := wl_length a0 p n hsp
  obtain ⟨l, hl⟩ : ∃ l, l = wl a0 p n := ⟨_, rfl⟩
  rw [← hl] at h hll
  have HG : ∀ k, k < n → ∃ b : UInt8, l[k]? = some b ∧ bt a0 ((p + 1 + k : Nat) : Int) = (b.toNat : Int) := fun k hk => by rw [hl]; exact wl_get a0 p n k hsp hk
  have HGH := Lib.hid HG
  have HLL := Lib.hid hll
  have HH := Lib.hid h
  clear HG hll h hl
  have hsp' : (p : Int) + 1 + (n : Int) ≤ (a0.size : Int) := by omega
  by_cases hz : 0 < n ∧ bt a0 ((p + 1 : Nat) : Int) = 0
  · obtain ⟨hz0, hz1⟩ := hz
    have HR : r1 = 0 ∧ r2 = 0 ∧ r3 = 300 := by
      obtain ⟨b, hb, hbb⟩ := HGH.out 0 hz0
      have hb0 : b = 0 := UInt8.toNat_inj.1 (by rw [Nat.add_zero, hz1] at hbb; simpa using hbb.symm)
      have := HH.out
      rw [if_pos (Or.inr ?_)] at this
      · cases this; exact ⟨rfl, rfl, rfl⟩
      · intro he
        rw [← HLL.out] at he
        rcases (sz_val l (by rw [HLL.out]; omega)).1 he with h | ⟨a, r, h, ha⟩
        · rw [h] at hb; cases hb
        · rw [h] at hb
          simp at hb
          exact ha (by rw [hb, hb0])
    obtain ⟨rfl, rfl, rfl⟩ := HR
    have hx9 : ∀ h : p + 1 < a0.size, ((a0[p + 1]'h).toNat : Int) = 0 := fun h => by rw [← hz1]; exact bt_nat a0 (p + 1) h
    have qi9 : ((p : Int) + 1 < (a0.size : Int)) = True := eq_true (by omega)
    have q9 : (p + 1 < a0.size) = True := eq_true (by omega)
    have hn0 : decide (0 < n) = true := by simpa using hz0
    clear hz1
    go_enter Try.func65, Try.ntmps65
    go_wp2
    refine bodyPost_ret (results_list (rs := [.tmp 4, .tmp 5, .tmp 6]) rfl (by simp) (.tmp (.tmp (.tmp .nil)))) rfl ?_
    exact ⟨rfl, Drawn0.refl _⟩
  · have HSZ : Hid (szW (valW l) = n) := by
      have h8 : l.length ≤ 8 := by have := HLL.out; omega
      have := (sz_val l h8).2 ?_
      · exact Lib.hid (this.trans HLL.out)
      · cases hl : l with
        | nil => exact .inl rfl
        | cons a r =>
          refine .inr ⟨a, r, rfl, ?_⟩
          rintro rfl
          have hn : 0 < n := by have := HLL.out; rw [hl] at this; simp at this; omega
          obtain ⟨b, hb, hbb⟩ := HGH.out 0 hn
          rw [hl] at hb
          simp at hb
          subst hb
          exact hz ⟨hn, by simpa using hbb⟩
    by_cases hn0 : n = 0
    · have hn0b : decide (0 < n) = false := by simp; omega
      clear hz hn0
      go_enter Try.func65, Try.ntmps65
      go_wp2
      go_loop [8, 9] (fun x i => ∃ k : Nat, k ≤ n ∧ i = .int .i64 (k : Int) ∧ x = .int .i64 ((valW (l.take k) : Nat) : Int) ∧ Hid (valW (l.take k) ≤ 4611686018427387904)) (fun _ i => n - (intOf i).toNat)
      case atStart => exact ⟨0, Nat.zero_le _, rfl, rfl, Lib.hid (by simp [valW])⟩
      case round =>
        obtain ⟨k, hk, rfl, rfl, HV⟩ := hrel
        by_cases hkn : k < n
        · obtain ⟨b, hb, hbb⟩ := HGH.out k hkn
          have hvt := val_take l k b hb
          have hxk : ∀ h : p + 1 + k < a0.size, ((a0[p + 1 + k]'h).toNat : Int) = (b.toNat : Int) := fun h => by rw [← hbb]; exact bt_nat a0 (p + 1 + k) h
          have qik : ((p : Int) + 1 + (k : Int) < (a0.size : Int)) = True := eq_true (by omega)
          have qk : (p + 1 + k < a0.size) = True := eq_true (by omega)
          have hb255 : (b.toNat : Int) ≤ 255 := by have := b.toNat_lt; omega
          have hle := HV.out
          have hmono := val_take_le l (k + 1)
          generalize hv : valW (l.take k) = v at *
          have HVV := Lib.hid hv
          have HVT := Lib.hid hvt
          have HMO := Lib.hid hmono
          clear hv hvt hmono hbb
          have hle' : (v : Int) ≤ 4611686018427387904 := by omega
          clear hle
          by_cases hov : (v : Int) > (4611686018427387904 - (b.toNat : Int)) / 256
          · have HR : r1 = 0 ∧ r2 = 0 ∧ r3 = 300 := by
              have := HH.out
              rw [if_pos (Or.inl ?_)] at this
              · cases this; exact ⟨rfl, rfl, rfl⟩
              · have h1 := HVT.out
                have h2 := HMO.out
                omega
            obtain ⟨rfl, rfl, rfl⟩ := HR
            go_wp2
            refine bodyPost_ret (results_list (rs := [.tmp 4, .tmp 5, .tmp 6]) rfl (by simp) (.tmp (.tmp (.tmp .nil)))) rfl ?_
            exact ⟨rfl, Drawn0.refl _⟩
          · have hov2 : Hid (256 * v + b.toNat ≤ 4611686018427387904) := Lib.hid (by omega)
            have hv56 : (v : Int) ≤ 18014398509481984 := by omega
            go_wp2
            go_round
            case rel => exact ⟨k + 1, by omega, by go_num, by rw [HVT.out]; go_num, Lib.hid (by rw [HVT.out]; exact hov2.out)⟩
            case measure => simp [intOf]; omega
        · have hkn' : k = n := by omega
          have HR : Hid (r1 = ((valW (l.take k) : Nat) : Int) ∧ r2 = (p : Int) + 1 + (n : Int) ∧ r3 = 0) := by
            have ht : l.take k = l := List.take_of_length_le (by have := HLL.out; omega)
            have := HH.out
            rw [if_neg ?_] at this
            · cases this
              rw [ht]
              exact Lib.hid ⟨rfl, rfl, rfl⟩
            · rintro (h | h)
              · have := HV.out
                rw [ht] at this
                omega
              · exact h (HSZ.out)
          clear hkn'
          generalize valW (l.take k) = v at *
          go_wp2
          refine bodyPost_ret (results_list (rs := [.tmp 4, .tmp 5, .tmp 6]) rfl (by simp) (.tmp (.tmp (.tmp .nil)))) rfl ?_
          obtain ⟨rfl, rfl, rfl⟩ := HR.out
          exact ⟨rfl, Drawn0.refl _⟩
    · obtain ⟨b0, hb0, hbb0⟩ := HGH.out 0 (by omega)
      have hx9 : ∀ h : p + 1 < a0.size, ((a0[p + 1]'h).toNat : Int) = (b0.toNat : Int) := fun h => by rw [← hbb0]; exact bt_nat a0 (p + 1) h
      have hne : (((b0.toNat : Nat) : Int) == 0) = false := beq_eq_false_iff_ne.2 (fun h => hz ⟨by omega, by rw [← h]; exact hbb0⟩)
      have qi9 : ((p : Int) + 1 < (a0.size : Int)) = True := eq_true (by omega)
      have q9 : (p + 1 < a0.size) = True := eq_true (by omega)
      have hn0b : decide (0 < n) = true := by simp; omega
      clear hz hn0 hbb0 hb0
      go_enter Try.func65, Try.ntmps65
      go_wp2
      go_loop [8, 9] (fun x i => ∃ k : Nat, k ≤ n ∧ i = .int .i64 (k : Int) ∧ x = .int .i64 ((valW (l.take k) : Nat) : Int) ∧ Hid (valW (l.take k) ≤ 4611686018427387904)) (fun _ i => n - (intOf i).toNat)
      case atStart => exact ⟨0, Nat.zero_le _, rfl, rfl, Lib.hid (by simp [valW])⟩
      case round =>
        obtain ⟨k, hk, rfl, rfl, HV⟩ := hrel
        by_cases hkn : k < n
        · obtain ⟨b, hb, hbb⟩ := HGH.out k hkn
          have hvt := val_take l k b hb
          have hxk : ∀ h : p + 1 + k < a0.size, ((a0[p + 1 + k]'h).toNat : Int) = (b.toNat : Int) := fun h => by rw [← hbb]; exact bt_nat a0 (p + 1 + k) h
          have qik : ((p : Int) + 1 + (k : Int) < (a0.size : Int)) = True := eq_true (by omega)
          have qk : (p + 1 + k < a0.size) = True := eq_true (by omega)
          have hb255 : (b.toNat : Int) ≤ 255 := by have := b.toNat_lt; omega
          have hle := HV.out
          have hmono := val_take_le l (k + 1)
          generalize hv : valW (l.take k) = v at *
          have HVV := Lib.hid hv
          have HVT := Lib.hid hvt
          have HMO := Lib.hid hmono
          clear hv hvt hmono hbb
          have hle' : (v : Int) ≤ 4611686018427387904 := by omega
          clear hle
          by_cases hov : (v : Int) > (4611686018427387904 - (b.toNat : Int)) / 256
          · have HR : r1 = 0 ∧ r2 = 0 ∧ r3 = 300 := by
              have := HH.out
              rw [if_pos (Or.inl ?_)] at this
              · cases this; exact ⟨rfl, rfl, rfl⟩
              · have h1 := HVT.out
                have h2 := HMO.out
                omega
            obtain ⟨rfl, rfl, rfl⟩ := HR
            go_wp2
            refine bodyPost_ret (results_list (rs := [.tmp 4, .tmp 5, .tmp 6]) rfl (by simp) (.tmp (.tmp (.tmp .nil)))) rfl ?_
            exact ⟨rfl, Drawn0.refl _⟩
          · have hov2 : Hid (256 * v + b.toNat ≤ 4611686018427387904) := Lib.hid (by omega)
            have hv56 : (v : Int) ≤ 18014398509481984 := by omega
            go_wp2
            go_round
            case rel => exact ⟨k + 1, by omega, by go_num, by rw [HVT.out]; go_num, Lib.hid (by rw [HVT.out]; exact hov2.out)⟩
            case measure => simp [intOf]; omega
        · have hkn' : k = n := by omega
          have HR : Hid (r1 = ((valW (l.take k) : Nat) : Int) ∧ r2 = (p : Int) + 1 + (n : Int) ∧ r3 = 0) := by
            have ht : l.take k = l := List.take_of_length_le (by have := HLL.out; omega)
            have := HH.out
            rw [if_neg ?_] at this
            · cases this
              rw [ht]
              exact Lib.hid ⟨rfl, rfl, rfl⟩
            · rintro (h | h)
              · have := HV.out
                rw [ht] at this
                omega
              · exact h (HSZ.out)
          clear hkn'
          generalize valW (l.take k) = v at *
          go_wp2
          refine bodyPost_ret (results_list (rs := [.tmp 4, .tmp 5, .tmp 6]) rfl (by simp) (.tmp (.tmp (.tmp .nil)))) rfl ?_
          obtain ⟨rfl, rfl, rfl⟩ := HR.out
          exact ⟨rfl, Drawn0.refl _⟩
end Go.Proofs.Yteikgpdjfhdneaa.Man
