/- word.Get at this dump: it returns what the plain function 'getF' gives, for every text of at most 2^49 bytes and every place. -/
import Derived.Test.YteikgpdjfhdneaaWordG
set_option linter.unusedVariables false
namespace Go.Proofs.Yteikgpdjfhdneaa.Man
open Go.RowKit Go.Proofs.YteikgpdjfhdneaaW.PrintWords Go.Proofs.YteikgpdjfhdneaaW.PrintLast Go.Proofs.YteikgpdjfhdneaaW.PrintMore Go.Proofs.Yteikgpdjfhdneaa.WordM
theorem wraps_u64 (n : Int) (h₀ : 0 ≤ n) (h₁ : n < 2 ^ 64) : IntKind.u64.wrap n = n := IntWalk.u64_in n (by omega)
theorem or_u64 (v : Nat) (b : UInt8) (hv : v < 72057594037927936) : Go.bits .or .u64 ((v : Int) * 256) (b.toNat : Int) = ((256 * v + b.toNat : Nat) : Int) := by
  have hb := b.toNat_lt
  rw [bits_join .u64 64 (by decide) wraps_u64 8 _ _ (by omega) (by omega) (by omega) (by omega) (by omega) (by omega)]
  omega
theorem w64_in (n : Nat) (h : n ≤ 255) : wrap64 (n : Int) = (n : Int) := by
  unfold wrap64
  omega
set_option maxHeartbeats 4000000 in
set_option maxRecDepth 100000 in
theorem word_Get.calls (a0 : ByteArray) (a1 : Int) (r1 : Int) (r2 : Int) (r3 : Int) (w : World) (h : word_Get.f a0 a1 = some (r1, r2, r3)) :
    Calls Try.prog 63 #[.string a0, .int .i64 a1] w fun e w' => e = .returned (.tuple #[.int .i64 r1, .int .i64 r2, .int .i64 r3]) ∧ Below w.heap.size w w' := by
  unfold word_Get.f at h
  by_cases hs : a0.size ≤ 562949953421312
  case neg => rw [if_neg hs] at h; cases h
  rw [if_pos hs, Option.some.injEq] at h
  unfold getF at h
  by_cases h1 : a1 < 0
  · rw [if_pos (Or.inl h1)] at h
    cases h
    go_enter Try.func63, Try.ntmps63
    go_wp2
    refine bodyPost_ret (results_list (rs := [.tmp 4, .tmp 5, .tmp 6]) rfl (by simp) (.tmp (.tmp (.tmp .nil)))) rfl ?_
    exact ⟨rfl, Below.refl _ _⟩
  by_cases h2 : a1 > (a0.size : Int)
  · rw [if_pos (Or.inr h2)] at h
    cases h
    go_enter Try.func63, Try.ntmps63
    go_wp2
    refine bodyPost_ret (results_list (rs := [.tmp 4, .tmp 5, .tmp 6]) rfl (by simp) (.tmp (.tmp (.tmp .nil)))) rfl ?_
    exact ⟨rfl, Below.refl _ _⟩
  rw [if_neg (by omega)] at h
  obtain ⟨p, rfl⟩ := Int.eq_ofNat_of_zero_le (show 0 ≤ a1 by omega)
  by_cases h3 : p = a0.size
  · subst h3
    rw [if_pos rfl] at h
    cases h
    go_enter Try.func63, Try.ntmps63
    go_wp2
    refine bodyPost_ret (results_list (rs := [.tmp 4, .tmp 5, .tmp 6]) rfl (by simp) (.tmp (.tmp (.tmp .nil)))) rfl ?_
    exact ⟨rfl, Below.refl _ _⟩
  rw [if_neg (by omega), Int.toNat_natCast] at h
  have h3b : decide (p = a0.size) = false := by simpa using h3
  have h3c : ((p : Int) == (a0.size : Int)) = false := beq_eq_false_iff_ne.2 (by omega)
  have hp : p < a0.size := by omega
  obtain ⟨n, hn⟩ : ∃ n : Nat, bt a0 (p : Int) = (n : Int) := ⟨(bt a0 p).toNat, by have := bt_range a0 p; omega⟩
  have hx8 : ∀ h : p < a0.size, ((a0[p]'h).toNat : Int) = (n : Int) := fun h => by rw [← hn]; exact bt_nat a0 p h
  have qi8 : ((p : Int) < (a0.size : Int)) = True := eq_true (by omega)
  have q8 : (p < a0.size) = True := eq_true hp
  have n255 : (n : Int) ≤ 255 := by have := bt_range a0 p; omega
  have g1 : IntKind.i64.wrap ((p : Int) + 1) = (p : Int) + 1 := IntWalk.i64_in _ (by omega)
  have g2 : (0 ≤ (p : Int) + 1) = True := eq_true (by omega)
  have g3 : ((p : Int) + 1).toNat = p + 1 := by omega
  have g4 : ((p : Int) + 1 ≤ (a0.size : Int)) = True := eq_true (by omega)
  have g5 : wrap64 (n : Int) = (n : Int) := w64_in n (by omega)
  rw [hn] at h
  rw [Int.toNat_natCast] at h
  have HBT := Lib.hid hn
  clear hn h1 h2
  by_cases h4 : (n : Int) > 8
  · rw [if_pos h4] at h
    cases h
    go_enter Try.func63, Try.ntmps63
    go_wp2
    go_quiet (fail)
    go_wp2
    refine bodyPost_ret (results_list (rs := [.tmp 4, .tmp 5, .tmp 6]) rfl (by simp) (.tmp (.tmp (.tmp .nil)))) rfl ?_
    exact ⟨rfl, by repeat (first | exact Below.refl _ _ | apply below_drew | apply pw_below_drewN)⟩
  rw [if_neg h4] at h
  by_cases h5 : (n : Int) > (a0.size : Int) - (p : Int) - 1
  · rw [if_pos h5] at h
    cases h
    go_enter Try.func63, Try.ntmps63
    go_wp2
    go_quiet (fail)
    go_wp2
    refine bodyPost_ret (results_list (rs := [.tmp 4, .tmp 5, .tmp 6]) rfl (by simp) (.tmp (.tmp (.tmp .nil)))) rfl ?_
    exact ⟨rfl, by repeat (first | exact Below.refl _ _ | apply below_drew | apply pw_below_drewN)⟩
  rw [if_neg h5] at h
  have hsp : p + 1 + n ≤ a0.size := by omega
  have hll := wl_length a0 p n hsp
  obtain ⟨l, hl⟩ : ∃ l, l = wl a0 p n := ⟨_, rfl⟩
  rw [← hl] at h hll
  obtain ⟨tx, htx⟩ : ∃ t, t = (a0.extract (p + 1) a0.size).extract 0 n := ⟨_, rfl⟩
  have htz : tx.size = n := by
    rw [htx, ByteArray.size_extract, ByteArray.size_extract]
    omega
  have HBY : Hid (bytesOf tx = l.map fun b => (b.toNat : Int)) := by
    have e : tx.data.toList = l := by
      rw [hl, htx, ByteArray.data_extract, ByteArray.data_extract]
      unfold wl
      rw [Array.toList_extract, Array.toList_extract]
      simp only [List.extract_eq_take_drop, List.drop_zero, Nat.sub_zero]
      rw [List.take_of_length_le (l := List.drop (p + 1) a0.data.toList) (by rw [List.length_drop, data_length]; omega)]
    unfold bytesOf
    rw [e]
    exact Lib.hid rfl
  have kb : ∀ W, (convert 9 96 (.string ((a0.extract (p + 1) a0.size).extract 0 n))).run Try.prog W = .ok (.slice (some ⟨W.heap.size, 0, none⟩) n (grownCap W n 0 5)) (Lib.bytesWorld W 5 tx) := by
    intro W
    have := print_bytes (P := Try.prog) 9 96 5 Try.underlying9 Try.underlying96 Try.underlying5 tx W
    rw [htz] at this
    rw [← htx]
    exact this
  have HRD : Hid (∀ W, ReadsInt (Lib.bytesWorld W 5 tx) .u8 (some ⟨W.heap.size, 0, none⟩) n (l.map fun b => (b.toNat : Int))) := by
    refine Lib.hid (fun W => ?_)
    have := bytes_reads W 5 tx (by omega)
    rw [HBY.out, htz] at this
    exact this
  have HBL : Hid (∀ W, Below w.heap.size w W → Below w.heap.size w (Lib.bytesWorld W 5 tx)) := Lib.hid (fun W hb => bytes_below hb hb.size 5 tx)
  clear htx htz
  have HLL := Lib.hid hll
  have HH := Lib.hid h
  clear hll h hl
  have hsp' : (p : Int) + 1 + (n : Int) ≤ (a0.size : Int) := by omega
  go_enter Try.func63, Try.ntmps63
  go_wp2
  go_quiet (fail)
  go_wp2
  have hbw := HBL.out _ (pw_below_drewN (Below.refl _ w) nq)
  have HC : Hid (∀ k b, l[k]? = some b → (Lib.bytesWorld (w.drewN nq) 5 tx).cell? ⟨w.heap.size, k, none⟩ = some (.int .u8 (b.toNat : Int))) := by
    refine Lib.hid (fun k b hb => ?_)
    have hk : k < n := by rw [← HLL.out]; exact (List.getElem?_eq_some_iff.1 hb).1
    obtain ⟨ad, ha, hc⟩ := (HRD.out (w.drewN nq)).at_ (k : Int) (by omega) (by omega)
    cases ha
    rw [Int.toNat_natCast, add_plain] at hc
    have e : rd (l.map fun b => (b.toNat : Int)) (k : Int) = (b.toNat : Int) := by simp [rd, List.getD_eq_getElem?_getD, hb]
    rw [e] at hc
    simpa using hc
  clear HRD HBL kb HBY HBT
  generalize Lib.bytesWorld (w.drewN nq) 5 tx = W at *
  go_loop [9, 47] (fun x i => ∃ k : Nat, k ≤ n ∧ i = .int .i64 (k : Int) ∧ x = .int .u64 ((valW (l.take k) : Nat) : Int)) (fun _ i => n - (intOf i).toNat)
  case atStart => exact ⟨0, Nat.zero_le _, rfl, rfl⟩
  case round =>
    obtain ⟨k, hk, rfl, rfl⟩ := hrel
    by_cases hkn : k < n
    · obtain ⟨b, hb⟩ : ∃ b, l[k]? = some b := ⟨_, List.getElem?_eq_getElem (by have := HLL.out; omega)⟩
      have hcell := HC.out k b hb
      have hvt := val_take l k b hb
      have hlt : valW (l.take k) < 72057594037927936 := by
        have h1 := valW_lt (l.take k)
        have h2 : (l.take k).length ≤ 7 := by rw [List.length_take]; omega
        have h3 : 256 ^ (l.take k).length ≤ 256 ^ 7 := Nat.pow_le_pow_right (by decide) h2
        omega
      generalize valW (l.take k) = v at *
      have HVT := Lib.hid hvt
      have hlt' : (v : Int) ≤ 72057594037927935 := by omega
      clear hvt hlt hb
      go_wp2
      go_round
      case rel => exact ⟨k + 1, by omega, by go_num, by rw [HVT.out, wraps_u64 (b.toNat : Int) (by omega) (by have := b.toNat_lt; omega), or_u64 v b (by omega)]⟩
      case measure => simp [intOf]; omega
    · have ht : l.take k = l := List.take_of_length_le (by have := HLL.out; omega)
      have hlt : valW l < 18446744073709551616 := by
        have h1 := valW_lt l
        have h2 : l.length ≤ 8 := by have := HLL.out; omega
        have h3 : 256 ^ l.length ≤ 256 ^ 8 := Nat.pow_le_pow_right (by decide) h2
        omega
      rw [ht]
      clear ht
      generalize valW l = v at *
      have HLT := Lib.hid hlt
      clear hlt
      by_cases hM : v > 4611686018427387904
      · have HR : r1 = 0 ∧ r2 = 0 ∧ r3 = 300 := by
          have := HH.out
          rw [if_pos (Or.inl hM)] at this
          cases this; exact ⟨rfl, rfl, rfl⟩
        obtain ⟨rfl, rfl, rfl⟩ := HR
        have hMb : decide (4611686018427387904 < v) = true := by simpa using hM
        have hMi : decide ((4611686018427387904 : Int) < (v : Int)) = true := by simp; omega
        go_wp2
        refine bodyPost_ret (results_list (rs := [.tmp 4, .tmp 5, .tmp 6]) rfl (by simp) (.tmp (.tmp (.tmp .nil)))) rfl ?_
        exact ⟨rfl, hbw⟩
      · have hMi : decide ((4611686018427387904 : Int) < (v : Int)) = false := by simp; omega
        have hMb : decide (4611686018427387904 < v) = false := by simpa using hM
        have hv63 : (v : Int) ≤ 4611686018427387904 := by omega
        go_wp2_with fail
        refine (size_at v _ (by omega)).mono ?_
        rintro e w' ⟨rfl, rfl⟩
        obtain ⟨z, hz⟩ : ∃ z, z = szW v := ⟨_, rfl⟩
        rw [← hz]
        by_cases hzn : z = n
        · have HR : Hid (r1 = (v : Int) ∧ r2 = (p : Int) + 1 + (n : Int) ∧ r3 = 0) := by
            have := HH.out
            rw [if_neg (fun h => h.elim hM (fun h => h (hz ▸ hzn)))] at this
            cases this
            exact Lib.hid ⟨rfl, rfl, rfl⟩
          subst hzn
          clear hz
          go_wp2
          refine bodyPost_ret (results_list (rs := [.tmp 4, .tmp 5, .tmp 6]) rfl (by simp) (.tmp (.tmp (.tmp .nil)))) rfl ?_
          obtain ⟨rfl, rfl, rfl⟩ := HR.out
          exact ⟨rfl, hbw⟩
        · have HR : r1 = 0 ∧ r2 = 0 ∧ r3 = 300 := by
            have := HH.out
            rw [if_pos (Or.inr (fun h => hzn (hz.trans h)))] at this
            cases this; exact ⟨rfl, rfl, rfl⟩
          obtain ⟨rfl, rfl, rfl⟩ := HR
          have hzb : ((z : Int) != (n : Int)) = true := by rw [bne_iff_ne]; omega
          clear hz
          go_wp2
          refine bodyPost_ret (results_list (rs := [.tmp 4, .tmp 5, .tmp 6]) rfl (by simp) (.tmp (.tmp (.tmp .nil)))) rfl ?_
          exact ⟨rfl, hbw⟩
end Go.Proofs.Yteikgpdjfhdneaa.Man
