/- The law ProfileTops: its call answers true. -/
import Derived.Test.YtbacdpagpdmkoaaProfPh
set_option linter.unusedVariables false
set_option linter.unusedSimpArgs false
namespace Go.Proofs.Ytbacdpagpdmkoaa.Man
open Go.RowKit Go.Proofs.Ytbacdpagpdmkoaa.QT Go.Proofs.YtbacdpagpdmkoaaW.PrintWords Go.Proofs.YtbacdpagpdmkoaaW.PrintLast Go.Proofs.YtbacdpagpdmkoaaW.PrintMore

set_option maxHeartbeats 16000000 in
set_option maxRecDepth 100000 in
theorem tops_true (A : Option Addr) (c : Nat) (rs : List Rn) (a b t : Int) (w : World) (hr : Kd.C k82 w A rs.length rs) (hc : rs.length ≤ c) (hl : rs.length ≤ 281474976710656) :
    Calls Try.prog 12 #[.slice A rs.length c, .agg #[.int .i64 a, .int .i64 b], .int .i64 t] w fun e w' => e = .returned (.bool true) ∧ Below w.heap.size w w' := by
  have HR := Lib.hid hr
  have HB0 := Lib.hid ((Below.refl w.heap.size w).alloc (Nat.le_refl _) (.cells #[.int .i64 a, .int .i64 b] 23))
  have HX0 := Lib.hid (blk_new w (.cells #[.int .i64 a, .int .i64 b] 23 (0, 0)))
  have HA0 := Lib.hid (Kd.C_below HR.out HB0.out)
  clear hr
  have HTP := Lib.hid (tops rs a b t)
  obtain ⟨F, hF⟩ : ∃ F, mostF rs a b = F := ⟨_, rfl⟩
  rw [hF] at HTP
  have HF := Lib.hid hF
  clear hF
  go_enter Try.func12, Try.ntmps12
  have c0 := blk_cell HX0.out 0
  have c1 := blk_cell HX0.out 1
  simp at c0 c1
  have HCALL := Lib.hid (most_is A c rs a b (w.alloc (.cells #[.int .i64 a, .int .i64 b] 23)) HA0.out hc hl)
  go_wp2_with fail
  refine HCALL.out.mono ?_
  rintro e w1 ⟨rfl, hb⟩
  have HB1 := Lib.hid (below_then HB0.out HB0.out.size hb)
  have HA1 := Lib.hid (Kd.C_below HA0.out hb)
  have HX1 := Lib.hid (blk_below HX0.out hb)
  rw [HF.out]
  clear HCALL
  try clear hb
  clear c0 c1
  go_wp2_with fail
  refine (num_is F.2.2 w1).mono ?_
  rintro e _ ⟨rfl, rfl⟩
  by_cases hf0 : F.2.2 = 0
  · have hfe : (F.2.2 != 0) = false := by simpa using hf0
    obtain ⟨hv, hhv⟩ : ∃ hv, hasF a b t = hv := ⟨_, rfl⟩
    have HHV := Lib.hid hhv
    have HF0 := Lib.hid hf0
    clear hhv hf0
    have c0 := blk_cell HX1.out 0
    have c1 := blk_cell HX1.out 1
    simp at c0 c1
    have HCALL := Lib.hid (rhas_is a b t w1)
    go_wp2_with fail
    refine HCALL.out.mono ?_
    rintro e w2 ⟨rfl, hb⟩
    have HB2 := Lib.hid (below_then HB1.out HB1.out.size hb)
    have HA2 := Lib.hid (Kd.C_below HA1.out hb)
    have HX2 := Lib.hid (blk_below HX1.out hb)
    rw [HHV.out]
    clear HCALL
    try clear hb
    clear c0 c1
    cases hv with
    | false =>
      go_wp2
      exact bodyPost_ret (v := .bool true) (by simp [results, Try.results12, go_sem]) rfl ⟨rfl, HB2.out⟩
    | true =>
      obtain ⟨h1, h2, h3, h4, h5⟩ := HTP.out HF0.out HHV.out
      generalize loadAt rs t = x at h1 h3 h5
      have HV1 := Lib.hid h1
      have HV2 := Lib.hid h2
      have HV4 := Lib.hid h4
      have h3d : decide (x ≤ F.1) = true := decide_eq_true h3
      clear h1 h2 h4 h3
      have HCALL := Lib.hid (at_is A c rs t w2 HA2.out hc hl)
      go_wp2_with fail
      refine HCALL.out.mono ?_
      rintro e w3 ⟨rfl, hb⟩
      have HB3 := Lib.hid (below_then HB2.out HB2.out.size hb)
      have HA3 := Lib.hid (Kd.C_below HA2.out hb)
      have HX3 := Lib.hid (blk_below HX2.out hb)
      rw [HV1.out]
      clear HCALL
      try clear hb
      have HCALL := Lib.hid (at_is A c rs F.2.1 w3 HA3.out hc hl)
      go_wp2_with fail
      refine HCALL.out.mono ?_
      rintro e w4 ⟨rfl, hb⟩
      have HB4 := Lib.hid (below_then HB3.out HB3.out.size hb)
      have HA4 := Lib.hid (Kd.C_below HA3.out hb)
      have HX4 := Lib.hid (blk_below HX3.out hb)
      rw [HV2.out]
      clear HCALL
      try clear hb
      have HCALL := Lib.hid (awake18 w4)
      go_wp2_with fail
      refine HCALL.out.mono ?_
      rintro e w5 ⟨rfl, hb⟩
      have HB5 := Lib.hid (below_then HB4.out HB4.out.size hb)
      have HX5 := Lib.hid (blk_below HX4.out hb)
      clear HCALL
      try clear hb
      go_wp2_with fail
      refine (num_is 0 w5).mono ?_
      rintro e _ ⟨rfl, rfl⟩
      go_wp2_with fail
      refine (num_is 0 w5).mono ?_
      rintro e _ ⟨rfl, rfl⟩
      have c0 := blk_cell HX5.out 0
      have c1 := blk_cell HX5.out 1
      simp at c0 c1
      have HCALL := Lib.hid (rhas_is a b F.2.1 w5)
      go_wp2_with fail
      refine HCALL.out.mono ?_
      rintro e w6 ⟨rfl, hb⟩
      have HB6 := Lib.hid (below_then HB5.out HB5.out.size hb)
      have HX6 := Lib.hid (blk_below HX5.out hb)
      rw [HV4.out]
      clear HCALL
      try clear hb
      by_cases h6 : x < F.1
      · have h6d : decide (x < F.1) = true := decide_eq_true h6
        go_wp2
        exact bodyPost_ret (v := .bool true) (by simp [results, Try.results12, go_sem]) rfl ⟨rfl, HB6.out⟩
      · have h6d : decide (x < F.1) = false := decide_eq_false h6
        have h7d : decide (F.2.1 ≤ t) = true := decide_eq_true (h5.resolve_left h6)
        go_wp2
        exact bodyPost_ret (v := .bool true) (by simp [results, Try.results12, go_sem]) rfl ⟨rfl, HB6.out⟩
  · have hfe : (F.2.2 != 0) = true := by simpa using hf0
    clear hf0
    go_wp2
    exact bodyPost_ret (v := .bool true) (by simp [results, Try.results12, go_sem]) rfl ⟨rfl, HB1.out⟩
def tollbarlaw18_ProfileTops.f (l0 : List Rn) (a1_0 a1_1 : Int) (a2 : Int) : Option Bool := if l0.length ≤ 281474976710656 then some true else none
theorem tollbarlaw18_ProfileTops.calls (A0 : Option Addr) (c0 : Nat) (l0 : List Rn) (a1_0 a1_1 : Int) (a2 : Int) (r1 : Bool) (w : World) (hr0 : Kd.C k82 w A0 l0.length l0) (hc0 : l0.length ≤ c0) (h : tollbarlaw18_ProfileTops.f l0 a1_0 a1_1 a2 = some r1) :
    Calls Try.prog 12 #[.slice A0 l0.length c0, .agg #[.int .i64 a1_0, .int .i64 a1_1], .int .i64 a2] w fun e w' => e = .returned (.bool r1) ∧ Below w.heap.size w w' := by
  unfold tollbarlaw18_ProfileTops.f at h
  by_cases hl : l0.length ≤ 281474976710656
  case neg => rw [if_neg hl] at h; cases h
  rw [if_pos hl] at h
  cases h
  exact tops_true A0 c0 l0 a1_0 a1_1 a2 w hr0 hc0 hl
end Go.Proofs.Ytbacdpagpdmkoaa.Man
namespace Go.Proofs.Ytbacdpagpdmkoaa.Pure
open Go.RowKit Go.Proofs.Ytbacdpagpdmkoaa.QT Go.Proofs.Ytbacdpagpdmkoaa.Man
theorem ProfileTops {P0 : Rn → Prop} (x0 : List Rn) (h0 : (∀ x ∈ x0, P0 x) ∧ x0.length * 16 ≤ 140737488351232) (x1 : S23) {p1 : Prop} (h1 : p1) (x2 : Int) {p2 : Prop} (h2 : p2) : tollbarlaw18_ProfileTops.f x0 x1.f0 x1.f1 x2 = some true := if_pos (by have := h0.2; omega)
end Go.Proofs.Ytbacdpagpdmkoaa.Pure
