/- The law ProfileBack: its call answers true. -/
import Derived.Test.YtbacdpagpdmkoaaProfPh
set_option linter.unusedVariables false
set_option linter.unusedSimpArgs false
namespace Go.Proofs.Ytbacdpagpdmkoaa.Man
open Go.RowKit Go.Proofs.Ytbacdpagpdmkoaa.QT Go.Proofs.YtbacdpagpdmkoaaW.PrintWords Go.Proofs.YtbacdpagpdmkoaaW.PrintLast Go.Proofs.YtbacdpagpdmkoaaW.PrintMore

set_option maxHeartbeats 16000000 in
set_option maxRecDepth 100000 in
theorem back_true (A : Option Addr) (c : Nat) (rs : List Rn) (a b l : Int) (w : World) (hr : Kd.C k82 w A rs.length rs) (hc : rs.length ≤ c) (hl : rs.length ≤ 281474976710656) :
    Calls Try.prog 10 #[.slice A rs.length c, .agg #[.int .i64 a, .int .i64 b, .int .i64 l]] w fun e w' => e = .returned (.bool true) ∧ Below w.heap.size w w' := by
  have HR := Lib.hid hr
  have HB0 := Lib.hid ((Below.refl w.heap.size w).alloc (Nat.le_refl _) (.cells #[.int .i64 a, .int .i64 b, .int .i64 l] 73))
  have HX0 : Hid (Box (w.alloc (.cells #[.int .i64 a, .int .i64 b, .int .i64 l] 73)) w.heap.size a b l) := Lib.hid (blk_new w _)
  have HA0 := Lib.hid (Kd.C_below HR.out HB0.out)
  clear hr
  obtain ⟨F, hF⟩ : ∃ F, turnR rs a b l 1801 (addT l) = F := ⟨_, rfl⟩
  have HLF : Hid (F.1.length ≤ 281474976710656) := Lib.hid (by have := rchange_len rs a b l true 4096; rw [← add_rchange, hF] at this; omega)
  have HTF : Hid (F.2 = 0 → turnR F.1 a b l 1802 (takeT l) = (rs, 0)) := Lib.hid (fun h0 => by have := add_back rs a b l (by rw [hF]; exact h0); rwa [hF] at this)
  have HF := Lib.hid hF
  clear hF
  obtain ⟨G, hG⟩ : ∃ F, turnR rs a b l 1802 (takeT l) = F := ⟨_, rfl⟩
  have HLG : Hid (G.1.length ≤ 281474976710656) := Lib.hid (by have := rchange_len rs a b l false 4096; rw [← take_rchange, hG] at this; omega)
  have HTG : Hid (G.2 = 0 → turnR G.1 a b l 1801 (addT l) = (rs, 0)) := Lib.hid (fun h0 => by have := take_back rs a b l (by rw [hG]; exact h0); rwa [hG] at this)
  have HG := Lib.hid hG
  clear hG
  go_enter Try.func10, Try.ntmps10
  have c0 := blk_cell HX0.out 0
  have c1 := blk_cell HX0.out 1
  have c2 := blk_cell HX0.out 2
  simp at c0 c1 c2
  have HCALL := Lib.hid (padd_is A c rs a b l (w.alloc (.cells #[.int .i64 a, .int .i64 b, .int .i64 l] 73)) HA0.out hc hl)
  go_wp2_with fail
  refine HCALL.out.mono ?_
  rintro e w1 ⟨v, rfl, hres, hb⟩
  have HB1 := Lib.hid (below_then HB0.out HB0.out.size hb)
  have HA1 := Lib.hid (Kd.C_below HA0.out hb)
  have HX1 := Lib.hid (blk_below HX0.out hb)
  rw [HF.out] at hres ⊢
  obtain ⟨Aa, rfl, hCa⟩ := hres.reads
  have HQ1 := Lib.hid hCa
  clear hres hCa
  clear HCALL
  try clear hb
  clear c0 c1 c2
  go_wp2_with fail
  refine (num_is F.2 w1).mono ?_
  rintro e _ ⟨rfl, rfl⟩
  by_cases hf0 : F.2 = 0
  · have hfe : (F.2 == 0) = true := by simpa using hf0
    have HT1 : Hid ((turnR F.1 a b l 1802 (takeT l)).1 = rs) := Lib.hid (by rw [HTF.out hf0])
    have HT2 : Hid ((turnR F.1 a b l 1802 (takeT l)).2 = 0) := Lib.hid (by rw [HTF.out hf0])
    clear hf0
    have c0 := blk_cell HX1.out 0
    have c1 := blk_cell HX1.out 1
    have c2 := blk_cell HX1.out 2
    simp at c0 c1 c2
    have HCALL := Lib.hid (ptake_is Aa F.1.length F.1 a b l w1 HQ1.out (Nat.le_refl _) HLF.out)
    go_wp2_with fail
    refine HCALL.out.mono ?_
    rintro e w2 ⟨v, rfl, hres, hb⟩
    have HB2 := Lib.hid (below_then HB1.out HB1.out.size hb)
    have HA2 := Lib.hid (Kd.C_below HA1.out hb)
    have HQ2 := Lib.hid (Kd.C_below HQ1.out hb)
    have HX2 := Lib.hid (blk_below HX1.out hb)
    rw [HT1.out] at hres
    rw [HT2.out]
    obtain ⟨Ab, rfl, hCb⟩ := hres.reads
    have HP2 := Lib.hid hCb
    clear hres hCb
    clear HCALL
    try clear hb
    clear c0 c1 c2
    go_wp2_with fail
    refine (num_is 0 w2).mono ?_
    rintro e _ ⟨rfl, rfl⟩
    have HCALL := Lib.hid (same_runs Ab rs.length rs A c rs w2 HP2.out (Nat.le_refl _) HA2.out hc hl)
    go_wp2_with fail
    refine HCALL.out.mono ?_
    rintro e w3 ⟨rfl, hdr⟩
    have HB3 := Lib.hid (below_then HB2.out HB2.out.size hdr.below)
    have HA3 := Lib.hid (Kd.C_below HA2.out hdr.below)
    have HP3 := Lib.hid (Kd.C_below HP2.out hdr.below)
    have HX3 := Lib.hid (blk_below HX2.out hdr.below)
    clear HCALL
    try clear hb
    have c0 := blk_cell HX3.out 0
    have c1 := blk_cell HX3.out 1
    have c2 := blk_cell HX3.out 2
    simp at c0 c1 c2
    have HCALL := Lib.hid (ptake_is A c rs a b l w3 HA3.out hc hl)
    go_wp2_with fail
    refine HCALL.out.mono ?_
    rintro e w4 ⟨v, rfl, hres, hb⟩
    have HB4 := Lib.hid (below_then HB3.out HB3.out.size hb)
    have HA4 := Lib.hid (Kd.C_below HA3.out hb)
    have HX4 := Lib.hid (blk_below HX3.out hb)
    rw [HG.out] at hres ⊢
    obtain ⟨Ac, rfl, hCc⟩ := hres.reads
    have HS4 := Lib.hid hCc
    clear hres hCc
    clear HCALL
    try clear hb
    clear c0 c1 c2
    go_wp2_with fail
    refine (num_is G.2 w4).mono ?_
    rintro e _ ⟨rfl, rfl⟩
    by_cases hg0 : G.2 = 0
    · have hge : (G.2 == 0) = true := by simpa using hg0
      have HU1 : Hid ((turnR G.1 a b l 1801 (addT l)).1 = rs) := Lib.hid (by rw [HTG.out hg0])
      have HU2 : Hid ((turnR G.1 a b l 1801 (addT l)).2 = 0) := Lib.hid (by rw [HTG.out hg0])
      clear hg0
      have c0 := blk_cell HX4.out 0
      have c1 := blk_cell HX4.out 1
      have c2 := blk_cell HX4.out 2
      simp at c0 c1 c2
      have HCALL := Lib.hid (padd_is Ac G.1.length G.1 a b l w4 HS4.out (Nat.le_refl _) HLG.out)
      go_wp2_with fail
      refine HCALL.out.mono ?_
      rintro e w5 ⟨v, rfl, hres, hb⟩
      have HB5 := Lib.hid (below_then HB4.out HB4.out.size hb)
      have HA5 := Lib.hid (Kd.C_below HA4.out hb)
      have HS5 := Lib.hid (Kd.C_below HS4.out hb)
      have HX5 := Lib.hid (blk_below HX4.out hb)
      rw [HU1.out] at hres
      rw [HU2.out]
      obtain ⟨Ad, rfl, hCd⟩ := hres.reads
      have HV5 := Lib.hid hCd
      clear hres hCd
      clear HCALL
      try clear hb
      clear c0 c1 c2
      go_wp2_with fail
      refine (num_is 0 w5).mono ?_
      rintro e _ ⟨rfl, rfl⟩
      have HCALL := Lib.hid (same_runs Ad rs.length rs A c rs w5 HV5.out (Nat.le_refl _) HA5.out hc hl)
      go_wp2_with fail
      refine HCALL.out.mono ?_
      rintro e w6 ⟨rfl, hdr⟩
      have HB6 := Lib.hid (below_then HB5.out HB5.out.size hdr.below)
      have HA6 := Lib.hid (Kd.C_below HA5.out hdr.below)
      have HV6 := Lib.hid (Kd.C_below HV5.out hdr.below)
      have HX6 := Lib.hid (blk_below HX5.out hdr.below)
      clear HCALL
      try clear hb
      have HCALL := Lib.hid (awake18 w6)
      go_wp2_with fail
      refine HCALL.out.mono ?_
      rintro e w7 ⟨rfl, hb⟩
      have HB7 := Lib.hid (below_then HB6.out HB6.out.size hb)
      clear HCALL
      try clear hb
      go_wp2
      exact bodyPost_ret (v := .bool true) (by simp [results, Try.results10, go_sem]) rfl ⟨rfl, HB7.out⟩
    · have hge : (G.2 == 0) = false := by simpa using hg0
      clear hg0
      have HCALL := Lib.hid (awake18 w4)
      go_wp2_with fail
      refine HCALL.out.mono ?_
      rintro e w5 ⟨rfl, hb⟩
      have HB5 := Lib.hid (below_then HB4.out HB4.out.size hb)
      clear HCALL
      try clear hb
      go_wp2
      exact bodyPost_ret (v := .bool true) (by simp [results, Try.results10, go_sem]) rfl ⟨rfl, HB5.out⟩
  · have hfe : (F.2 == 0) = false := by simpa using hf0
    clear hf0
    have c0 := blk_cell HX1.out 0
    have c1 := blk_cell HX1.out 1
    have c2 := blk_cell HX1.out 2
    simp at c0 c1 c2
    have HCALL := Lib.hid (ptake_is A c rs a b l w1 HA1.out hc hl)
    go_wp2_with fail
    refine HCALL.out.mono ?_
    rintro e w2 ⟨v, rfl, hres, hb⟩
    have HB2 := Lib.hid (below_then HB1.out HB1.out.size hb)
    have HA2 := Lib.hid (Kd.C_below HA1.out hb)
    have HX2 := Lib.hid (blk_below HX1.out hb)
    rw [HG.out] at hres ⊢
    obtain ⟨Ac, rfl, hCc⟩ := hres.reads
    have HS2 := Lib.hid hCc
    clear hres hCc
    clear HCALL
    try clear hb
    clear c0 c1 c2
    go_wp2_with fail
    refine (num_is G.2 w2).mono ?_
    rintro e _ ⟨rfl, rfl⟩
    by_cases hg0 : G.2 = 0
    · have hge : (G.2 == 0) = true := by simpa using hg0
      have HU1 : Hid ((turnR G.1 a b l 1801 (addT l)).1 = rs) := Lib.hid (by rw [HTG.out hg0])
      have HU2 : Hid ((turnR G.1 a b l 1801 (addT l)).2 = 0) := Lib.hid (by rw [HTG.out hg0])
      clear hg0
      have c0 := blk_cell HX2.out 0
      have c1 := blk_cell HX2.out 1
      have c2 := blk_cell HX2.out 2
      simp at c0 c1 c2
      have HCALL := Lib.hid (padd_is Ac G.1.length G.1 a b l w2 HS2.out (Nat.le_refl _) HLG.out)
      go_wp2_with fail
      refine HCALL.out.mono ?_
      rintro e w3 ⟨v, rfl, hres, hb⟩
      have HB3 := Lib.hid (below_then HB2.out HB2.out.size hb)
      have HA3 := Lib.hid (Kd.C_below HA2.out hb)
      have HS3 := Lib.hid (Kd.C_below HS2.out hb)
      have HX3 := Lib.hid (blk_below HX2.out hb)
      rw [HU1.out] at hres
      rw [HU2.out]
      obtain ⟨Ad, rfl, hCd⟩ := hres.reads
      have HV3 := Lib.hid hCd
      clear hres hCd
      clear HCALL
      try clear hb
      clear c0 c1 c2
      go_wp2_with fail
      refine (num_is 0 w3).mono ?_
      rintro e _ ⟨rfl, rfl⟩
      have HCALL := Lib.hid (same_runs Ad rs.length rs A c rs w3 HV3.out (Nat.le_refl _) HA3.out hc hl)
      go_wp2_with fail
      refine HCALL.out.mono ?_
      rintro e w4 ⟨rfl, hdr⟩
      have HB4 := Lib.hid (below_then HB3.out HB3.out.size hdr.below)
      have HA4 := Lib.hid (Kd.C_below HA3.out hdr.below)
      have HV4 := Lib.hid (Kd.C_below HV3.out hdr.below)
      have HX4 := Lib.hid (blk_below HX3.out hdr.below)
      clear HCALL
      try clear hb
      have HCALL := Lib.hid (awake18 w4)
      go_wp2_with fail
      refine HCALL.out.mono ?_
      rintro e w5 ⟨rfl, hb⟩
      have HB5 := Lib.hid (below_then HB4.out HB4.out.size hb)
      clear HCALL
      try clear hb
      go_wp2
      exact bodyPost_ret (v := .bool true) (by simp [results, Try.results10, go_sem]) rfl ⟨rfl, HB5.out⟩
    · have hge : (G.2 == 0) = false := by simpa using hg0
      clear hg0
      have HCALL := Lib.hid (awake18 w2)
      go_wp2_with fail
      refine HCALL.out.mono ?_
      rintro e w3 ⟨rfl, hb⟩
      have HB3 := Lib.hid (below_then HB2.out HB2.out.size hb)
      clear HCALL
      try clear hb
      go_wp2
      exact bodyPost_ret (v := .bool true) (by simp [results, Try.results10, go_sem]) rfl ⟨rfl, HB3.out⟩
def tollbarlaw18_ProfileBack.f (l0 : List Rn) (a1_0 a1_1 a1_2 : Int) : Option Bool := if l0.length ≤ 281474976710656 then some true else none
theorem tollbarlaw18_ProfileBack.calls (A0 : Option Addr) (c0 : Nat) (l0 : List Rn) (a1_0 a1_1 a1_2 : Int) (r1 : Bool) (w : World) (hr0 : Kd.C k82 w A0 l0.length l0) (hc0 : l0.length ≤ c0) (h : tollbarlaw18_ProfileBack.f l0 a1_0 a1_1 a1_2 = some r1) :
    Calls Try.prog 10 #[.slice A0 l0.length c0, .agg #[.int .i64 a1_0, .int .i64 a1_1, .int .i64 a1_2]] w fun e w' => e = .returned (.bool r1) ∧ Below w.heap.size w w' := by
  unfold tollbarlaw18_ProfileBack.f at h
  by_cases hl : l0.length ≤ 281474976710656
  case neg => rw [if_neg hl] at h; cases h
  rw [if_pos hl] at h
  cases h
  exact back_true A0 c0 l0 a1_0 a1_1 a1_2 w hr0 hc0 hl
end Go.Proofs.Ytbacdpagpdmkoaa.Man
namespace Go.Proofs.Ytbacdpagpdmkoaa.Pure
open Go.RowKit Go.Proofs.Ytbacdpagpdmkoaa.QT Go.Proofs.Ytbacdpagpdmkoaa.Man
theorem ProfileBack {P0 : Rn → Prop} (x0 : List Rn) (h0 : (∀ x ∈ x0, P0 x) ∧ x0.length * 16 ≤ 140737488351232) (x1 : S73) {p1 : Prop} (h1 : p1) : tollbarlaw18_ProfileBack.f x0 x1.f0.f0 x1.f0.f1 x1.f1 = some true := if_pos (by have := h0.2; omega)
end Go.Proofs.Ytbacdpagpdmkoaa.Pure
