/- The law ProfileBuilds: its call answers true. -/
import Derived.Test.YtbacdpagpdmkoaaProfPe
set_option linter.unusedVariables false
set_option linter.unusedSimpArgs false
namespace Go.Proofs.Ytbacdpagpdmkoaa.Man
open Go.RowKit Go.Proofs.Ytbacdpagpdmkoaa.QT Go.Proofs.YtbacdpagpdmkoaaW.PrintWords Go.Proofs.YtbacdpagpdmkoaaW.PrintLast Go.Proofs.YtbacdpagpdmkoaaW.PrintMore

set_option maxHeartbeats 16000000 in
set_option maxRecDepth 100000 in
theorem builds_true (A : Option Addr) (c : Nat) (ws : List Wt) (w : World) (hr : Kd.C k73 w A ws.length ws) (hc : ws.length ≤ c) (hl : ws.length * 24 ≤ 140737488355328) :
    Calls Try.prog 8 #[.slice A ws.length c] w fun e w' => e = .returned (.bool true) ∧ Below w.heap.size w w' := by
  have HB0 := Lib.hid (Below.refl w.heap.size w)
  obtain ⟨F, hF⟩ : ∃ F, rbuildR ws 4096 = F := ⟨_, rfl⟩
  have HL : Hid (F.1.length ≤ 4096) := Lib.hid (by rw [← hF]; exact rbuild_len ws 4096)
  have HF := Lib.hid hF
  have HA0 := Lib.hid hr
  clear hF hr
  go_enter Try.func8, Try.ntmps8
  have HCALL := Lib.hid (copyW_is A c ws w HA0.out hl)
  go_wp2_with fail
  refine HCALL.out.mono ?_
  rintro e w1 ⟨v, rfl, ho, hb⟩
  have HB1 := Lib.hid (below_then HB0.out HB0.out.size hb)
  have HA1 := Lib.hid (Kd.C_below HA0.out hb)
  obtain ⟨Ax, cx, rfl, hcx, hCx⟩ := Kd.R_reads ho
  have HY1 := Lib.hid hCx
  have HCX := Lib.hid hcx
  clear ho hCx hcx
  clear HCALL
  try clear hb
  have HD1 := Lib.hid (Below.refl w1.heap.size w1)
  have HCALL := Lib.hid (build_is Ax cx ws w1 (Kd.C_below HY1.out HD1.out) HCX.out (by omega))
  go_wp2_with fail
  refine HCALL.out.mono ?_
  rintro e w2 ⟨v, rfl, hres, hb⟩
  have HB2 := Lib.hid (below_then HB1.out HB1.out.size hb)
  have HD2 := Lib.hid (below_then HD1.out HD1.out.size hb)
  rw [build_rbuild, HF.out] at hres ⊢
  obtain ⟨Aa, rfl, _⟩ := hres.reads
  have HRa2 := Lib.hid hres
  clear hres
  clear HCALL
  try clear hb
  have HCALL := Lib.hid (rbuild_is A c ws 4096 rfl w2 (Kd.C_below HA1.out HD2.out) hc (by omega))
  go_wp2_with fail
  refine HCALL.out.mono ?_
  rintro e w3 ⟨v2, rfl, hro, hb⟩
  have HB3 := Lib.hid (below_then HB2.out HB2.out.size hb)
  have HD3 := Lib.hid (below_then HD2.out HD2.out.size hb)
  have HRa3 := Lib.hid (HRa2.out.below hb)
  rw [HF.out] at hro ⊢
  obtain ⟨Ab, cb, rfl, hcb, hCb⟩ := Kd.R_reads hro
  have HQ3 := Lib.hid hCb
  have HCB := Lib.hid hcb
  clear hro hcb hCb
  clear HCALL
  try clear hb
  have HCa : Hid (Kd.C k82 w3 Aa F.1.length F.1) := Lib.hid (by obtain ⟨A9, e9, hC9⟩ := HRa3.out.reads; injection e9 with e91; rw [e91]; exact hC9)
  have HCALL := Lib.hid (same_runs Aa F.1.length F.1 Ab cb F.1 w3 HCa.out (Nat.le_refl _) HQ3.out HCB.out (by have := HL.out; omega))
  go_wp2_with fail
  refine HCALL.out.mono ?_
  rintro e w4 ⟨rfl, hdr⟩
  have HB4 := Lib.hid (below_then HB3.out HB3.out.size hdr.below)
  have HD4 := Lib.hid (below_then HD3.out HD3.out.size hdr.below)
  have HRa4 := Lib.hid (HRa3.out.below hdr.below)
  clear HCALL
  try clear hb
  go_wp2_with fail
  refine (num_is F.2 w4).mono ?_
  rintro e _ ⟨rfl, rfl⟩
  have HCALL := Lib.hid (spoil_is _ w1.heap.size F.1 w4 HRa4.out (by have := HL.out; omega))
  go_wp2_with fail
  refine HCALL.out.mono ?_
  rintro e w5 ⟨rfl, hb, hg⟩
  have HB5 := Lib.hid (HB4.out.trans (hb.mono HB1.out.size))
  have HD5 := Lib.hid (HD4.out.trans hb)
  clear HCALL
  try clear hb
  have HCALL := Lib.hid (awake18 w5)
  go_wp2_with fail
  refine HCALL.out.mono ?_
  rintro e w6 ⟨rfl, hb⟩
  have HB6 := Lib.hid (below_then HB5.out HB5.out.size hb)
  have HD6 := Lib.hid (below_then HD5.out HD5.out.size hb)
  clear HCALL
  try clear hb
  have HCALL := Lib.hid (same_weights Ax cx ws A c ws w6 (Kd.C_below HY1.out HD6.out) HCX.out (Kd.C_below HA1.out HD6.out) hc (by omega))
  go_wp2_with fail
  refine HCALL.out.mono ?_
  rintro e w7 ⟨rfl, hdr⟩
  have HB7 := Lib.hid (below_then HB6.out HB6.out.size hdr.below)
  have HD7 := Lib.hid (below_then HD6.out HD6.out.size hdr.below)
  clear HCALL
  try clear hb
  go_wp2
  exact bodyPost_ret (v := .bool true) (by simp [results, Try.results8, go_sem]) rfl ⟨rfl, HB7.out⟩
def tollbarlaw18_ProfileBuilds.f (l0 : List Wt) : Option Bool := if l0.length * 24 ≤ 140737488355328 then some true else none
theorem tollbarlaw18_ProfileBuilds.calls (A0 : Option Addr) (c0 : Nat) (l0 : List Wt) (r1 : Bool) (w : World) (hr0 : Kd.C k73 w A0 l0.length l0) (hc0 : l0.length ≤ c0) (h : tollbarlaw18_ProfileBuilds.f l0 = some r1) :
    Calls Try.prog 8 #[.slice A0 l0.length c0] w fun e w' => e = .returned (.bool r1) ∧ Below w.heap.size w w' := by
  unfold tollbarlaw18_ProfileBuilds.f at h
  by_cases hl : l0.length * 24 ≤ 140737488355328
  case neg => rw [if_neg hl] at h; cases h
  rw [if_pos hl] at h
  cases h
  exact builds_true A0 c0 l0 w hr0 hc0 hl
end Go.Proofs.Ytbacdpagpdmkoaa.Man
namespace Go.Proofs.Ytbacdpagpdmkoaa.Pure
open Go.RowKit Go.Proofs.Ytbacdpagpdmkoaa.QT Go.Proofs.Ytbacdpagpdmkoaa.Man
theorem ProfileBuilds {P0 : Wt → Prop} (x0 : List Wt) (h0 : (∀ x ∈ x0, P0 x) ∧ x0.length * 24 ≤ 140737488351232) : tollbarlaw18_ProfileBuilds.f x0 = some true := if_pos (by have := h0.2; omega)
end Go.Proofs.Ytbacdpagpdmkoaa.Pure
