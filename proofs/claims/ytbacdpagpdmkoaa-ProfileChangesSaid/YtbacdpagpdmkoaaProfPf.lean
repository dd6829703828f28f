/- The law ProfileChanges: its call answers true. -/
import Derived.Test.YtbacdpagpdmkoaaProfPe
set_option linter.unusedVariables false
set_option linter.unusedSimpArgs false
namespace Go.Proofs.Ytbacdpagpdmkoaa.Man
open Go.RowKit Go.Proofs.Ytbacdpagpdmkoaa.QT Go.Proofs.YtbacdpagpdmkoaaW.PrintWords Go.Proofs.YtbacdpagpdmkoaaW.PrintLast Go.Proofs.YtbacdpagpdmkoaaW.PrintMore

set_option maxHeartbeats 16000000 in
set_option maxRecDepth 100000 in
theorem changes_true (A : Option Addr) (c : Nat) (rs : List Rn) (a b l : Int) (w : World) (hr : Kd.C k82 w A rs.length rs) (hc : rs.length ≤ c) (hl : rs.length * 16 ≤ 140737488355328) :
    Calls Try.prog 9 #[.slice A rs.length c, .agg #[.int .i64 a, .int .i64 b, .int .i64 l]] w fun e w' => e = .returned (.bool true) ∧ Below w.heap.size w w' := by
  have HR := Lib.hid hr
  have HB0 := Lib.hid ((Below.refl w.heap.size w).alloc (Nat.le_refl _) (.cells #[.int .i64 a, .int .i64 b, .int .i64 l] 73))
  have HX0 : Hid (Box (w.alloc (.cells #[.int .i64 a, .int .i64 b, .int .i64 l] 73)) w.heap.size a b l) := Lib.hid (blk_new w _)
  have HA0 := Lib.hid (Kd.C_below HR.out HB0.out)
  clear hr
  obtain ⟨F, hF⟩ : ∃ F, rchangeR rs a b l true 4096 = F := ⟨_, rfl⟩
  have HLF : Hid (F.1.length ≤ 4096) := Lib.hid (by rw [← hF]; exact rchange_len rs a b l true 4096)
  have HF := Lib.hid hF
  clear hF
  obtain ⟨G, hG⟩ : ∃ F, rchangeR rs a b l false 4096 = F := ⟨_, rfl⟩
  have HLG : Hid (G.1.length ≤ 4096) := Lib.hid (by rw [← hG]; exact rchange_len rs a b l false 4096)
  have HG := Lib.hid hG
  clear hG
  go_enter Try.func9, Try.ntmps9
  have HCALL := Lib.hid (copyR_is A c rs (w.alloc (.cells #[.int .i64 a, .int .i64 b, .int .i64 l] 73)) HA0.out hl)
  go_wp2_with fail
  refine HCALL.out.mono ?_
  rintro e w1 ⟨v, rfl, ho, hb⟩
  have HB1 := Lib.hid (below_then HB0.out HB0.out.size hb)
  have HA1 := Lib.hid (Kd.C_below HA0.out hb)
  have HX1 := Lib.hid (blk_below HX0.out hb)
  obtain ⟨Ax, cx, rfl, hcx, hCx⟩ := Kd.R_reads ho
  have HY1 := Lib.hid hCx
  have HCX := Lib.hid hcx
  clear ho hCx hcx
  clear HCALL
  try clear hb
  have HD1 := Lib.hid (Below.refl w1.heap.size w1)
  have c0 := blk_cell HX1.out 0
  have c1 := blk_cell HX1.out 1
  have c2 := blk_cell HX1.out 2
  simp at c0 c1 c2
  have HCALL := Lib.hid (padd_is Ax cx rs a b l w1 (Kd.C_below HY1.out HD1.out) HCX.out (by omega))
  go_wp2_with fail
  refine HCALL.out.mono ?_
  rintro e w2 ⟨v, rfl, hres, hb⟩
  have HB2 := Lib.hid (below_then HB1.out HB1.out.size hb)
  have HD2 := Lib.hid (below_then HD1.out HD1.out.size hb)
  have HX2 := Lib.hid (blk_below HX1.out hb)
  rw [add_rchange, HF.out] at hres ⊢
  obtain ⟨Aa, rfl, _⟩ := hres.reads
  have HRa2 := Lib.hid hres
  clear hres
  clear HCALL
  try clear hb
  clear c0 c1 c2
  have c0 := blk_cell HX2.out 0
  have c1 := blk_cell HX2.out 1
  have c2 := blk_cell HX2.out 2
  simp at c0 c1 c2
  have HCALL := Lib.hid (rchange_is A c rs a b l true 4096 rfl w2 (Kd.C_below HA1.out HD2.out) hc (by omega))
  go_wp2_with fail
  refine HCALL.out.mono ?_
  rintro e w3 ⟨v2, rfl, hro, hb⟩
  have HB3 := Lib.hid (below_then HB2.out HB2.out.size hb)
  have HD3 := Lib.hid (below_then HD2.out HD2.out.size hb)
  have HX3 := Lib.hid (blk_below HX2.out hb)
  have HRa3 := Lib.hid (HRa2.out.below hb)
  rw [HF.out] at hro ⊢
  obtain ⟨Ab, cb, rfl, hcb, hCb⟩ := Kd.R_reads hro
  have HQ3 := Lib.hid hCb
  have HCB := Lib.hid hcb
  clear hro hcb hCb
  clear HCALL
  try clear hb
  clear c0 c1 c2
  have c0 := blk_cell HX3.out 0
  have c1 := blk_cell HX3.out 1
  have c2 := blk_cell HX3.out 2
  simp at c0 c1 c2
  have HKa := Lib.hid HRa3.out.block
  have HCALL := Lib.hid (ptake_is Ax cx rs a b l w3 (Kd.C_below HY1.out HD3.out) HCX.out (by omega))
  go_wp2_with fail
  refine HCALL.out.mono ?_
  rintro e w4 ⟨v3, rfl, hres, hb⟩
  have HB4 := Lib.hid (below_then HB3.out HB3.out.size hb)
  have HD4 := Lib.hid (below_then HD3.out HD3.out.size hb)
  have HQ4 := Lib.hid (Kd.C_below HQ3.out hb)
  have HX4 := Lib.hid (blk_below HX3.out hb)
  have HRa4 := Lib.hid (HRa3.out.below hb)
  rw [take_rchange, HG.out] at hres ⊢
  obtain ⟨Ac, rfl, _⟩ := hres.reads
  have HRc4 := Lib.hid hres
  clear hres
  clear HCALL
  try clear hb
  clear c0 c1 c2
  have c0 := blk_cell HX4.out 0
  have c1 := blk_cell HX4.out 1
  have c2 := blk_cell HX4.out 2
  simp at c0 c1 c2
  have HCALL := Lib.hid (rchange_is A c rs a b l false 4096 rfl w4 (Kd.C_below HA1.out HD4.out) hc (by omega))
  go_wp2_with fail
  refine HCALL.out.mono ?_
  rintro e w5 ⟨v4, rfl, hro, hb⟩
  have HB5 := Lib.hid (below_then HB4.out HB4.out.size hb)
  have HD5 := Lib.hid (below_then HD4.out HD4.out.size hb)
  have HQ5 := Lib.hid (Kd.C_below HQ4.out hb)
  have HX5 := Lib.hid (blk_below HX4.out hb)
  have HRa5 := Lib.hid (HRa4.out.below hb)
  have HRc5 := Lib.hid (HRc4.out.below hb)
  rw [HG.out] at hro ⊢
  obtain ⟨Ad, cd, rfl, hcd, hCd⟩ := Kd.R_reads hro
  have HQd5 := Lib.hid hCd
  have HCDD := Lib.hid hcd
  clear hro hcd hCd
  clear HCALL
  try clear hb
  clear c0 c1 c2
  have HCa : Hid (Kd.C k82 w5 Aa F.1.length F.1) := Lib.hid (by obtain ⟨A9, e9, hC9⟩ := HRa5.out.reads; injection e9 with e91; rw [e91]; exact hC9)
  have HCALL := Lib.hid (same_runs Aa F.1.length F.1 Ab cb F.1 w5 HCa.out (Nat.le_refl _) HQ5.out HCB.out (by have := HLF.out; omega))
  go_wp2_with fail
  refine HCALL.out.mono ?_
  rintro e w6 ⟨rfl, hdr⟩
  have HB6 := Lib.hid (below_then HB5.out HB5.out.size hdr.below)
  have HD6 := Lib.hid (below_then HD5.out HD5.out.size hdr.below)
  have HQ6 := Lib.hid (Kd.C_below HQ5.out hdr.below)
  have HQd6 := Lib.hid (Kd.C_below HQd5.out hdr.below)
  have HRa6 := Lib.hid (HRa5.out.below hdr.below)
  have HRc6 := Lib.hid (HRc5.out.below hdr.below)
  clear HCALL
  try clear hb
  go_wp2_with fail
  refine (num_is F.2 w6).mono ?_
  rintro e _ ⟨rfl, rfl⟩
  have HCc : Hid (Kd.C k82 w6 Ac G.1.length G.1) := Lib.hid (by obtain ⟨A9, e9, hC9⟩ := HRc6.out.reads; injection e9 with e91; rw [e91]; exact hC9)
  have HCALL := Lib.hid (same_runs Ac G.1.length G.1 Ad cd G.1 w6 HCc.out (Nat.le_refl _) HQd6.out HCDD.out (by have := HLG.out; omega))
  go_wp2_with fail
  refine HCALL.out.mono ?_
  rintro e w7 ⟨rfl, hdr⟩
  have HB7 := Lib.hid (below_then HB6.out HB6.out.size hdr.below)
  have HD7 := Lib.hid (below_then HD6.out HD6.out.size hdr.below)
  have HQ7 := Lib.hid (Kd.C_below HQ6.out hdr.below)
  have HQd7 := Lib.hid (Kd.C_below HQd6.out hdr.below)
  have HRa7 := Lib.hid (HRa6.out.below hdr.below)
  have HRc7 := Lib.hid (HRc6.out.below hdr.below)
  clear HCALL
  try clear hb
  go_wp2_with fail
  refine (num_is G.2 w7).mono ?_
  rintro e _ ⟨rfl, rfl⟩
  have HCALL := Lib.hid (spoil_is _ w1.heap.size F.1 w7 HRa7.out (by have := HLF.out; omega))
  go_wp2_with fail
  refine HCALL.out.mono ?_
  rintro e w8 ⟨rfl, hb, hg⟩
  have HB8 := Lib.hid (HB7.out.trans (hb.mono HB1.out.size))
  have HD8 := Lib.hid (HD7.out.trans hb)
  have HRc8 := Lib.hid (HRc7.out.grown hg (fun k hk => HKa.out k hk))
  clear HCALL
  try clear hb
  have HCALL := Lib.hid (spoil_is _ w3.heap.size G.1 w8 HRc8.out (by have := HLG.out; omega))
  go_wp2_with fail
  refine HCALL.out.mono ?_
  rintro e w9 ⟨rfl, hb0, hg⟩
  have hb := hb0.mono HD3.out.size
  have HB9 := Lib.hid (HB8.out.trans (hb.mono HB1.out.size))
  have HD9 := Lib.hid (HD8.out.trans hb)
  clear hb0
  clear HCALL
  try clear hb
  have HCALL := Lib.hid (awake18 w9)
  go_wp2_with fail
  refine HCALL.out.mono ?_
  rintro e w10 ⟨rfl, hb⟩
  have HB10 := Lib.hid (below_then HB9.out HB9.out.size hb)
  have HD10 := Lib.hid (below_then HD9.out HD9.out.size hb)
  clear HCALL
  try clear hb
  have HCALL := Lib.hid (same_runs Ax cx rs A c rs w10 (Kd.C_below HY1.out HD10.out) HCX.out (Kd.C_below HA1.out HD10.out) hc (by omega))
  go_wp2_with fail
  refine HCALL.out.mono ?_
  rintro e w11 ⟨rfl, hdr⟩
  have HB11 := Lib.hid (below_then HB10.out HB10.out.size hdr.below)
  have HD11 := Lib.hid (below_then HD10.out HD10.out.size hdr.below)
  clear HCALL
  try clear hb
  go_wp2
  exact bodyPost_ret (v := .bool true) (by simp [results, Try.results9, go_sem]) rfl ⟨rfl, HB11.out⟩
def tollbarlaw18_ProfileChanges.f (l0 : List Rn) (a1_0 a1_1 a1_2 : Int) : Option Bool := if l0.length * 16 ≤ 140737488355328 then some true else none
theorem tollbarlaw18_ProfileChanges.calls (A0 : Option Addr) (c0 : Nat) (l0 : List Rn) (a1_0 a1_1 a1_2 : Int) (r1 : Bool) (w : World) (hr0 : Kd.C k82 w A0 l0.length l0) (hc0 : l0.length ≤ c0) (h : tollbarlaw18_ProfileChanges.f l0 a1_0 a1_1 a1_2 = some r1) :
    Calls Try.prog 9 #[.slice A0 l0.length c0, .agg #[.int .i64 a1_0, .int .i64 a1_1, .int .i64 a1_2]] w fun e w' => e = .returned (.bool r1) ∧ Below w.heap.size w w' := by
  unfold tollbarlaw18_ProfileChanges.f at h
  by_cases hl : l0.length * 16 ≤ 140737488355328
  case neg => rw [if_neg hl] at h; cases h
  rw [if_pos hl] at h
  cases h
  exact changes_true A0 c0 l0 a1_0 a1_1 a1_2 w hr0 hc0 hl
end Go.Proofs.Ytbacdpagpdmkoaa.Man
namespace Go.Proofs.Ytbacdpagpdmkoaa.Pure
open Go.RowKit Go.Proofs.Ytbacdpagpdmkoaa.QT Go.Proofs.Ytbacdpagpdmkoaa.Man
theorem ProfileChanges {P0 : Rn → Prop} (x0 : List Rn) (h0 : (∀ x ∈ x0, P0 x) ∧ x0.length * 16 ≤ 140737488351232) (x1 : S73) {p1 : Prop} (h1 : p1) : tollbarlaw18_ProfileChanges.f x0 x1.f0.f0 x1.f0.f1 x1.f1 = some true := if_pos (by have := h0.2; omega)
end Go.Proofs.Ytbacdpagpdmkoaa.Pure
