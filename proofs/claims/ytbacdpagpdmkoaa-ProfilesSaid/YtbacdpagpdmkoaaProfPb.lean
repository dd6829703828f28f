/- The law Profiles: its call answers true. -/
import Derived.Test.YtbacdpagpdmkoaaProfQ3
set_option linter.unusedVariables false
set_option linter.unusedSimpArgs false
namespace Go.Proofs.Ytbacdpagpdmkoaa.Man
open Go.RowKit Go.Proofs.Ytbacdpagpdmkoaa.QT Go.Proofs.YtbacdpagpdmkoaaW.PrintWords Go.Proofs.YtbacdpagpdmkoaaW.PrintLast Go.Proofs.YtbacdpagpdmkoaaW.PrintMore

set_option maxHeartbeats 16000000 in
set_option maxRecDepth 100000 in
theorem profiles_true (A : Option Addr) (c : Nat) (rs : List Rn) (t a b : Int) (w : World) (hr : Kd.C k82 w A rs.length rs) (hc : rs.length ≤ c) (hl : rs.length * 16 ≤ 140737488355328) :
    Calls Try.prog 7 #[.slice A rs.length c, .int .i64 t, .agg #[.int .i64 a, .int .i64 b]] w fun e w' => e = .returned (.bool true) ∧ Below w.heap.size w w' := by
  have HR := Lib.hid hr
  have HB0 := Lib.hid ((Below.refl w.heap.size w).alloc (Nat.le_refl _) (.cells #[.int .i64 a, .int .i64 b] 23))
  have HX0 := Lib.hid (blk_new w (.cells #[.int .i64 a, .int .i64 b] 23 (0, 0)))
  have HA0 := Lib.hid (Kd.C_below HR.out HB0.out)
  clear hr
  obtain ⟨F1, hF1⟩ : ∃ F, ratF rs t = F := ⟨_, rfl⟩
  obtain ⟨F2, hF2⟩ : ∃ F, rmostF rs a b = F := ⟨_, rfl⟩
  obtain ⟨m, hm⟩ : ∃ m, mayR rs = m := ⟨_, rfl⟩
  have HF1 := Lib.hid hF1
  have HF2 := Lib.hid hF2
  have HM := Lib.hid hm
  clear hF1 hF2 hm
  go_enter Try.func7, Try.ntmps7
  have HCALL := Lib.hid (copyR_is A c rs (w.alloc (.cells #[.int .i64 a, .int .i64 b] 23)) HA0.out hl)
  go_wp2_with fail
  refine HCALL.out.mono ?_
  rintro e w1 ⟨v, rfl, ho, hb⟩
  have HB1 := Lib.hid (below_then HB0.out HB0.out.size hb)
  have HA1 := Lib.hid (Kd.C_below HA0.out hb)
  have HX1 := Lib.hid (blk_below HX0.out hb)
  obtain ⟨Ax, cx, rfl, hcx, hCx⟩ := Kd.R_reads ho
  have HY1 := Lib.hid hCx
  have HCX := Lib.hid hcx
  clear ho hCx hcx
  clear HCALL
  try clear hb
  have HCALL := Lib.hid (at_is Ax cx rs t w1 HY1.out HCX.out (by omega))
  go_wp2_with fail
  refine HCALL.out.mono ?_
  rintro e w2 ⟨rfl, hb⟩
  have HB2 := Lib.hid (below_then HB1.out HB1.out.size hb)
  have HA2 := Lib.hid (Kd.C_below HA1.out hb)
  have HY2 := Lib.hid (Kd.C_below HY1.out hb)
  have HX2 := Lib.hid (blk_below HX1.out hb)
  rw [atF_ratF, HF1.out]
  clear HCALL
  try clear hb
  have HCALL := Lib.hid (ratF_is A c rs t w2 HA2.out hc (by omega))
  go_wp2_with fail
  refine HCALL.out.mono ?_
  rintro e w3 ⟨rfl, hb⟩
  have HB3 := Lib.hid (below_then HB2.out HB2.out.size hb)
  have HA3 := Lib.hid (Kd.C_below HA2.out hb)
  have HY3 := Lib.hid (Kd.C_below HY2.out hb)
  have HX3 := Lib.hid (blk_below HX2.out hb)
  rw [HF1.out]
  clear HCALL
  try clear hb
  have c0 := blk_cell HX3.out 0
  have c1 := blk_cell HX3.out 1
  simp at c0 c1
  have HCALL := Lib.hid (most_is Ax cx rs a b w3 HY3.out HCX.out (by omega))
  go_wp2_with fail
  refine HCALL.out.mono ?_
  rintro e w4 ⟨rfl, hb⟩
  have HB4 := Lib.hid (below_then HB3.out HB3.out.size hb)
  have HA4 := Lib.hid (Kd.C_below HA3.out hb)
  have HY4 := Lib.hid (Kd.C_below HY3.out hb)
  have HX4 := Lib.hid (blk_below HX3.out hb)
  rw [most_rmost, HF2.out]
  clear HCALL
  try clear hb
  clear c0 c1
  have c0 := blk_cell HX4.out 0
  have c1 := blk_cell HX4.out 1
  simp at c0 c1
  have HCALL := Lib.hid (rmost_is A c rs a b w4 HA4.out hc (by omega))
  go_wp2_with fail
  refine HCALL.out.mono ?_
  rintro e w5 ⟨rfl, hb⟩
  have HB5 := Lib.hid (below_then HB4.out HB4.out.size hb)
  have HA5 := Lib.hid (Kd.C_below HA4.out hb)
  have HY5 := Lib.hid (Kd.C_below HY4.out hb)
  have HX5 := Lib.hid (blk_below HX4.out hb)
  rw [HF2.out]
  clear HCALL
  try clear hb
  clear c0 c1
  have HCALL := Lib.hid (awake18 w5)
  go_wp2_with fail
  refine HCALL.out.mono ?_
  rintro e w6 ⟨rfl, hb⟩
  have HB6 := Lib.hid (below_then HB5.out HB5.out.size hb)
  have HA6 := Lib.hid (Kd.C_below HA5.out hb)
  have HY6 := Lib.hid (Kd.C_below HY5.out hb)
  clear HCALL
  try clear hb
  have HCALL := Lib.hid (pmay_is Ax cx rs w6 HY6.out HCX.out (by omega))
  go_wp2_with fail
  refine HCALL.out.mono ?_
  rintro e w7 ⟨rfl, hb⟩
  have HB7 := Lib.hid (below_then HB6.out HB6.out.size hb)
  have HA7 := Lib.hid (Kd.C_below HA6.out hb)
  have HY7 := Lib.hid (Kd.C_below HY6.out hb)
  rw [HM.out]
  clear HCALL
  try clear hb
  have HCALL := Lib.hid (rmay_is A c rs w7 HA7.out hc (by omega))
  go_wp2_with fail
  refine HCALL.out.mono ?_
  rintro e w8 ⟨rfl, hb⟩
  have HB8 := Lib.hid (below_then HB7.out HB7.out.size hb)
  have HA8 := Lib.hid (Kd.C_below HA7.out hb)
  have HY8 := Lib.hid (Kd.C_below HY7.out hb)
  rw [HM.out]
  clear HCALL
  try clear hb
  go_wp2_with fail
  refine (num_is F1.2 w8).mono ?_
  rintro e _ ⟨rfl, rfl⟩
  go_wp2_with fail
  refine (num_is F2.2.2 w8).mono ?_
  rintro e _ ⟨rfl, rfl⟩
  have HCALL := Lib.hid (same_runs Ax cx rs A c rs w8 HY8.out HCX.out HA8.out hc (by omega))
  go_wp2_with fail
  refine HCALL.out.mono ?_
  rintro e w9 ⟨rfl, hdr⟩
  have HB9 := Lib.hid (below_then HB8.out HB8.out.size hdr.below)
  have HA9 := Lib.hid (Kd.C_below HA8.out hdr.below)
  have HY9 := Lib.hid (Kd.C_below HY8.out hdr.below)
  clear HCALL
  try clear hb
  go_wp2
  exact bodyPost_ret (v := .bool true) (by simp [results, Try.results7, go_sem]) rfl ⟨rfl, HB9.out⟩
def tollbarlaw18_Profiles.f (l0 : List Rn) (a1 : Int) (a2_0 a2_1 : Int) : Option Bool := if l0.length * 16 ≤ 140737488355328 then some true else none
theorem tollbarlaw18_Profiles.calls (A0 : Option Addr) (c0 : Nat) (l0 : List Rn) (a1 : Int) (a2_0 a2_1 : Int) (r1 : Bool) (w : World) (hr0 : Kd.C k82 w A0 l0.length l0) (hc0 : l0.length ≤ c0) (h : tollbarlaw18_Profiles.f l0 a1 a2_0 a2_1 = some r1) :
    Calls Try.prog 7 #[.slice A0 l0.length c0, .int .i64 a1, .agg #[.int .i64 a2_0, .int .i64 a2_1]] w fun e w' => e = .returned (.bool r1) ∧ Below w.heap.size w w' := by
  unfold tollbarlaw18_Profiles.f at h
  by_cases hl : l0.length * 16 ≤ 140737488355328
  case neg => rw [if_neg hl] at h; cases h
  rw [if_pos hl] at h
  cases h
  exact profiles_true A0 c0 l0 a1 a2_0 a2_1 w hr0 hc0 hl
end Go.Proofs.Ytbacdpagpdmkoaa.Man
namespace Go.Proofs.Ytbacdpagpdmkoaa.Pure
open Go.RowKit Go.Proofs.Ytbacdpagpdmkoaa.QT Go.Proofs.Ytbacdpagpdmkoaa.Man
theorem Profiles {P0 : Rn → Prop} (x0 : List Rn) (h0 : (∀ x ∈ x0, P0 x) ∧ x0.length * 16 ≤ 140737488351232) (x1 : Int) {p1 : Prop} (h1 : p1) (x2 : S23) {p2 : Prop} (h2 : p2) : tollbarlaw18_Profiles.f x0 x1 x2.f0 x2.f1 = some true := if_pos (by have := h0.2; omega)
end Go.Proofs.Ytbacdpagpdmkoaa.Pure
