/- The law ProfilePiles: its call answers true. -/
import Derived.Test.YtbacdpagpdmkoaaProfPh
import Derived.Deep.RegionHeld3
set_option linter.unusedVariables false
set_option linter.unusedSimpArgs false
namespace Go.Proofs.Ytbacdpagpdmkoaa.Man
open Go.RowKit Go.Proofs.Ytbacdpagpdmkoaa.QT Go.Proofs.YtbacdpagpdmkoaaW.PrintWords Go.Proofs.YtbacdpagpdmkoaaW.PrintLast Go.Proofs.YtbacdpagpdmkoaaW.PrintMore

theorem piles_sum (ws : List Wt) (n : Nat) (h : (buildR ws).2 = 0) : (∀ y ∈ ws.drop n ++ ws.take n, wOK y = true) ∧ ∀ s, 0 ≤ s → s < 4096 → (∀ k, (inW s ((ws.drop n ++ ws.take n).take k)).sum ≤ 4611686018427387904) ∧ (inW s (ws.drop n ++ ws.take n)).sum = atL s 0 (buildR ws).1 := by
  obtain ⟨hw, _, _, hs⟩ := build_char ws h
  have hT : ∀ y ∈ ws.drop n ++ ws.take n, wOK y = true := fun y hy => by
    rcases List.mem_append.1 hy with hy | hy
    · exact hw y (List.mem_of_mem_drop hy)
    · exact hw y (List.mem_of_mem_take hy)
  refine ⟨hT, fun s h0 h4 => ?_⟩
  have e := hs s h0 h4
  rw [sumW_ok s ws hw] at e
  have hsum : (inW s (ws.drop n ++ ws.take n)).sum = (inW s ws).sum := by
    rw [inW_append, List.sum_append]
    conv => rhs; rw [← List.take_append_drop n ws, inW_append, List.sum_append]
    omega
  split at e
  · rename_i hle
    refine ⟨fun k => ?_, by rw [hsum]; exact (Prod.mk.inj e).1⟩
    have h1 : (inW s (ws.drop n ++ ws.take n)).sum = (inW s ((ws.drop n ++ ws.take n).take k)).sum + (inW s ((ws.drop n ++ ws.take n).drop k)).sum := by
      conv => lhs; rw [← List.take_append_drop k (ws.drop n ++ ws.take n), inW_append, List.sum_append]
    have h2 := inW_nonneg s ((ws.drop n ++ ws.take n).drop k) (fun y hy => hT y (List.mem_of_mem_drop hy))
    omega
  · exact absurd (Prod.mk.inj e).2 Bool.false_ne_true
def PileAt (wL : World) (T : List Wt) (v i : Value) (w' : World) : Prop := ∃ (k : Nat) (rs : List Rn), i = .int .i64 (k : Int) ∧ k ≤ T.length ∧ Res w' 0 v rs ∧ mayR rs = true ∧ (∀ s, 0 ≤ s → s < 4096 → sumW s (T.take k) = (atL s 0 rs, true)) ∧ Below wL.heap.size wL w'
set_option maxHeartbeats 16000000 in
set_option maxRecDepth 100000 in
theorem piles_true (A : Option Addr) (c : Nat) (ws : List Wt) (t : Int) (w : World) (hr : Kd.C k73 w A ws.length ws) (hc : ws.length ≤ c) (hl : ws.length * 24 ≤ 140737488355328) :
    Calls Try.prog 11 #[.slice A ws.length c, .int .i64 t] w fun e w' => e = .returned (.bool true) ∧ Below w.heap.size w w' := by
  have HA0 := Lib.hid hr
  have HB0 := Lib.hid (Below.refl w.heap.size w)
  have HPS := Lib.hid (fun n => piles_sum ws n)
  have HCH := Lib.hid (build_char ws)
  obtain ⟨F, hF⟩ : ∃ F, buildR ws = F := ⟨_, rfl⟩
  rw [hF] at HPS HCH
  have HF := Lib.hid hF
  have HBD := Lib.hid (build_is A c ws w hr hc (by omega))
  rw [hF] at HBD
  clear hF hr
  by_cases hf0 : F.2 = 0
  case neg =>
    have hfe : (F.2 != 0) = true := by simpa using hf0
    go_enter Try.func11, Try.ntmps11
    go_wp2_with fail
    refine HBD.out.mono ?_
    rintro e w1 ⟨v, rfl, hres, hb⟩
    have HB1 := Lib.hid hb
    clear hb hres hf0
    go_wp2_with fail
    refine (num_is F.2 w1).mono ?_
    rintro e _ ⟨rfl, rfl⟩
    go_wp2
    exact bodyPost_ret (v := .bool true) (by simp [results, Try.results11, go_sem]) rfl ⟨rfl, HB1.out⟩
  have hfe : (F.2 != 0) = false := by simpa using hf0
  have HF0 := Lib.hid hf0
  clear hf0
  by_cases ht0 : 0 ≤ t
  case neg =>
    have d1 : decide (t < 0) = true := decide_eq_true (by omega)
    go_enter Try.func11, Try.ntmps11
    go_wp2_with fail
    refine HBD.out.mono ?_
    rintro e w1 ⟨v, rfl, hres, hb⟩
    have HB1 := Lib.hid hb
    clear hb hres
    go_wp2_with fail
    refine (num_is F.2 w1).mono ?_
    rintro e _ ⟨rfl, rfl⟩
    go_wp2
    exact bodyPost_ret (v := .bool true) (by simp [results, Try.results11, go_sem]) rfl ⟨rfl, HB1.out⟩
  obtain ⟨n, rfl⟩ := Int.eq_ofNat_of_zero_le ht0
  have d1 : decide ((n : Int) < 0) = false := decide_eq_false (by omega)
  by_cases htl : n ≤ ws.length
  case neg =>
    have d2 : decide ((n : Int) > (ws.length : Int)) = true := decide_eq_true (by omega)
    have d3 : ws.length < n := by omega
    go_enter Try.func11, Try.ntmps11
    go_wp2_with fail
    refine HBD.out.mono ?_
    rintro e w1 ⟨v, rfl, hres, hb⟩
    have HB1 := Lib.hid hb
    clear hb hres
    go_wp2_with fail
    refine (num_is F.2 w1).mono ?_
    rintro e _ ⟨rfl, rfl⟩
    go_wp2
    exact bodyPost_ret (v := .bool true) (by simp [results, Try.results11, go_sem]) rfl ⟨rfl, HB1.out⟩
  have d2 : decide ((n : Int) > (ws.length : Int)) = false := decide_eq_false (by omega)
  have d3 : ¬ ws.length < n := by omega
  obtain ⟨i0, hi0, _, hsz0, _⟩ := info_parts info73
  have hcutF := cut_from (P := Try.prog) 63 73 .i64 Try.underlying63 hi0 3 hsz0 A ws.length c (n : Int) (by omega) (by omega)
  have hcutT := cut_to (P := Try.prog) 63 73 .i64 Try.underlying63 hi0 A ws.length c (n : Int) (by omega) (by omega) hc
  rw [Int.toNat_natCast] at hcutF hcutT
  obtain ⟨A', hA'⟩ : ∃ A', (if c = n then A else A.map (·.add (n * 3))) = A' := ⟨_, rfl⟩
  have HD0 : Hid (Kd.C k73 w A' (ws.drop n).length (ws.drop n)) := by
    have := Kd.C_drop HA0.out (m := n) htl hc
    rw [← hA']
    exact Lib.hid this
  have HT0 : Hid (Kd.C k73 w A n (ws.take n)) := by
    have := Kd.C_take HA0.out (m := n) htl
    rw [List.length_take, Nat.min_eq_left htl] at this
    exact Lib.hid this
  rw [hA', show ws.length - n = (ws.drop n).length by simp] at hcutF
  have HLD : Hid ((ws.drop n).length * 24 ≤ 140737488355328) := Lib.hid (by rw [List.length_drop]; omega)
  have HLT : Hid (((ws.drop n).length + n) * 24 ≤ 140737488355328) := Lib.hid (by rw [List.length_drop]; omega)
  have HTL : Hid ((ws.drop n ++ ws.take n).length ≤ 281474976710656) := Lib.hid (by rw [List.length_append, List.length_drop, List.length_take]; omega)
  obtain ⟨hTw, hTs⟩ := HPS.out n HF0.out
  have HTW := Lib.hid hTw
  have HTS := Lib.hid hTs
  obtain ⟨_, _, hFm, _⟩ := HCH.out HF0.out
  have HFM := Lib.hid hFm
  have HLF : Hid (F.1.length ≤ 281474976710656) := Lib.hid (by have := may_short hFm; omega)
  obtain ⟨D, hD⟩ : ∃ D, ws.drop n = D := ⟨_, rfl⟩
  obtain ⟨E, hE⟩ : ∃ E, ws.take n = E := ⟨_, rfl⟩
  rw [hD] at HD0 HLD HLT HTL HTW HTS hcutF
  rw [hE] at HT0 HTL HTW HTS
  clear hTw hTs hi0 hsz0 hA' hD hE HCH HPS hFm
  have hnil := Lib.hid (fun W : World => (by
    obtain ⟨A1, c1, e1, h1, hC1⟩ := Kd.R_reads (Kd.R_nil k73 0 W 0 (fun _ => True))
    injection e1 with e11 _ e13
    rw [← e11] at hC1
    exact hC1 : Kd.C k73 W none 0 []))
  go_enter Try.func11, Try.ntmps11
  go_wp2_with fail
  refine HBD.out.mono ?_
  rintro e w1 ⟨v, rfl, hres, hb⟩
  obtain ⟨Aa, rfl, hCa⟩ := hres.reads
  have HQ1 := Lib.hid hCa
  have HB1 := Lib.hid hb
  have HD1 := Lib.hid (Kd.C_below HD0.out hb)
  have HT1 := Lib.hid (Kd.C_below HT0.out hb)
  clear hb hres hCa HBD
  go_wp2_with fail
  refine (num_is F.2 w1).mono ?_
  rintro e _ ⟨rfl, rfl⟩
  have HDd := Lib.hid (Kd.C_below HD1.out (below_drew (Below.refl _ _)))
  have HTd := Lib.hid (Kd.C_below HT1.out (below_drew (Below.refl _ _)))
  have HBd := Lib.hid (below_drew HB1.out)
  have HQd := Lib.hid (Kd.C_below HQ1.out (below_drew (Below.refl _ _)))
  have HCP := Lib.hid (copyW_is A' (c - n) D w1.drew HDd.out HLD.out)
  go_wp2_with fail
  go_region_held3 (fun _ => True) (trivial)
    (first
      | (go_at_call 40; refine HCP.out.mono ?_; rintro e w2 ⟨v2, rfl, ho2, hb2⟩; have HO2 := Lib.hid ho2; have HT2 := Lib.hid (Kd.C_below HTd.out hb2); have HW2 := Lib.hid hb2; clear ho2 hb2)
      | (refine Kd.R_append_rows_step k73 (Rr := k73.K w2) (w0 := w1.drew) (W := w2) w1.drew.heap.size (by rfl) (.tmp 34) (.tmp 37) 63 73 (.agg #[.int .i64 0, .int .i64 0, .int .i64 0]) 24 rfl Try.underlying63 info73 rfl (by decide) (by omega) v2 D E A n c (fun _ => True) (fun _ => False) rfl rfl HO2.out HT2.out (fun y cs hy => by obtain rfl := k73_open hy; exact k73_mkM _ _ _ y) (fun _ h => h.elim) (fun _ _ => trivial) HW2.out HW2.out.size HLT.out ?_; intro v3 w3 ho3 hb3 hg3 hat3; have HO3 := Lib.hid ho3; have HW3 := Lib.hid hb3; clear ho3 hb3 hg3 hat3))
  have HB3 := Lib.hid (below_then HBd.out HBd.out.size HW3.out)
  have HQ3 := Lib.hid (Kd.C_below HQd.out HW3.out)
  clear HCP HDd HTd HBd HQd HO2 HT2 HW2 HW3 HB1 HQ1 HD1 HT1 HD0 HT0 hcutF hcutT
  obtain ⟨At, ct, rfl, hct, hCt⟩ := Kd.R_reads HO3.out
  have HC3 := Lib.hid hCt
  clear hCt HO3
  generalize D ++ E = T at HTL HTW HTS HC3 hct
  have HBN := Lib.hid (build_is none 0 [] w3 (hnil.out w3) (Nat.le_refl _) (by decide))
  rw [build_nil] at HBN
  go_wp2_with fail
  refine HBN.out.mono ?_
  rintro e w4 ⟨v4, rfl, hres, hb⟩
  have HRS4 := Lib.hid (hres.lower (Nat.zero_le _))
  have HB4 := Lib.hid (below_then HB3.out HB3.out.size hb)
  have HQ4 := Lib.hid (Kd.C_below HQ3.out hb)
  have HC4 := Lib.hid (Kd.C_below HC3.out hb)
  clear hb hres HBN HB3 HQ3 HC3 hnil
  go_wp2_with fail
  refine (num_is 0 w4).mono ?_
  rintro e _ ⟨rfl, rfl⟩
  have hTlen := HTL.out
  go_wp2_with fail
  go_loopw [8, 10] (PileAt w4 T) (fun _ i _ => T.length - (intOf i).toNat)
  case atStart => exact ⟨0, [⟨0, 0⟩], rfl, Nat.zero_le _, HRS4.out, by decide, fun s h0 h4 => by show sumW s [] = (if (0 : Int) ≤ s then 0 else 0, true); rw [ite_self]; rfl, Below.refl _ _⟩
  case round =>
    obtain ⟨k, rs, rfl, hk, hres, hm, hs, hb⟩ := hrel
    obtain ⟨Av, rfl, hCv⟩ := hres.reads
    have HCV := Lib.hid hCv
    have HMR := Lib.hid hm
    have HSS := Lib.hid hs
    have HBk := Lib.hid hb
    have HLR : Hid (rs.length ≤ 281474976710656) := Lib.hid (by have := may_short hm; omega)
    clear hres hm hs hb hCv HRS4
    by_cases hlt : k < T.length
    · obtain ⟨ad, rfl, x0, x1, x2⟩ := at_T73 (Kd.C_below HC4.out HBk.out) (k : Int) (by omega) (by omega)
      rw [rdW_at T k hlt, Int.toNat_natCast] at x0 x1 x2
      have hd : decide ((k : Int) < (T.length : Int)) = true := by simpa using hlt
      have htk : T.take (k + 1) = T.take k ++ [T[k]] := List.take_succ_eq_append_getElem hlt
      obtain ⟨p1, p2, p3⟩ := pile_step (T.take k) T[k] rs (fun y hy => HTW.out y (by rw [← htk] at hy; exact List.mem_of_mem_take hy)) HMR.out HSS.out (fun s h0 h4 => by rw [← htk]; exact (HTS.out s h0 h4).1 (k + 1))
      rw [← htk] at p3
      generalize T[k] = x at x0 x1 x2 p1 p2 p3
      have HP1 := Lib.hid p1
      have HP2 := Lib.hid p2
      have HP3 := Lib.hid p3
      clear p1 p2 p3 htk
      have HAD := Lib.hid (padd_is Av rs.length rs x.f0.f0 x.f0.f1 x.f1 wr HCV.out (Nat.le_refl _) HLR.out)
      rw [HP1.out] at HAD
      go_wp2_with fail
      refine HAD.out.mono ?_
      rintro e w5 ⟨v5, rfl, hres, hb⟩
      have HRS5 := Lib.hid (hres.lower (Nat.zero_le _))
      have HB5 := Lib.hid (below_then HBk.out HBk.out.size hb)
      clear hb hres x0 x1 x2 HAD
      go_wp2_with fail
      refine (num_is 0 w5).mono ?_
      rintro e _ ⟨rfl, rfl⟩
      go_wp2
      go_roundw
      case rel => exact ⟨k + 1, _, by go_num, by omega, HRS5.out, HP2.out, HP3.out, HB5.out⟩
      case measure => simp [intOf]; omega
    · have hd : decide ((k : Int) < (T.length : Int)) = false := by simpa using hlt
      have HEQ : Hid (F.1 = rs) := Lib.hid (canon HFM.out HMR.out (fun s h0 h4 => by
        have h1 := (HTS.out s h0 h4).2
        have h2 := HSS.out s h0 h4
        rw [List.take_of_length_le (by omega), sumW_ok s T HTW.out] at h2
        split at h2
        · rw [← h1]; exact (Prod.mk.inj h2).1
        · exact absurd (Prod.mk.inj h2).2 Bool.false_ne_true))
      go_wp2_with fail
      refine (awake18 wr).mono ?_
      rintro e w6 ⟨rfl, hb⟩
      have HB6 := Lib.hid (below_then HBk.out HBk.out.size hb)
      have HSR := Lib.hid (same_runs Aa F.1.length F.1 Av rs.length rs w6 (Kd.C_below HQ4.out HB6.out) (Nat.le_refl _) (Kd.C_below HCV.out hb) (Nat.le_refl _) HLF.out)
      rw [decide_eq_true HEQ.out] at HSR
      clear hb
      go_wp2_with fail
      refine HSR.out.mono ?_
      rintro e w7 ⟨rfl, hdr⟩
      have HB7 := Lib.hid (below_then HB4.out HB4.out.size (HB6.out.trans (hdr.below.mono HB6.out.size)))
      go_wp2
      exact bodyPost_ret (v := .bool true) (by simp [results, Try.results11, go_sem]) rfl ⟨rfl, HB7.out⟩
def tollbarlaw18_ProfilePiles.f (l0 : List Wt) (a1 : Int) : Option Bool := if l0.length * 24 ≤ 140737488355328 then some true else none
theorem tollbarlaw18_ProfilePiles.calls (A0 : Option Addr) (c0 : Nat) (l0 : List Wt) (a1 : Int) (r1 : Bool) (w : World) (hr0 : Kd.C k73 w A0 l0.length l0) (hc0 : l0.length ≤ c0) (h : tollbarlaw18_ProfilePiles.f l0 a1 = some r1) :
    Calls Try.prog 11 #[.slice A0 l0.length c0, .int .i64 a1] w fun e w' => e = .returned (.bool r1) ∧ Below w.heap.size w w' := by
  unfold tollbarlaw18_ProfilePiles.f at h
  by_cases hl : l0.length * 24 ≤ 140737488355328
  case neg => rw [if_neg hl] at h; cases h
  rw [if_pos hl] at h
  cases h
  exact piles_true A0 c0 l0 a1 w hr0 hc0 hl
end Go.Proofs.Ytbacdpagpdmkoaa.Man
namespace Go.Proofs.Ytbacdpagpdmkoaa.Pure
open Go.RowKit Go.Proofs.Ytbacdpagpdmkoaa.QT Go.Proofs.Ytbacdpagpdmkoaa.Man
theorem ProfilePiles {P0 : Wt → Prop} (x0 : List Wt) (h0 : (∀ x ∈ x0, P0 x) ∧ x0.length * 24 ≤ 140737488351232) (x1 : Int) {p1 : Prop} (h1 : p1) : tollbarlaw18_ProfilePiles.f x0 x1 = some true := if_pos (by have := h0.2; omega)
end Go.Proofs.Ytbacdpagpdmkoaa.Pure
