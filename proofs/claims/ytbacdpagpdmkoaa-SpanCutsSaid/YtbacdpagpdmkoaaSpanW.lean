/- The law SpanCuts: the walk, by the contracts of what it calls. -/
import Derived.Test.YtbacdpagpdmkoaaLend
import Derived.Test.YtbacdpagpdmkoaaPure2c
import Derived.Test.YtbacdpagpdmkoaaWInvWords
set_option linter.unusedVariables false
namespace Go.Proofs.Ytbacdpagpdmkoaa.Man
open Go.RowKit Go.Proofs.Ytbacdpagpdmkoaa.QT Go.Proofs.YtbacdpagpdmkoaaW.PrintWords Go.Proofs.YtbacdpagpdmkoaaW.PrintLast Go.Proofs.YtbacdpagpdmkoaaW.PrintMore

def tollbarlaw2_SpanCuts.f (a b : Int) (l1 : List Int) : Option Bool := if l1.length ≤ 17592186043904 then some true else none
theorem kept_below {w w1 : World} {S : Nat → Prop} {B : Nat} (hk : Kept w w1 S) (hS : ∀ k, S k → B ≤ k) (hB : B ≤ w.heap.size) : ∀ k, k < B → w1.heap[k]? = w.heap[k]? := fun k hk' => hk.2 k (by omega) (fun h => by have := hS k h; omega)

set_option maxHeartbeats 8000000 in
set_option maxRecDepth 100000 in
theorem tollbarlaw2_SpanCuts.calls (a b : Int) (A1 : Option Addr) (c1 : Nat) (l1 : List Int) (r : Bool) (w : World) (hr1 : Kd.C (Kd.int .i64) w A1 l1.length l1) (hc1 : l1.length ≤ c1) (h : tollbarlaw2_SpanCuts.f a b l1 = some r) :
    Calls Try.prog 5 #[.agg #[.int .i64 a, .int .i64 b], .slice A1 l1.length c1] w fun e w' => e = .returned (.bool r) ∧ Below w.heap.size w w' := by
  unfold tollbarlaw2_SpanCuts.f at h
  by_cases hl : l1.length ≤ 17592186043904
  case neg => rw [if_neg hl] at h; cases h
  rw [if_pos hl] at h
  cases h
  have HR := Lib.hid hr1
  have HC1 := Lib.hid hc1
  have HL := Lib.hid hl
  obtain ⟨k, hk⟩ := Plain2.cut_at a b l1 (by omega)
  have HK := Lib.hid hk
  obtain ⟨p, hp⟩ : ∃ p, cutF a b l1 = p := ⟨_, rfl⟩
  obtain ⟨xs, code⟩ := p
  have HP := Lib.hid hp
  have HX : Hid (xs.length ≤ 4096) := Lib.hid (by
    have : (cutF a b l1).1.length ≤ 4096 := by
      unfold cutF
      cases hm : mayF a b
      · rw [if_neg (by decide)]; simp
      · rw [if_pos rfl]
        show (partsF _ _).length ≤ _
        rw [partsF_length]
        exact parts_few a b l1 hm
    rw [hp] at this
    exact this)
  obtain ⟨sp, hsp⟩ := Plain2.spoil_is xs (by have := HX.out; omega)
  have HSP := Lib.hid hsp
  clear hr1 hc1 hl hk hp hsp
  go_enter Try.func5, Try.ntmps5
  go_wp2_with fail
  refine (lend_ints A1 c1 l1 _ (Kd.C_alloc HR.out _) HC1.out (by have := HL.out; omega)).mono ?_
  rintro e w1 ⟨A, c, rfl, hc, hC, hb⟩
  have HG1 := Lib.hid (blk_below (blk_new w (.cells #[.int .i64 a, .int .i64 b] 23 (0, 0))) hb)
  have HB1 := Lib.hid (belowW ((Below.refl w.heap.size w).alloc (Nat.le_refl _) _) hb (by simp))
  have HLC := Lib.hid hC
  have HCC := Lib.hid hc
  clear hC hc hb
  have HT : Hid (Kd.C (Kd.int .i64) w1 A l1.length l1) := Lib.hid (by
    refine ⟨rfl, by have := HL.out; omega, fun hn => ?_⟩
    obtain ⟨ad2, e, hcc⟩ := HLC.out.2.2 (by omega)
    refine ⟨ad2, e, fun j p hj => hcc j p ?_⟩
    rw [List.getElem?_append_left (List.getElem?_eq_some_iff.1 hj).1]
    exact hj)
  have a0 := blk_cell HG1.out 0
  have a1 := blk_cell HG1.out 1
  go_wp2_with fail
  refine (cut_is a b A c l1 w1 HT.out (by have := HCC.out; omega) HL.out).mono ?_
  rintro e w2 ⟨v2, rfl, ho2, hb⟩
  rw [HP.out] at ho2 ⊢
  have HG2 := Lib.hid (blk_below HG1.out hb)
  have HB2 := Lib.hid (below_then HB1.out HB1.out.size hb)
  have HD2 := Lib.hid hb
  have HO2 := Lib.hid ho2
  clear ho2 hb a0 a1
  have a0 := blk_cell HG2.out 0
  have a1 := blk_cell HG2.out 1
  obtain ⟨A2, c2, rfl, hc2, hC2⟩ := Kd.R_reads HO2.out
  have HC2 := Lib.hid hC2
  have HC2c := Lib.hid hc2
  clear hC2 hc2
  go_wp2_with fail
  refine (QA.tollbarref1_CutAt.calls k a b A1 c1 l1 xs code w2 (Kd.C_below HR.out HB2.out) HC1.out (by rw [HK.out, HP.out])).mono ?_
  rintro e w3 ⟨v3, rfl, ho3, hb⟩
  have HG3 := Lib.hid (blk_below HG2.out hb)
  have HB3 := Lib.hid (below_then HB2.out HB2.out.size hb)
  have HD3 := Lib.hid hb
  have HO3 := Lib.hid ho3
  clear ho3 hb a0 a1
  obtain ⟨A3, c3, rfl, hc3, hC3⟩ := Kd.R_reads HO3.out
  have HC3 := Lib.hid hC3
  have HC3c := Lib.hid hc3
  clear hC3 hc3
  go_wp2_with fail
  refine (same_spans A2 c2 xs A3 c3 xs w3 (Kd.C_below HC2.out HD3.out) HC2c.out HC3.out HC3c.out (by have := HX.out; omega)).mono ?_
  rintro e w4 ⟨rfl, nd, rfl⟩
  rw [decide_eq_true rfl]
  go_wp2_with fail
  refine (num_is _ _).mono ?_
  rintro e w4 ⟨rfl, rfl⟩
  go_wp2_with fail
  -- what x's row is: one block, new behind the lent row, older than y's
  have HX3 : Hid (Kd.R k23 23 (w3.drewN nd) w.heap.size (fun q => (Value.slice A2 xs.length c2).ownBlock = some q) (.slice A2 xs.length c2) xs) := Lib.hid (by
    have h1 := Kd.R_drewN (Kd.R_below HO2.out HD3.out) nd
    have h2 := Kd.R_lower h1 HB1.out.size
    exact Kd.R_flat (fun h => h) h2 (fun q hq _ => hq))
  have HX2lt : Hid (∀ q, (Value.slice A2 xs.length c2).ownBlock = some q → w1.heap.size ≤ q ∧ q < w2.heap.size) := Lib.hid (fun q hq => by
    obtain ⟨inner, hin⟩ := Kd.R_own HO2.out
    exact ⟨own_base hin q hq, own_lt hin q hq⟩)
  refine (QA.tollbarlaw0_SpoilSpans.calls (xs.length + 1) _ (.slice A2 xs.length c2) xs sp w (w3.drewN nd) (pw_below_drewN HB3.out nd) HX3.out HSP.out).mono ?_
  rintro e w5 ⟨rfl, _, hb5, hk5⟩
  have HB5 := Lib.hid hb5
  have HK5 := Lib.hid hk5
  clear hb5 hk5
  have HB35 : Hid (w3.heap.size ≤ w5.heap.size ∧ ∀ q, q < w3.heap.size → (Value.slice A2 xs.length c2).ownBlock ≠ some q → w5.heap[q]? = w3.heap[q]?) := Lib.hid ⟨HK5.out.1, fun q h1 h2 => HK5.out.2 q h1 h2⟩
  have HW1 : Hid (Below w1.heap.size w1 w5) := Lib.hid (by
    have h1 := below_then HD2.out HD2.out.size HD3.out
    refine ⟨HB5.out.os.trans HB1.out.os.symm, HB5.out.tape.trans HB1.out.tape.symm, HB5.out.output.trans HB1.out.output.symm, Nat.le_trans h1.size HB35.out.1, fun q hq => ?_⟩
    rw [HB35.out.2 q (by have := h1.size; omega) (fun e => by have := (HX2lt.out q e).1; omega)]
    exact h1.block q hq)
  have HG5 := Lib.hid (blk_below HG1.out HW1.out)
  have HY5 : Hid (Kd.C k23 w5 A3 xs.length xs) := Lib.hid (by
    have h1 := Kd.R_step (w1 := w5) (Kd.R_bound HO3.out) (fun q hq hlt => HB35.out.2 q hlt (fun e => by have := (HX2lt.out q e).2; have := hq.2.1; omega))
    obtain ⟨A', c', e', _, hC'⟩ := Kd.R_reads h1
    injection e' with e1
    rw [e1]
    exact hC')
  have a0 := blk_cell HG5.out 0
  have a1 := blk_cell HG5.out 1
  go_wp2_with fail
  refine (cut_is a b A c l1 w5 (Kd.C_below HT.out HW1.out) (by have := HCC.out; omega) HL.out).mono ?_
  rintro e w6 ⟨v6, rfl, ho6, hb⟩
  rw [HP.out] at ho6 ⊢
  have HB6 := Lib.hid (below_then HB5.out HB5.out.size hb)
  have HD6 := Lib.hid hb
  have HO6 := Lib.hid ho6
  clear ho6 hb a0 a1
  obtain ⟨A6, c6, rfl, hc6, hC6⟩ := Kd.R_reads HO6.out
  have HC6 := Lib.hid hC6
  have HC6c := Lib.hid hc6
  clear hC6 hc6
  go_wp2_with fail
  refine (awake2 w6).mono ?_
  rintro e w7 ⟨rfl, hb⟩
  have HB7 := Lib.hid (below_then HB6.out HB6.out.size hb)
  have HD7 := Lib.hid hb
  clear hb
  have HD57 := Lib.hid (below_then HD6.out HD6.out.size HD7.out)
  go_wp2_with fail
  refine (same_spans A6 c6 xs A3 c3 xs w7 (Kd.C_below HC6.out HD7.out) HC6c.out (Kd.C_below HY5.out HD57.out) HC3c.out (by have := HX.out; omega)).mono ?_
  rintro e w8 ⟨rfl, nd8, rfl⟩
  rw [decide_eq_true rfl]
  go_wp2_with fail
  refine (num_is _ _).mono ?_
  rintro e w9 ⟨rfl, rfl⟩
  have HW17 : Hid (Below w1.heap.size w1 w7) := Lib.hid (below_then HW1.out HW1.out.size HD57.out)
  go_wp2_with fail
  refine (kept_ints A c l1 A1 c1 (w7.drewN nd8) HCC.out (Kd.C_drewN (Kd.C_below HLC.out HW17.out) nd8) (Kd.C_drewN (Kd.C_below HR.out HB7.out) nd8) HC1.out (by have := HL.out; omega)).mono ?_
  rintro e w10 ⟨rfl, nd10, rfl⟩
  go_wp2
  go_ret
  exact ⟨rfl, pw_below_drewN HB7.out _⟩
end Go.Proofs.Ytbacdpagpdmkoaa.Man
namespace Go.Proofs.Ytbacdpagpdmkoaa.Pure
open Go.Proofs.Ytbacdpagpdmkoaa.QT
theorem SpanCuts (x0 : S23) {p : Prop} (h0 : p) (x1 : List Int) {P : Int → Prop} (h1 : (∀ x ∈ x1, P x) ∧ x1.length * 8 ≤ 140737488351232) : Man.tollbarlaw2_SpanCuts.f x0.f0 x0.f1 x1 = some true := if_pos (by omega)
end Go.Proofs.Ytbacdpagpdmkoaa.Pure
