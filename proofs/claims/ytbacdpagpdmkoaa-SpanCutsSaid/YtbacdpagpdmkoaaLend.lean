/- A row of numbers that is lent with marked room behind it, and looked at again: LendInts and KeptInts at this dump. -/
import Derived.Test.YtbacdpagpdmkoaaQA
import Derived.Test.YtbacdpagpdmkoaaSame
set_option linter.unusedVariables false
namespace Go.Proofs.Ytbacdpagpdmkoaa.Man
open Go.RowKit Go.Proofs.Ytbacdpagpdmkoaa.QA Go.Proofs.Ytbacdpagpdmkoaa.Same Go.Proofs.YtbacdpagpdmkoaaW.PrintWords Go.Proofs.YtbacdpagpdmkoaaW.PrintLast Go.Proofs.YtbacdpagpdmkoaaW.PrintMore
open Go.Proofs.Ytbacdpagpdmkoaa.QT

set_option maxHeartbeats 8000000 in
set_option maxRecDepth 100000 in
theorem lend_ints (A0 : Option Addr) (c0 : Nat) (l0 : List Int) (w : World) (hr0 : Kd.C (Kd.int .i64) w A0 l0.length l0) (hc0 : l0.length ≤ c0) (hl : l0.length ≤ 17592186043904) :
    Calls Try.prog 26 #[.slice A0 l0.length c0] w fun e w' => ∃ (A : Option Addr) (c : Nat), e = .returned (.slice A l0.length c) ∧ l0.length + 2 ≤ c ∧ Kd.C (Kd.int .i64) w' A (l0.length + 2) (l0 ++ [-7777, -8888]) ∧ Below w.heap.size w w' := by
  have HR0 := Aside0.mk hr0
  have HC0 := Aside0.mk hc0
  have A2 : Aside0 (tollbarlaw0_CopyInts.f l0 = some l0) := ⟨by
    unfold tollbarlaw0_CopyInts.f
    simp
    omega⟩
  clear hr0 hc0
  have HB := Aside0.mk (Below.refl w.heap.size w)
  obtain ⟨y110, hy110⟩ : ∃ y_ : List Int, y_ = (([(-7777), (-8888)] : List Int)) := ⟨_, rfl⟩
  have Ly : y110.length = 2 := by rw [hy110]; rfl
  have LMc3 := Aside0.mk (show l0.length + y110.length < 17592186044416 by omega)
  have Ny110 := Aside0.mk hy110
  clear hy110
  obtain ⟨y113, hy113⟩ : ∃ y_ : List Int, y_ = (l0 ++ y110) := ⟨_, rfl⟩
  have L3 : Aside0 (y113.length = l0.length + 2) := ⟨by rw [hy113, List.length_append, Ly]⟩
  have Ny113 := Aside0.mk hy113
  clear hy113 Ly
  have HL := Aside0.mk hl
  clear hl
  have g1 : (0 ≤ (l0.length : Int)) = True := eq_true (by omega)
  go_enter Try.func26, Try.ntmps26
  go_wp2_with (first | ((with_reducible refine gate_callee (f := 50) rfl ?_); refine goesL_ (some 5) rfl rfl Try.func50 (by kernel_rfl) rfl #[.slice A0 l0.length c0] rfl (by (try simp only [List.map_toArray, List.map_cons, List.map_nil]); first | done | rfl | (simp only [List.length_drop, List.length_take]; rfl)) ?_; (with_reducible refine (tollbarlaw0_CopyInts.calls _ _ l0 l0 _ ?side1 ?side2 A2.out).mono ?_); (case side1 => repeat (first | exact HR0.out | (with_reducible refine Kd.C_alloc ?_ _) | (with_reducible refine Kd.C_drewN ?_ _) | (with_reducible refine Kd.C_drew ?_))); (case side2 => exact HC0.out); rintro e w6 ⟨v108, rfl, ho0, hb⟩; refine ⟨_, rfl, ?_⟩; have n0_ := Aside0.mk (Kd.R_lower ho0 (below_size (by repeat (first | (with_reducible first | exact HB.out | apply below_alloc | apply pw_below_drewN | apply below_drew1) | exact HB.out)))); have n1_ := Aside0.mk (below_step (by repeat (first | (with_reducible first | exact HB.out | apply below_alloc | apply pw_below_drewN | apply below_drew1) | exact HB.out)) hb); clear HB; have HO109 := n0_; have HB := n1_; clear n0_ n1_; (try clear hb); (try clear ho0)) | ((with_reducible refine gate_dst (N := 6) rfl ?_); refine Kd.R_lit (Kd.int .i64) _ 3 ?hg (N := 6) ?hd (xs := ([(-7777), (-8888)] : List Int)) (inner := [.int .i64 (-7777), .int .i64 (-8888)]) (ok := fun _ => True) (okp := fun _ => True) ?hr ?hp (fun _ hk => hk) trivial (Below.refl _ _) (Nat.le_refl _) (by simp) ?_; (case hd => rfl); (case hg => rfl); (case hr => first | (go_simp; done) | (go_simp; rfl)); (case hp => exact (Reps.one (show Kd.M (Kd.int .i64) _ _ _ (-7777) [.int .i64 (-7777)] from rfl) (Reps.one (show Kd.M (Kd.int .i64) _ _ _ (-8888) [.int .i64 (-8888)] from rfl) (Reps.none _ _)))); intro v111 w7 ho8 hb hg_ hnew_; clear hg_ hnew_; (first | rw [← Ny110.out] at ho8 | (simp only [Int.reduceToNat] at ho8; rw [← Ny110.out] at ho8)); have n0_ := Aside0.mk (Kd.R_elder' (by (with_reducible repeat (first | apply Kd.R_alloc | apply Kd.R_drewN | apply Kd.R_drew)); exact HO109.out) (Kd.R_base ho8) hb); have n1_ := Aside0.mk (Kd.R_lower (Kd.R_new' ho8 (Kd.R_lt (by (with_reducible repeat (first | apply Kd.R_alloc | apply Kd.R_drewN | apply Kd.R_drew)); exact HO109.out))) (below_size (by repeat (first | (with_reducible first | exact HB.out | apply below_alloc | apply pw_below_drewN | apply below_drew1) | exact HB.out)))); have n2_ := Aside0.mk (below_step (by repeat (first | (with_reducible first | exact HB.out | apply below_alloc | apply pw_below_drewN | apply below_drew1) | exact HB.out)) hb); clear HO109; clear HB; have HO109 := n0_; have HO112 := n1_; have HB := n2_; clear n0_ n1_ n2_; clear hb ho8; obtain ⟨Ao10, co10, eo10⟩ := Kd.R_slice HO112.out; subst eo10) | ((with_reducible refine gate_builtin (b := .append) (xs := #[.tmp 5, .tmp 6]) rfl ?_); at_builtin; refine Kd.R_append_rows (Kd.int .i64) (w0 := w) w.heap.size rfl (.tmp 5) (.tmp 6) 41 3 (.int .i64 0) 8 rfl Try.underlying41 info3 rfl (by decide) (by omega) v108 l0 y110 _ _ _ (fun k_ => some k_ ≠ (.slice Ao10 y110.length co10 : Value).ownBlock) (fun _ => False) rfl rfl ?aO ?aR (fun _ _ h => h) (fun _ h => h.elim) ?aF ?aB ?aS ?aL ?_; (case aR => repeat (first | exact (Kd.R_reads' HO112.out).2.2 | (with_reducible refine Kd.C_alloc ?_ _) | (with_reducible refine Kd.C_drewN ?_ _) | (with_reducible refine Kd.C_drew ?_))); (case aB => exact (by repeat (first | (with_reducible first | exact HB.out | apply below_alloc | apply pw_below_drewN | apply below_drew1) | exact HB.out))); (case aF => exact (fun k_ hk => Kd.fresh' (Kd.R_lt (by (with_reducible repeat (first | apply Kd.R_alloc | apply Kd.R_drewN | apply Kd.R_drew)); exact HO112.out)) k_ hk)); (case aO => exact (by (with_reducible repeat (first | apply Kd.R_alloc | apply Kd.R_drewN | apply Kd.R_drew)); exact Kd.R_mono HO109.out (fun _ hk => hk.2))); (case aS => exact (below_size (by repeat (first | (with_reducible first | exact HB.out | apply below_alloc | apply pw_below_drewN | apply below_drew1) | exact HB.out)))); (case aL => have := LMc3.out; omega); intro v114 w9 ho hb hg hat; rw [← Ny113.out] at ho; have n1_ := Aside0.mk (hb); have n2_ := Aside0.mk (ho); clear HO112; clear HB; clear HO109; have HB := n1_; have HO115 := n2_; clear n1_ n2_; clear ho hb hg hat; obtain ⟨Ao11, co11, eo11⟩ := Kd.R_slice HO115.out; subst eo11; have q12 : ((l0.length : Int) : Int) ≤ ((y113.length : Int) : Int) := (by have := L3.out; omega); obtain ⟨i012, hi012, _, hsz12, _⟩ := info_parts info3; have hcut12 := cut_to (P := Try.prog) 41 3 .i64 Try.underlying41 hi012 Ao11 y113.length co11 (l0.length : Int) (by omega) q12 (Kd.R_reads' HO115.out).2.1; clear hi012 hsz12; replace q12 := eq_true q12))
  go_ret
  have hC := (Kd.R_reads' HO115.out)
  have e3 := L3.out
  have hy : y113 = l0 ++ [-7777, -8888] := by rw [Ny113.out, Ny110.out]
  refine ⟨Ao11, co11, by first | rfl | (simp; done), by omega, ?_, HB.out⟩
  have h3 := hC.2.2
  rw [e3] at h3
  rw [hy] at h3
  exact h3

theorem take_two (l0 : List Int) : (l0 ++ [-7777, -8888]).take l0.length = l0 := by simp
set_option maxHeartbeats 8000000 in
set_option maxRecDepth 100000 in
/-- The lent row still holds the numbers and the marks: then the answer is true. -/
theorem kept_ints (A0 : Option Addr) (c0 : Nat) (l0 : List Int) (A1 : Option Addr) (c1 : Nat) (w : World) (hc : l0.length + 2 ≤ c0) (hr0 : Kd.C (Kd.int .i64) w A0 (l0.length + 2) (l0 ++ [-7777, -8888]))
    (hr1 : Kd.C (Kd.int .i64) w A1 l0.length l0) (hc1 : l0.length ≤ c1) (hl : l0.length ≤ 17592186043904) :
    Calls Try.prog 30 #[.slice A0 l0.length c0, .slice A1 l0.length c1] w fun e w' => e = .returned (.bool true) ∧ Drawn0 w w' := by
  obtain ⟨ad, rfl, cell0⟩ := Kd.at_int hr0 (l0.length : Int) (by omega) (by omega)
  obtain ⟨ad', e', cell1⟩ := Kd.at_int hr0 ((l0.length + 1 : Nat) : Int) (by omega) (by omega)
  obtain rfl : ad = ad' := by injection e'
  have r0 : rd (l0 ++ [-7777, -8888]) (l0.length : Int) = -7777 := by simp [rd]
  have r1 : rd (l0 ++ [-7777, -8888]) ((l0.length + 1 : Nat) : Int) = -8888 := by simp [rd]
  rw [r0, Int.toNat_natCast] at cell0
  rw [r1, Int.toNat_natCast] at cell1
  have ea : ad.add (l0.length + 1) = ⟨ad.block, ad.off + (l0.length + 1), none⟩ := by unfold Addr.add; simp
  rw [ea] at cell1
  clear r0 r1 e' ea
  have HT : Aside0 (Kd.C (Kd.int .i64) w (some ad) l0.length l0) := ⟨by
    refine ⟨rfl, by omega, fun hn => ?_⟩
    obtain ⟨ad2, e, hcc⟩ := hr0.2.2 (by omega)
    refine ⟨ad2, e, fun j p hj => hcc j p ?_⟩
    rw [List.getElem?_append_left (List.getElem?_eq_some_iff.1 hj).1]
    exact hj⟩
  have HR1 := Aside0.mk hr1
  have HS := Aside0.mk (same_at l0 l0 hl (l0.length + 1) (by omega))
  have HC0 := Aside0.mk hc
  have HC1 := Aside0.mk hc1
  obtain ⟨n, hn⟩ : ∃ n, n = l0.length := ⟨_, rfl⟩
  rw [← hn] at hc hl cell0 cell1
  have HN := Aside0.mk hn
  clear hr0 hr1 hc1
  have g0 : wrap64 ((n : Int) + 2) = (n : Int) + 2 := wrap_in _ (by omega) (by omega)
  have g1 : (0 ≤ (n : Int) + 2) = True := eq_true (by omega)
  have g2 : ((n : Int) + 2 ≤ (c0 : Int)) = True := eq_true (by omega)
  have g3 : ((n : Int) + 2).toNat = n + 2 := by omega
  have g4 : ((n : Int) < (n : Int) + 2) = True := eq_true (by omega)
  rw [← hn]
  clear hn
  go_enter Try.func30, Try.ntmps30
  go_wp2_with fail
  have hS := tollbarlaw0_SameInts.calls (l0.length + 1) (some ad) c0 l0 A1 c1 l0 true w HT.out (by have := HC0.out; omega) HR1.out HC1.out (by rw [HS.out]; rfl)
  rw [← HN.out] at hS
  refine hS.mono ?_
  rintro e w' ⟨rfl, ⟨m, rfl⟩⟩
  clear hS
  go_wp2
  go_ret
  exact ⟨rfl, Drawn0.step (Drawn0.refl _) _⟩

end Go.Proofs.Ytbacdpagpdmkoaa.Man
