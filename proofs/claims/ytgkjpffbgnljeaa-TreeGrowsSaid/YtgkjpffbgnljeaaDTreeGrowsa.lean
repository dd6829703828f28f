/- Texts of this claim laid together: QA4, QA6, QA10. -/
import Derived.Test.YtgkjpffbgnljeaaCbd
-- written by this session's program mprint.py: functions of the Go program, and their contracts
namespace Go.Proofs.Ytgkjpffbgnljeaa.QA
open Go.RowKit Go.Proofs.Ytgkjpffbgnljeaa.Au Go.Proofs.Ytgkjpffbgnljeaa.QT  Go.Proofs.YtgkjpffbgnljeaaW.PrintWords Go.Proofs.YtgkjpffbgnljeaaW.PrintLast Go.Proofs.YtgkjpffbgnljeaaW.PrintMore
attribute [local go_sem] max2_int min2_int max_two min_two max_three min_three max_four min_four
set_option linter.unusedVariables false
set_option linter.unusedSimpArgs false
mutual
def tollbarref17_hung.j0 : Nat → Int → List Bool → Bool → List (S64) → Int → List Int → Option ((List (S50)) × Int × Int × Bool × List Bool)
 | 0, _, _, _, _, _, _ => none
 | k + 1, x1, x2, x38, xqa, xqb, xqc => if x38 = true then (some (([] : List (S50)), 0, 0, false, x2)) else (if 0 ≤ x1 then (if x1 < (x2.length : Int) then (if x1 < (xqa.length : Int) then ((tollbarref17_hung.f k xqa xqb xqc ((rd_T64 xqa x1).f1) (x2.set (x1 : Int).toNat true)).bind fun bt127 => ((tollbarref17_hung.f k xqa xqb xqc ((rd_T64 xqa x1).f2) bt127.2.2.2.2).bind fun bt134 => (if bt127.2.2.2.1 = true then (if bt134.2.2.2.1 = true then ((tollbarref17_ItemMay.f ((rd_T64 xqa x1).f0.f0.f0) ((rd_T64 xqa x1).f0.f0.f1) ((rd_T64 xqa x1).f0.f1)).bind fun t141 => (if t141 = true then (if (wrap64 (bt127.2.1 - bt134.2.1)) > 1 then (tollbarref17_hung.j1 k bt134.2.2.2.2 bt127.1 bt127.2.1 bt127.2.2.1 bt134.1 bt134.2.1 bt134.2.2.1 true ((rd_T64 xqa x1).f0.f0.f0) ((rd_T64 xqa x1).f0.f0.f1) ((rd_T64 xqa x1).f0.f1) ((rd_T64 xqa x1).f1) ((rd_T64 xqa x1).f2) ((rd_T64 xqa x1).f3) ((rd_T64 xqa x1).f4)) else (tollbarref17_hung.j1 k bt134.2.2.2.2 bt127.1 bt127.2.1 bt127.2.2.1 bt134.1 bt134.2.1 bt134.2.2.1 (decide ((wrap64 (bt134.2.1 - bt127.2.1)) > 1)) ((rd_T64 xqa x1).f0.f0.f0) ((rd_T64 xqa x1).f0.f0.f1) ((rd_T64 xqa x1).f0.f1) ((rd_T64 xqa x1).f1) ((rd_T64 xqa x1).f2) ((rd_T64 xqa x1).f3) ((rd_T64 xqa x1).f4))) else (tollbarref17_hung.j1 k bt134.2.2.2.2 bt127.1 bt127.2.1 bt127.2.2.1 bt134.1 bt134.2.1 bt134.2.2.1 true ((rd_T64 xqa x1).f0.f0.f0) ((rd_T64 xqa x1).f0.f0.f1) ((rd_T64 xqa x1).f0.f1) ((rd_T64 xqa x1).f1) ((rd_T64 xqa x1).f2) ((rd_T64 xqa x1).f3) ((rd_T64 xqa x1).f4)))) else (tollbarref17_hung.j1 k bt134.2.2.2.2 bt127.1 bt127.2.1 bt127.2.2.1 bt134.1 bt134.2.1 bt134.2.2.1 true ((rd_T64 xqa x1).f0.f0.f0) ((rd_T64 xqa x1).f0.f0.f1) ((rd_T64 xqa x1).f0.f1) ((rd_T64 xqa x1).f1) ((rd_T64 xqa x1).f2) ((rd_T64 xqa x1).f3) ((rd_T64 xqa x1).f4))) else (tollbarref17_hung.j1 k bt134.2.2.2.2 bt127.1 bt127.2.1 bt127.2.2.1 bt134.1 bt134.2.1 bt134.2.2.1 true ((rd_T64 xqa x1).f0.f0.f0) ((rd_T64 xqa x1).f0.f0.f1) ((rd_T64 xqa x1).f0.f1) ((rd_T64 xqa x1).f1) ((rd_T64 xqa x1).f2) ((rd_T64 xqa x1).f3) ((rd_T64 xqa x1).f4))))) else (none)) else (none)) else (none))
def tollbarref17_hung.j1 : Nat → List Bool → List (S50) → Int → Int → List (S50) → Int → Int → Bool → Int → Int → Int → Int → Int → Int → Int → Option ((List (S50)) × Int × Int × Bool × List Bool)
 | 0, _, _, _, _, _, _, _, _, _, _, _, _, _, _, _ => none
 | k + 1, x2, x11, x12, x13, x15, x16, x17, x90, xqd, xqe, xqf, xqg, xqh, xqi, xqj => if x90 = true then (some (([] : List (S50)), 0, 0, false, x2)) else (if x16 > x12 then (tollbarref17_hung.j2 k x2 x11 x15 x17 x16 x13 xqd xqe xqf xqg xqh xqi xqj) else (tollbarref17_hung.j2 k x2 x11 x15 x17 x12 x13 xqd xqe xqf xqg xqh xqi xqj))
def tollbarref17_hung.j2 : Nat → List Bool → List (S50) → List (S50) → Int → Int → Int → Int → Int → Int → Int → Int → Int → Int → Option ((List (S50)) × Int × Int × Bool × List Bool)
 | 0, _, _, _, _, _, _, _, _, _, _, _, _, _ => none
 | k + 1, x2, x11, x15, x17, x19, x20, xqd, xqe, xqf, xqg, xqh, xqi, xqj => if x17 > x20 then (tollbarref17_hung.j3 k x2 x11 x15 x19 x17 xqd xqe xqf xqg xqh xqi xqj) else (tollbarref17_hung.j3 k x2 x11 x15 x19 x20 xqd xqe xqf xqg xqh xqi xqj)
def tollbarref17_hung.j3 : Nat → List Bool → List (S50) → List (S50) → Int → Int → Int → Int → Int → Int → Int → Int → Int → Option ((List (S50)) × Int × Int × Bool × List Bool)
 | 0, _, _, _, _, _, _, _, _, _, _, _, _ => none
 | k + 1, x2, x11, x15, x19, x20, xqd, xqe, xqf, xqg, xqh, xqi, xqj => if xqe > x20 then (if xqi = (wrap64 (x19 + 1)) then (if xqj = xqe then ((some (([] : List (S50)) : List (S50))).bind fun y142 => (if y142.length + x11.length < 5864062014805 then ((some (y142 ++ x11 : List (S50))).bind fun y145 => (if y145.length < 5864062014805 then ((some (y145 ++ [(⟨(⟨xqd, xqe⟩ : S27), xqf⟩ : S50)] : List (S50))).bind fun y148 => (if y148.length + x15.length < 5864062014805 then (some ((y148 ++ x15), wrap64 (x19 + 1), xqe, true, x2)) else (none))) else (none))) else (none))) else (some (([] : List (S50)), 0, 0, false, x2))) else (some (([] : List (S50)), 0, 0, false, x2))) else (if xqi = (wrap64 (x19 + 1)) then (if xqj = x20 then ((some (([] : List (S50)) : List (S50))).bind fun y154 => (if y154.length + x11.length < 5864062014805 then ((some (y154 ++ x11 : List (S50))).bind fun y157 => (if y157.length < 5864062014805 then ((some (y157 ++ [(⟨(⟨xqd, xqe⟩ : S27), xqf⟩ : S50)] : List (S50))).bind fun y160 => (if y160.length + x15.length < 5864062014805 then (some ((y160 ++ x15), wrap64 (x19 + 1), x20, true, x2)) else (none))) else (none))) else (none))) else (some (([] : List (S50)), 0, 0, false, x2))) else (some (([] : List (S50)), 0, 0, false, x2)))
def tollbarref17_hung.f : Nat → List (S64) → Int → List Int → Int → List Bool → Option ((List (S50)) × Int × Int × Bool × List Bool)
 | 0, _, _, _, _, _ => none
 | k + 1, l0_0, a0_1, l0_2, a1, l2 => if a1 = (-1) then (some (([] : List (S50)), 0, 0, true, l2)) else (if a1 < 0 then (tollbarref17_hung.j0 k a1 l2 true l0_0 a0_1 l0_2) else (if a1 ≥ (l0_0.length : Int) then (tollbarref17_hung.j0 k a1 l2 true l0_0 a0_1 l0_2) else (if 0 ≤ a1 then (if a1 < (l2.length : Int) then (tollbarref17_hung.j0 k a1 l2 (rdOf false l2 a1) l0_0 a0_1 l0_2) else (none)) else (none))))
end
set_option maxHeartbeats 8000000 in
set_option maxRecDepth 100000 in
theorem tollbarref17_hung.calls (k : Nat) : ∀ (A0_0 : Option Addr) (c0_0 : Nat) (l0_0 : List (S64)) (a0_1 : Int) (A0_2 : Option Addr) (c0_2 : Nat) (l0_2 : List Int) (a1 : Int) (P2_ : Nat → Prop) (u9000_ : Value) (l2 : List Bool) (r1 : List (S50)) (r2 : Int) (r3 : Int) (r4 : Bool) (r5 : List Bool) (w0 w : World) (hB : Below w0.heap.size w0 w) (hr0_0 : ∀ W_, Kept w W_ (fun k_ => P2_ k_) → Kd.C k64 W_ A0_0 l0_0.length l0_0) (hc0_0 : l0_0.length ≤ c0_0) (hr0_2 : ∀ W_, Kept w W_ (fun k_ => P2_ k_) → Kd.C (Kd.int .i64) W_ A0_2 l0_2.length l0_2) (hc0_2 : l0_2.length ≤ c0_2) (ho2 : Kd.R Kd.bool 4 w w0.heap.size P2_ u9000_ l2) (h : tollbarref17_hung.f k l0_0 a0_1 l0_2 a1 l2 = some (r1, r2, r3, r4, r5)),
  Calls Try.prog 43 #[.agg #[.slice A0_0 l0_0.length c0_0, .int .i64 a0_1, .slice A0_2 l0_2.length c0_2], .int .i64 a1, u9000_] w fun e w' => ∃ v0_ : Value, e = .returned (.tuple #[v0_, .int .i64 r2, .int .i64 r3, .bool r4]) ∧ Kd.R k50 50 w' w0.heap.size (fun k_ => (P2_ k_ ∨ w.heap.size ≤ k_)) v0_ r1 ∧ Kd.R Kd.bool 4 w' w0.heap.size (fun k_ => (P2_ k_ ∨ w.heap.size ≤ k_)) u9000_ r5 ∧ Below w0.heap.size w0 w' ∧ Kept w w' (fun k_ => P2_ k_) := by
 induction k using Nat.strongRecOn with
 | _ k ih =>
 intro A0_0 c0_0 l0_0 a0_1 A0_2 c0_2 l0_2 a1 P2_ u9000_ l2 r1 r2 r3 r4 r5 w0 w hB hr0_0 hc0_0 hr0_2 hc0_2 ho2 h
 cases k with
 | zero => exact absurd h (by simp [tollbarref17_hung.f])
 | succ k =>
 simp only [tollbarref17_hung.f] at h
 have hu25 := Try.underlying25
 have hu64 := Try.underlying64
 have hu50 := Try.underlying50
 have HR0_0 := zK hr0_0
 have HC0_0 := zK hc0_0
 clear hr0_0 hc0_0
 have HR0_2 := zK hr0_2
 have HC0_2 := zK hc0_2
 clear hr0_2 hc0_2
 have HO2 := zK (show Kd.R Kd.bool 4 w w0.heap.size (fun k_ => (P2_ k_ ∨ w.heap.size ≤ k_)) u9000_ l2 from Kd.R_mono ho2 (fun k_ hk => (.inl hk)))
 have HK := zK (Kept.refl w (fun k_ => P2_ k_))
 have HW0 := zK hB.size
 have HB := zK hB
 clear hB
 have H : (if a1 = (-1) then (some (([] : List (S50)), 0, 0, true, l2)) else (if a1 < 0 then (tollbarref17_hung.j0 k a1 l2 true l0_0 a0_1 l0_2) else (if a1 ≥ (l0_0.length : Int) then (tollbarref17_hung.j0 k a1 l2 true l0_0 a0_1 l0_2) else (if 0 ≤ a1 then (if a1 < (l2.length : Int) then (tollbarref17_hung.j0 k a1 l2 (rdOf false l2 a1) l0_0 a0_1 l0_2) else (none)) else (none))))) = some (r1, r2, r3, r4, r5) := h
 clear h
 by_cases c4 : a1 = (-1)
 ·rw [if_pos c4] at H
  have c4b0 : (a1 == (-1)) = true := yI.mpr c4
  have c4b1 : (a1 != (-1)) = false := yJ.mpr c4
  clear c4
  simp only [Option.some.injEq, Prod.mk.injEq] at H
  obtain ⟨rfl, rfl, rfl, rfl, rfl⟩ := H
  go_enter Try.func43, Try.ntmps43
  go_wp2_with (first | ((with_reducible refine gate_dst (N := 3) rfl ?_); (try (refine gate_guard (by rfl) ?_; dsimp only)); refine box_event ?hg (N := 3) ?hd (cs := #[.slice A0_0 l0_0.length c0_0, .int .i64 a0_1, .slice A0_2 l0_2.length c0_2]) (t := 25) ?hr ?_; (case hd => rfl); (case hg => rfl); (case hr => first | (go_simp; done) | (go_simp; rfl)); intro gb122 hg w5 hbox hb; have n0_ := zK (zO (zr HO2.out) hb); have n1_ := zK (Kept.below (S := (fun k_ => P2_ k_)) (by repeat (first | (with_reducible first | exact HK.out | apply Kept.alloc | apply Kept.drewN | apply Kept.drew) | exact HK.out)) hb); have n2_ := zK (yF (zl HB.out) hb); have n3_ := zK (hbox); have n4_ := zK ((by rw [hg]; exact (by first | exact HK.out.1 | exact (show Kept w _ (fun k_ => P2_ k_) from by repeat (first | (with_reducible first | exact HK.out | apply Kept.alloc | apply Kept.drewN | apply Kept.drew) | exact HK.out)).1) : w.heap.size ≤ gb122)); have n5_ := zK ((by rw [hg]; exact (yG (zl HB.out)) : w0.heap.size ≤ gb122)); clear HO2; clear HK; clear HB; have HO2 := n0_; have HK := n1_; have HB := n2_; have BK122 := n3_; have GW122 := n4_; have GE122 := n5_; clear n0_ n1_ n2_ n3_ n4_ n5_; clear hb hbox hg))
  refine bodyPost_ret (results_list (rs := [.tmp 6, .tmp 7, .tmp 8, .tmp 9]) rfl (by simp) (.tmp (.tmp (.tmp (.tmp .nil))))) rfl ?_
  exact ⟨_, by first | rfl | (simp [errW_none, errW_some] <;> rfl) | (simp [*, errW_none, errW_some] <;> rfl), by first | exact Kd.R_nil _ _ _ _ _ | exact Kd.N_nil _ _ _ _ _ | exact Kd.V_nil _ _ _ _ _ | exact Kd.Q_nil _ _ _ _ _ | exact Kd.S_nil _ _ _ _ _, by (with_reducible repeat (first | apply zA | apply zB | apply zC)); exact HO2.out, by repeat (first | (with_reducible first | exact HB.out | apply zG | apply zH | apply zI | refine zL ?_ GE122.out) | exact HB.out), by repeat (first | (with_reducible first | exact HK.out | apply Kept.alloc | apply Kept.drewN | apply Kept.drew | refine Kept.setCell ?_ (.inr GW122.out) _) | exact HK.out)⟩
 ·rw [if_neg c4] at H
  have c4b0 : (a1 == (-1)) = false := yK.mpr c4
  have c4b1 : (a1 != (-1)) = true := yL.mpr c4
  have HC6 := zK H
  clear H
  go_enter Try.func43, Try.ntmps43
  go_upto_region 3 with (first | ((with_reducible refine gate_dst (N := 3) rfl ?_); (try (refine gate_guard (by rfl) ?_; dsimp only)); refine box_event ?hg (N := 3) ?hd (cs := #[.slice A0_0 l0_0.length c0_0, .int .i64 a0_1, .slice A0_2 l0_2.length c0_2]) (t := 25) ?hr ?_; (case hd => rfl); (case hg => rfl); (case hr => first | (go_simp; done) | (go_simp; rfl)); intro gb122 hg w7 hbox hb; have n0_ := zK (zO (zr HO2.out) hb); have n1_ := zK (Kept.below (S := (fun k_ => P2_ k_)) (by repeat (first | (with_reducible first | exact HK.out | apply Kept.alloc | apply Kept.drewN | apply Kept.drew) | exact HK.out)) hb); have n2_ := zK (yF (zl HB.out) hb); have n3_ := zK (hbox); have n4_ := zK ((by rw [hg]; exact (by first | exact HK.out.1 | exact (show Kept w _ (fun k_ => P2_ k_) from by repeat (first | (with_reducible first | exact HK.out | apply Kept.alloc | apply Kept.drewN | apply Kept.drew) | exact HK.out)).1) : w.heap.size ≤ gb122)); have n5_ := zK ((by rw [hg]; exact (yG (zl HB.out)) : w0.heap.size ≤ gb122)); clear HO2; clear HK; clear HB; have HO2 := n0_; have HK := n1_; have HB := n2_; have BK122 := n3_; have GW122 := n4_; have GE122 := n5_; clear n0_ n1_ n2_ n3_ n4_ n5_; clear hb hbox hg))
  (try simp only [Act.put, zY, zZ, yA])
  go_cut [38] (fun v38 wc => ∃ (kq : Nat) (x38_5 : Bool), v38 = .bool x38_5 ∧ Aside0 (tollbarref17_hung.j0 kq a1 l2 x38_5 l0_0 a0_1 l0_2 = some (r1, r2, r3, r4, r5)) ∧ Aside0 (kq ≤ k) ∧ Aside0 (Kd.R Kd.bool 4 wc w0.heap.size (fun k_ => (P2_ k_ ∨ w.heap.size ≤ k_)) u9000_ l2) ∧ Aside0 (wc.heap[gb122]? = some (.cells #[(.slice A0_0 l0_0.length c0_0), .int .i64 a0_1, (.slice A0_2 l0_2.length c0_2)] 25 (0, 0))) ∧ Aside0 (Kept w wc (fun k_ => P2_ k_)) ∧ Aside0 (Below w0.heap.size w0 wc))
  case first =>
   have H := HC6.out
   clear HC6
   by_cases c8 : a1 < 0
   ·rw [if_pos c8] at H
    have c8b0 : decide (a1 < 0) = true := decide_eq_true c8
    clear c8
    (first | rw [c8b0] | (simp only [i64_w, i32_w]; rw [c8b0]) | skip)
    have H' := zK H
    clear H
    go_wp2
    go_meet
    case rel => exact ⟨_, (true), zz, H', ⟨by first | omega | exact Nat.le_refl _⟩, ⟨by (with_reducible repeat (first | apply zA | apply zB | apply zC)); exact HO2.out⟩, ⟨by (with_reducible repeat (first | refine zD ?_ _ | refine zE ?_ | refine zF ?_ _)); exact BK122.out⟩, ⟨by repeat (first | (with_reducible first | exact HK.out | apply Kept.alloc | apply Kept.drewN | apply Kept.drew | refine Kept.setCell ?_ (.inr GW122.out) _) | exact HK.out)⟩, ⟨by repeat (first | (with_reducible first | exact HB.out | apply zG | apply zH | apply zI | refine zL ?_ GE122.out) | exact HB.out)⟩⟩
   ·rw [if_neg c8] at H
    have c8b0 : decide (a1 < 0) = false := decide_eq_false c8
    clear c8
    (first | rw [c8b0] | (simp only [i64_w, i32_w]; rw [c8b0]) | skip)
    by_cases c9 : a1 ≥ (l0_0.length : Int)
    ·rw [if_pos c9] at H
     have c9b0 : decide ((l0_0.length : Int) ≤ a1) = true := decide_eq_true c9
     clear c9
     have H' := zK H
     clear H
     have hcz10_0 : w7.cell? ⟨gb122, 0, none⟩ = some (.slice A0_0 l0_0.length c0_0) := (zQ BK122.out 0).trans rfl
     have hcz10_1 : w7.cell? ⟨gb122, 1, none⟩ = some (.int .i64 a0_1) := (zQ BK122.out 1).trans rfl
     have hcz10_2 : w7.cell? ⟨gb122, 2, none⟩ = some (.slice A0_2 l0_2.length c0_2) := (zQ BK122.out 2).trans rfl
     have hfz10_0 := zR BK122.out 0
     have hfz10_1 := zR BK122.out 1
     have hfz10_2 := zR BK122.out 2
     go_wp2
     go_meet
     case rel => exact ⟨_, (true), zz, H', ⟨by first | omega | exact Nat.le_refl _⟩, ⟨by (with_reducible repeat (first | apply zA | apply zB | apply zC)); exact HO2.out⟩, ⟨by (with_reducible repeat (first | refine zD ?_ _ | refine zE ?_ | refine zF ?_ _)); exact BK122.out⟩, ⟨by repeat (first | (with_reducible first | exact HK.out | apply Kept.alloc | apply Kept.drewN | apply Kept.drew | refine Kept.setCell ?_ (.inr GW122.out) _) | exact HK.out)⟩, ⟨by repeat (first | (with_reducible first | exact HB.out | apply zG | apply zH | apply zI | refine zL ?_ GE122.out) | exact HB.out)⟩⟩
    ·rw [if_neg c9] at H
     have c9b0 : decide ((l0_0.length : Int) ≤ a1) = false := decide_eq_false c9
     clear c9
     by_cases c11 : 0 ≤ a1
     ·rw [if_pos c11] at H
      have c11b0 : decide (0 ≤ a1) = true := decide_eq_true c11
      clear c11
      by_cases c12 : a1 < (l2.length : Int)
      ·rw [if_pos c12] at H
       have c12b0 : decide (a1 < (l2.length : Int)) = true := decide_eq_true c12
       clear c12
       have H' := zK H
       clear H
       have hcz13_0 : w7.cell? ⟨gb122, 0, none⟩ = some (.slice A0_0 l0_0.length c0_0) := (zQ BK122.out 0).trans rfl
       have hcz13_1 : w7.cell? ⟨gb122, 1, none⟩ = some (.int .i64 a0_1) := (zQ BK122.out 1).trans rfl
       have hcz13_2 : w7.cell? ⟨gb122, 2, none⟩ = some (.slice A0_2 l0_2.length c0_2) := (zQ BK122.out 2).trans rfl
       have hfz13_0 := zR BK122.out 0
       have hfz13_1 := zR BK122.out 1
       have hfz13_2 := zR BK122.out 2
       obtain ⟨Ao14, co14, eo14⟩ := yE HO2.out
       subst eo14
       have p123 : 0 ≤ (a1 : Int) := of_decide_eq_true (by first | (with_reducible assumption) | assumption)
       have q123 : a1 < (l2.length : Int) := of_decide_eq_true (by first | (with_reducible assumption) | assumption)
       obtain ⟨ad123, e123, hx123_0⟩ := Kd.at_bool (zX HO2.out).2.2 a1 p123 q123
       cases e123
       replace p123 := eq_true p123
       replace q123 := eq_true q123
       go_wp2
       go_meet
       case rel => exact ⟨_, (rdOf false l2 a1), zz, H', ⟨by first | omega | exact Nat.le_refl _⟩, ⟨by (with_reducible repeat (first | apply zA | apply zB | apply zC)); exact HO2.out⟩, ⟨by (with_reducible repeat (first | refine zD ?_ _ | refine zE ?_ | refine zF ?_ _)); exact BK122.out⟩, ⟨by repeat (first | (with_reducible first | exact HK.out | apply Kept.alloc | apply Kept.drewN | apply Kept.drew | refine Kept.setCell ?_ (.inr GW122.out) _) | exact HK.out)⟩, ⟨by repeat (first | (with_reducible first | exact HB.out | apply zG | apply zH | apply zI | refine zL ?_ GE122.out) | exact HB.out)⟩⟩
      ·rw [if_neg c12] at H
       exact absurd H (by simp)
     ·rw [if_neg c11] at H
      exact absurd H (by simp)
  case rest =>
   clear HC6
   try clear c1
   try clear p1
   try clear q1
   try clear hx1
   try clear p2
   try clear c4
   try clear c4b0
   try clear c4b1
   try clear c8
   try clear c8b0
   try clear c9
   try clear c9b0
   try clear c11
   try clear c11b0
   try clear c12
   try clear c12b0
   try clear p12
   try clear q12
   try clear hx12
   try clear hcz10_0
   try clear hcz10_1
   try clear hcz10_2
   try clear hcz13_0
   try clear hcz13_1
   try clear hcz13_2
   try clear hfz10_0
   try clear hfz10_1
   try clear hfz10_2
   try clear hfz13_0
   try clear hfz13_1
   try clear hfz13_2
   try clear hx123_0
   try clear p123
   try clear q123
   obtain ⟨kq, x38_5, rfl, HA, HJ5, HO_2, BK122, HK, HB⟩ := hcut
   cases kq with
   | zero => exact absurd HA.out (by simp [tollbarref17_hung.j0])
   | succ kj5 =>
    have H := HA.out
    clear HA
    simp only [tollbarref17_hung.j0] at H
    by_cases c15 : x38_5 = true
    ·subst c15
     have H1 : (some (([] : List (S50)), 0, 0, false, l2)) = some (r1, r2, r3, r4, r5) := by rw [if_pos rfl] at H; exact H
     clear H
     have H := H1
     clear H1
     simp only [Option.some.injEq, Prod.mk.injEq] at H
     obtain ⟨rfl, rfl, rfl, rfl, rfl⟩ := H
     go_wp2
     refine bodyPost_ret (results_list (rs := [.tmp 6, .tmp 7, .tmp 8, .tmp 9]) rfl (by simp) (.tmp (.tmp (.tmp (.tmp .nil))))) rfl ?_
     exact ⟨_, by first | rfl | (simp [errW_none, errW_some] <;> rfl) | (simp [*, errW_none, errW_some] <;> rfl), by first | exact Kd.R_nil _ _ _ _ _ | exact Kd.N_nil _ _ _ _ _ | exact Kd.V_nil _ _ _ _ _ | exact Kd.Q_nil _ _ _ _ _ | exact Kd.S_nil _ _ _ _ _, by (with_reducible repeat (first | apply zA | apply zB | apply zC)); exact HO_2.out, by repeat (first | (with_reducible first | exact HB.out | apply zG | apply zH | apply zI | refine zL ?_ GE122.out) | exact HB.out), by repeat (first | (with_reducible first | exact HK.out | apply Kept.alloc | apply Kept.drewN | apply Kept.drew | refine Kept.setCell ?_ (.inr GW122.out) _) | exact HK.out)⟩
    ·replace c15 := Bool.eq_false_iff.mpr c15
     subst c15
     have H1 : (if 0 ≤ a1 then (if a1 < (l2.length : Int) then (if a1 < (l0_0.length : Int) then ((tollbarref17_hung.f kj5 l0_0 a0_1 l0_2 ((rd_T64 l0_0 a1).f1) (l2.set (a1 : Int).toNat true)).bind fun bt127 => ((tollbarref17_hung.f kj5 l0_0 a0_1 l0_2 ((rd_T64 l0_0 a1).f2) bt127.2.2.2.2).bind fun bt134 => (if bt127.2.2.2.1 = true then (if bt134.2.2.2.1 = true then ((tollbarref17_ItemMay.f ((rd_T64 l0_0 a1).f0.f0.f0) ((rd_T64 l0_0 a1).f0.f0.f1) ((rd_T64 l0_0 a1).f0.f1)).bind fun t141 => (if t141 = true then (if (wrap64 (bt127.2.1 - bt134.2.1)) > 1 then (tollbarref17_hung.j1 kj5 bt134.2.2.2.2 bt127.1 bt127.2.1 bt127.2.2.1 bt134.1 bt134.2.1 bt134.2.2.1 true ((rd_T64 l0_0 a1).f0.f0.f0) ((rd_T64 l0_0 a1).f0.f0.f1) ((rd_T64 l0_0 a1).f0.f1) ((rd_T64 l0_0 a1).f1) ((rd_T64 l0_0 a1).f2) ((rd_T64 l0_0 a1).f3) ((rd_T64 l0_0 a1).f4)) else (tollbarref17_hung.j1 kj5 bt134.2.2.2.2 bt127.1 bt127.2.1 bt127.2.2.1 bt134.1 bt134.2.1 bt134.2.2.1 (decide ((wrap64 (bt134.2.1 - bt127.2.1)) > 1)) ((rd_T64 l0_0 a1).f0.f0.f0) ((rd_T64 l0_0 a1).f0.f0.f1) ((rd_T64 l0_0 a1).f0.f1) ((rd_T64 l0_0 a1).f1) ((rd_T64 l0_0 a1).f2) ((rd_T64 l0_0 a1).f3) ((rd_T64 l0_0 a1).f4))) else (tollbarref17_hung.j1 kj5 bt134.2.2.2.2 bt127.1 bt127.2.1 bt127.2.2.1 bt134.1 bt134.2.1 bt134.2.2.1 true ((rd_T64 l0_0 a1).f0.f0.f0) ((rd_T64 l0_0 a1).f0.f0.f1) ((rd_T64 l0_0 a1).f0.f1) ((rd_T64 l0_0 a1).f1) ((rd_T64 l0_0 a1).f2) ((rd_T64 l0_0 a1).f3) ((rd_T64 l0_0 a1).f4)))) else (tollbarref17_hung.j1 kj5 bt134.2.2.2.2 bt127.1 bt127.2.1 bt127.2.2.1 bt134.1 bt134.2.1 bt134.2.2.1 true ((rd_T64 l0_0 a1).f0.f0.f0) ((rd_T64 l0_0 a1).f0.f0.f1) ((rd_T64 l0_0 a1).f0.f1) ((rd_T64 l0_0 a1).f1) ((rd_T64 l0_0 a1).f2) ((rd_T64 l0_0 a1).f3) ((rd_T64 l0_0 a1).f4))) else (tollbarref17_hung.j1 kj5 bt134.2.2.2.2 bt127.1 bt127.2.1 bt127.2.2.1 bt134.1 bt134.2.1 bt134.2.2.1 true ((rd_T64 l0_0 a1).f0.f0.f0) ((rd_T64 l0_0 a1).f0.f0.f1) ((rd_T64 l0_0 a1).f0.f1) ((rd_T64 l0_0 a1).f1) ((rd_T64 l0_0 a1).f2) ((rd_T64 l0_0 a1).f3) ((rd_T64 l0_0 a1).f4))))) else (none)) else (none)) else (none)) = some (r1, r2, r3, r4, r5) := by rw [if_neg (show ¬ (false = true) by decide)] at H; exact H
     clear H
     have H := H1
     clear H1
     by_cases c16 : 0 ≤ a1
     ·rw [if_pos c16] at H
      have c16b0 : decide (0 ≤ a1) = true := decide_eq_true c16
      clear c16
      by_cases c17 : a1 < (l2.length : Int)
      ·rw [if_pos c17] at H
       have c17b0 : decide (a1 < (l2.length : Int)) = true := decide_eq_true c17
       clear c17
       obtain ⟨y124, hy124⟩ : ∃ y_ : List Bool, y_ = (l2.set (a1 : Int).toNat true) := ⟨_, rfl⟩
       replace H : (if a1 < (l0_0.length : Int) then ((tollbarref17_hung.f kj5 l0_0 a0_1 l0_2 ((rd_T64 l0_0 a1).f1) y124).bind fun bt127 => ((tollbarref17_hung.f kj5 l0_0 a0_1 l0_2 ((rd_T64 l0_0 a1).f2) bt127.2.2.2.2).bind fun bt134 => (if bt127.2.2.2.1 = true then (if bt134.2.2.2.1 = true then ((tollbarref17_ItemMay.f ((rd_T64 l0_0 a1).f0.f0.f0) ((rd_T64 l0_0 a1).f0.f0.f1) ((rd_T64 l0_0 a1).f0.f1)).bind fun t141 => (if t141 = true then (if (wrap64 (bt127.2.1 - bt134.2.1)) > 1 then (tollbarref17_hung.j1 kj5 bt134.2.2.2.2 bt127.1 bt127.2.1 bt127.2.2.1 bt134.1 bt134.2.1 bt134.2.2.1 true ((rd_T64 l0_0 a1).f0.f0.f0) ((rd_T64 l0_0 a1).f0.f0.f1) ((rd_T64 l0_0 a1).f0.f1) ((rd_T64 l0_0 a1).f1) ((rd_T64 l0_0 a1).f2) ((rd_T64 l0_0 a1).f3) ((rd_T64 l0_0 a1).f4)) else (tollbarref17_hung.j1 kj5 bt134.2.2.2.2 bt127.1 bt127.2.1 bt127.2.2.1 bt134.1 bt134.2.1 bt134.2.2.1 (decide ((wrap64 (bt134.2.1 - bt127.2.1)) > 1)) ((rd_T64 l0_0 a1).f0.f0.f0) ((rd_T64 l0_0 a1).f0.f0.f1) ((rd_T64 l0_0 a1).f0.f1) ((rd_T64 l0_0 a1).f1) ((rd_T64 l0_0 a1).f2) ((rd_T64 l0_0 a1).f3) ((rd_T64 l0_0 a1).f4))) else (tollbarref17_hung.j1 kj5 bt134.2.2.2.2 bt127.1 bt127.2.1 bt127.2.2.1 bt134.1 bt134.2.1 bt134.2.2.1 true ((rd_T64 l0_0 a1).f0.f0.f0) ((rd_T64 l0_0 a1).f0.f0.f1) ((rd_T64 l0_0 a1).f0.f1) ((rd_T64 l0_0 a1).f1) ((rd_T64 l0_0 a1).f2) ((rd_T64 l0_0 a1).f3) ((rd_T64 l0_0 a1).f4)))) else (tollbarref17_hung.j1 kj5 bt134.2.2.2.2 bt127.1 bt127.2.1 bt127.2.2.1 bt134.1 bt134.2.1 bt134.2.2.1 true ((rd_T64 l0_0 a1).f0.f0.f0) ((rd_T64 l0_0 a1).f0.f0.f1) ((rd_T64 l0_0 a1).f0.f1) ((rd_T64 l0_0 a1).f1) ((rd_T64 l0_0 a1).f2) ((rd_T64 l0_0 a1).f3) ((rd_T64 l0_0 a1).f4))) else (tollbarref17_hung.j1 kj5 bt134.2.2.2.2 bt127.1 bt127.2.1 bt127.2.2.1 bt134.1 bt134.2.1 bt134.2.2.1 true ((rd_T64 l0_0 a1).f0.f0.f0) ((rd_T64 l0_0 a1).f0.f0.f1) ((rd_T64 l0_0 a1).f0.f1) ((rd_T64 l0_0 a1).f1) ((rd_T64 l0_0 a1).f2) ((rd_T64 l0_0 a1).f3) ((rd_T64 l0_0 a1).f4))))) else (none)) = some (r1, r2, r3, r4, r5) := by first | (rw [hy124]; with_reducible exact H) | (have H2_ := (Option.bind_some _ _).symm.trans H; rw [hy124]; with_reducible exact H2_) | (have H2_ := (Option.bind_some _ _).symm.trans H; with_reducible exact H2_) | with_reducible exact H | (rw [hy124]; exact H) | exact H
       have Ny124 := zK hy124
       clear hy124
       by_cases c19 : a1 < (l0_0.length : Int)
       ·rw [if_pos c19] at H
        have c19b0 : decide (a1 < (l0_0.length : Int)) = true := decide_eq_true c19
        clear c19
        replace H := yH.mp H
        obtain ⟨⟨t127, t130, t131, t132, t133⟩, A200, H⟩ := H
        replace H : ((tollbarref17_hung.f kj5 l0_0 a0_1 l0_2 ((rd_T64 l0_0 a1).f2) t133).bind fun bt134 => (if t132 = true then (if bt134.2.2.2.1 = true then ((tollbarref17_ItemMay.f ((rd_T64 l0_0 a1).f0.f0.f0) ((rd_T64 l0_0 a1).f0.f0.f1) ((rd_T64 l0_0 a1).f0.f1)).bind fun t141 => (if t141 = true then (if (wrap64 (t130 - bt134.2.1)) > 1 then (tollbarref17_hung.j1 kj5 bt134.2.2.2.2 t127 t130 t131 bt134.1 bt134.2.1 bt134.2.2.1 true ((rd_T64 l0_0 a1).f0.f0.f0) ((rd_T64 l0_0 a1).f0.f0.f1) ((rd_T64 l0_0 a1).f0.f1) ((rd_T64 l0_0 a1).f1) ((rd_T64 l0_0 a1).f2) ((rd_T64 l0_0 a1).f3) ((rd_T64 l0_0 a1).f4)) else (tollbarref17_hung.j1 kj5 bt134.2.2.2.2 t127 t130 t131 bt134.1 bt134.2.1 bt134.2.2.1 (decide ((wrap64 (bt134.2.1 - t130)) > 1)) ((rd_T64 l0_0 a1).f0.f0.f0) ((rd_T64 l0_0 a1).f0.f0.f1) ((rd_T64 l0_0 a1).f0.f1) ((rd_T64 l0_0 a1).f1) ((rd_T64 l0_0 a1).f2) ((rd_T64 l0_0 a1).f3) ((rd_T64 l0_0 a1).f4))) else (tollbarref17_hung.j1 kj5 bt134.2.2.2.2 t127 t130 t131 bt134.1 bt134.2.1 bt134.2.2.1 true ((rd_T64 l0_0 a1).f0.f0.f0) ((rd_T64 l0_0 a1).f0.f0.f1) ((rd_T64 l0_0 a1).f0.f1) ((rd_T64 l0_0 a1).f1) ((rd_T64 l0_0 a1).f2) ((rd_T64 l0_0 a1).f3) ((rd_T64 l0_0 a1).f4)))) else (tollbarref17_hung.j1 kj5 bt134.2.2.2.2 t127 t130 t131 bt134.1 bt134.2.1 bt134.2.2.1 true ((rd_T64 l0_0 a1).f0.f0.f0) ((rd_T64 l0_0 a1).f0.f0.f1) ((rd_T64 l0_0 a1).f0.f1) ((rd_T64 l0_0 a1).f1) ((rd_T64 l0_0 a1).f2) ((rd_T64 l0_0 a1).f3) ((rd_T64 l0_0 a1).f4))) else (tollbarref17_hung.j1 kj5 bt134.2.2.2.2 t127 t130 t131 bt134.1 bt134.2.1 bt134.2.2.1 true ((rd_T64 l0_0 a1).f0.f0.f0) ((rd_T64 l0_0 a1).f0.f0.f1) ((rd_T64 l0_0 a1).f0.f1) ((rd_T64 l0_0 a1).f1) ((rd_T64 l0_0 a1).f2) ((rd_T64 l0_0 a1).f3) ((rd_T64 l0_0 a1).f4)))) = some (r1, r2, r3, r4, r5) := H
        have A20 := zK A200
        clear A200
        replace H := yH.mp H
        obtain ⟨⟨t134, t137, t138, t139, t140⟩, A210, H⟩ := H
        replace H : (if t132 = true then (if t139 = true then ((tollbarref17_ItemMay.f ((rd_T64 l0_0 a1).f0.f0.f0) ((rd_T64 l0_0 a1).f0.f0.f1) ((rd_T64 l0_0 a1).f0.f1)).bind fun t141 => (if t141 = true then (if (wrap64 (t130 - t137)) > 1 then (tollbarref17_hung.j1 kj5 t140 t127 t130 t131 t134 t137 t138 true ((rd_T64 l0_0 a1).f0.f0.f0) ((rd_T64 l0_0 a1).f0.f0.f1) ((rd_T64 l0_0 a1).f0.f1) ((rd_T64 l0_0 a1).f1) ((rd_T64 l0_0 a1).f2) ((rd_T64 l0_0 a1).f3) ((rd_T64 l0_0 a1).f4)) else (tollbarref17_hung.j1 kj5 t140 t127 t130 t131 t134 t137 t138 (decide ((wrap64 (t137 - t130)) > 1)) ((rd_T64 l0_0 a1).f0.f0.f0) ((rd_T64 l0_0 a1).f0.f0.f1) ((rd_T64 l0_0 a1).f0.f1) ((rd_T64 l0_0 a1).f1) ((rd_T64 l0_0 a1).f2) ((rd_T64 l0_0 a1).f3) ((rd_T64 l0_0 a1).f4))) else (tollbarref17_hung.j1 kj5 t140 t127 t130 t131 t134 t137 t138 true ((rd_T64 l0_0 a1).f0.f0.f0) ((rd_T64 l0_0 a1).f0.f0.f1) ((rd_T64 l0_0 a1).f0.f1) ((rd_T64 l0_0 a1).f1) ((rd_T64 l0_0 a1).f2) ((rd_T64 l0_0 a1).f3) ((rd_T64 l0_0 a1).f4)))) else (tollbarref17_hung.j1 kj5 t140 t127 t130 t131 t134 t137 t138 true ((rd_T64 l0_0 a1).f0.f0.f0) ((rd_T64 l0_0 a1).f0.f0.f1) ((rd_T64 l0_0 a1).f0.f1) ((rd_T64 l0_0 a1).f1) ((rd_T64 l0_0 a1).f2) ((rd_T64 l0_0 a1).f3) ((rd_T64 l0_0 a1).f4))) else (tollbarref17_hung.j1 kj5 t140 t127 t130 t131 t134 t137 t138 true ((rd_T64 l0_0 a1).f0.f0.f0) ((rd_T64 l0_0 a1).f0.f0.f1) ((rd_T64 l0_0 a1).f0.f1) ((rd_T64 l0_0 a1).f1) ((rd_T64 l0_0 a1).f2) ((rd_T64 l0_0 a1).f3) ((rd_T64 l0_0 a1).f4))) = some (r1, r2, r3, r4, r5) := H
        have A21 := zK A210
        clear A210
        have HC22 := zK H
        clear H
        have p18 : 0 ≤ (a1 : Int) := of_decide_eq_true (by first | (with_reducible assumption) | assumption)
        have q18 : (a1 : Int) < ((l2.length : Int) : Int) := of_decide_eq_true (by first | (with_reducible assumption) | assumption)
        obtain ⟨go18, co18, eo18, gb18, gl18, cl18, HG18⟩ := Kd.R_form HO_2.out (by omega)
        (first | cases eo18 | (injection eo18 with ea_ en_ ec_; (first | subst ea_ | (injection ea_ with ea_; subst ea_)); subst ec_; clear en_))
        have GB18 := zK gb18
        have GG18 := zK HG18
        clear gb18 gl18 HG18
        have HMgo18 := zK (show (P2_ go18 ∨ w.heap.size ≤ go18) from (HO_2.out.1 _ rfl))
        obtain ⟨hx18_0, hf18_0⟩ := Kd.R_celln false HO_2.out (a1 : Int) p18 q18
        replace p18 := eq_true p18
        replace q18 := eq_true q18
        have HP23 := Kd.R_putg HO_2.out (a1 : Int) true
        go_upto_region 9 with (first | ((with_reducible refine gate_store (t := 4) (p := 41) rfl ?_); refine store_event (t := 4) (p := 41) (v := ?vo_w24) (w1 := (wc.setCell ⟨go18, (a1 : Int).toNat, none⟩ (.bool true))) ?hg ?ho ?hn ?hr ?_; (case ho => rfl); (case hg => rfl); (case hn => rfl); (case hr => first | (go_simp; done) | (go_simp; rfl)); intro w24 hw; have hg : wc.grownBy w24 (some go18) := (by rw [hw]; exact HP23.2); have hp_ : Kd.R Kd.bool 4 w24 w0.heap.size (fun k_ => (P2_ k_ ∨ w.heap.size ≤ k_)) (.slice (some ⟨go18, 0, none⟩) l2.length co18) y124 := (by rw [hw, Ny124.out]; exact HP23.1); clear HP23; have n0_ := zK (hp_); have n1_ := zK (blk_grown (g := gb122) (o := .cells #[.slice A0_0 l0_0.length c0_0, .int .i64 a0_1, .slice A0_2 l0_2.length c0_2] 25 (0, 0)) (zb BK122.out) hg (Kd.R_ne HO_2.out BK122.out (by decide))); have n2_ := zK ((by rw [hw]; exact zL (HB.out) GB18.out : Below w0.heap.size w0 w24)); have n3_ := zK (Kept.of_grown (S := (fun k_ => P2_ k_)) hg (by repeat (first | (with_reducible first | exact HK.out | apply Kept.alloc | apply Kept.drewN | apply Kept.drew | refine Kept.setCell ?_ (.inr GW122.out) _) | exact HK.out)) (fun k_ e_ => (HO_2.out.1 k_ e_))); clear HO_2; clear BK122; clear HB; clear HK; have HO_2 := n0_; have BK122 := n1_; have HB := n2_; have HK := n3_; clear n0_ n1_ n2_ n3_; clear hg hw hp_; have hcz25_0 : w24.cell? ⟨gb122, 0, none⟩ = some (.slice A0_0 l0_0.length c0_0) := (zQ BK122.out 0).trans rfl; have hcz25_1 : w24.cell? ⟨gb122, 1, none⟩ = some (.int .i64 a0_1) := (zQ BK122.out 1).trans rfl; have hcz25_2 : w24.cell? ⟨gb122, 2, none⟩ = some (.slice A0_2 l0_2.length c0_2) := (zQ BK122.out 2).trans rfl; have hfz25_0 := zR BK122.out 0; have hfz25_1 := zR BK122.out 1; have hfz25_2 := zR BK122.out 2; have p125 : 0 ≤ (a1 : Int) := of_decide_eq_true (by first | (with_reducible assumption) | assumption); have q125 : a1 < (l0_0.length : Int) := of_decide_eq_true (by first | (with_reducible assumption) | assumption); obtain ⟨ad125, e125, hx125_0, hx125_1, hx125_2, hx125_3, hx125_4, hx125_5, hx125_6⟩ := at_T64 (Kd.C_kept_now HR0_0.out HK.out) a1 p125 q125; cases e125; replace p125 := eq_true p125; replace q125 := eq_true q125) | ((with_reducible refine gate_dst (N := 10) rfl ?_); (try (refine gate_guard (by rfl) ?_; dsimp only)); refine box_event ?hg (N := 10) ?hd (cs := #[.int .i64 0, .int .i64 0, .int .i64 0, .int .i64 0, .int .i64 0, .int .i64 0, .int .i64 0]) (t := 64) ?hr ?_; (case hd => rfl); (case hg => rfl); (case hr => first | (go_simp; done) | (go_simp; rfl)); intro gb126 hg w26 hbox hb; have n0_ := zK (zO (zr HO_2.out) hb); have n1_ := zK (zP (g := gb122) (o := .cells #[.slice (some ad125) l0_0.length c0_0, .int .i64 a0_1, .slice A0_2 l0_2.length c0_2] 25 (0, 0)) (zb BK122.out) hb); have n2_ := zK (Kept.below (S := (fun k_ => P2_ k_)) (by repeat (first | (with_reducible first | exact HK.out | apply Kept.alloc | apply Kept.drewN | apply Kept.drew | refine Kept.setCell ?_ (.inr GW122.out) _) | exact HK.out)) hb); have n3_ := zK (yF (zl HB.out) hb); have n4_ := zK (hbox); have n5_ := zK ((by rw [hg]; exact (by first | exact HK.out.1 | exact (show Kept w _ (fun k_ => P2_ k_) from by repeat (first | (with_reducible first | exact HK.out | apply Kept.alloc | apply Kept.drewN | apply Kept.drew | refine Kept.setCell ?_ (.inr GW122.out) _) | exact HK.out)).1) : w.heap.size ≤ gb126)); have n6_ := zK ((by rw [hg]; exact (yG (zl HB.out)) : w0.heap.size ≤ gb126)); have n7_ := zK ((by rw [hg]; exact zN (blk_lt (g := gb122) (o := .cells #[.slice (some ad125) l0_0.length c0_0, .int .i64 a0_1, .slice A0_2 l0_2.length c0_2] 25 (0, 0)) (zb BK122.out)) : gb122 ≠ gb126)); have n8_ := zK ((by rw [hg]; exact Nat.ne_of_gt (blk_lt (g := gb122) (o := .cells #[.slice (some ad125) l0_0.length c0_0, .int .i64 a0_1, .slice A0_2 l0_2.length c0_2] 25 (0, 0)) (zb BK122.out)) : gb126 ≠ gb122)); clear HO_2; clear BK122; clear HK; clear HB; have HO_2 := n0_; have BK122 := n1_; have HK := n2_; have HB := n3_; have BK126 := n4_; have GW126 := n5_; have GE126 := n6_; have NB122_126 := n7_; have NB126_122 := n8_; clear n0_ n1_ n2_ n3_ n4_ n5_ n6_ n7_ n8_; clear hb hbox hg; have hnb27 := NB126_122.out; have hnc27 := NB122_126.out; have hcz28_0 : w26.cell? ⟨gb126, 0, none⟩ = some (.int .i64 0) := (zQ BK126.out 0).trans rfl; have hcz28_1 : w26.cell? ⟨gb126, 1, none⟩ = some (.int .i64 0) := (zQ BK126.out 1).trans rfl; have hcz28_2 : w26.cell? ⟨gb126, 2, none⟩ = some (.int .i64 0) := (zQ BK126.out 2).trans rfl; have hcz28_3 : w26.cell? ⟨gb126, 3, none⟩ = some (.int .i64 0) := (zQ BK126.out 3).trans rfl; have hcz28_4 : w26.cell? ⟨gb126, 4, none⟩ = some (.int .i64 0) := (zQ BK126.out 4).trans rfl; have hcz28_5 : w26.cell? ⟨gb126, 5, none⟩ = some (.int .i64 0) := (zQ BK126.out 5).trans rfl; have hcz28_6 : w26.cell? ⟨gb126, 6, none⟩ = some (.int .i64 0) := (zQ BK126.out 6).trans rfl; have hfz28_0 := zR BK126.out 0; have hfz28_1 := zR BK126.out 1; have hfz28_2 := zR BK126.out 2; have hfz28_3 := zR BK126.out 3; have hfz28_4 := zR BK126.out 4; have hfz28_5 := zR BK126.out 5; have hfz28_6 := zR BK126.out 6) | ((with_reducible refine gate_store (t := 64) (p := 10) rfl ?_); refine store_event (t := 64) (p := 10) (v := ?vo_w29) (w1 := (((((((w26.setCell ⟨gb126, 0, none⟩ (.int .i64 ((rd_T64 l0_0 a1).f0.f0.f0))).setCell ⟨gb126, 1, none⟩ (.int .i64 ((rd_T64 l0_0 a1).f0.f0.f1))).setCell ⟨gb126, 2, none⟩ (.int .i64 ((rd_T64 l0_0 a1).f0.f1))).setCell ⟨gb126, 3, none⟩ (.int .i64 ((rd_T64 l0_0 a1).f1))).setCell ⟨gb126, 4, none⟩ (.int .i64 ((rd_T64 l0_0 a1).f2))).setCell ⟨gb126, 5, none⟩ (.int .i64 ((rd_T64 l0_0 a1).f3))).setCell ⟨gb126, 6, none⟩ (.int .i64 ((rd_T64 l0_0 a1).f4)))) ?hg ?ho ?hn ?hr ?_; (case ho => rfl); (case hg => rfl); (case hn => rfl); (case hr => first | (go_simp; done) | (go_simp; rfl)); intro w29 hw; have n0_ : Aside0 (Kd.R Kd.bool 4 w29 w0.heap.size (fun k_ => (P2_ k_ ∨ w.heap.size ≤ k_)) (.slice (some ⟨go18, 0, none⟩) l2.length co18) y124) := ⟨(by rw [hw]; exact (by (with_reducible repeat (first | apply zA | apply zB | apply zC)); exact Kd.R_mono (Kd.R_far (p := ⟨gb126, 6, none⟩) (Kd.R_far (p := ⟨gb126, 5, none⟩) (Kd.R_far (p := ⟨gb126, 4, none⟩) (Kd.R_far (p := ⟨gb126, 3, none⟩) (Kd.R_far (p := ⟨gb126, 2, none⟩) (Kd.R_far (p := ⟨gb126, 1, none⟩) (Kd.R_far (p := ⟨gb126, 0, none⟩) (Kd.R_types HO_2.out BK126.out (by decide)) (fun _ hk => hk.2) (.int .i64 ((rd_T64 l0_0 a1).f0.f0.f0))) (fun _ hk => hk.2) (.int .i64 ((rd_T64 l0_0 a1).f0.f0.f1))) (fun _ hk => hk.2) (.int .i64 ((rd_T64 l0_0 a1).f0.f1))) (fun _ hk => hk.2) (.int .i64 ((rd_T64 l0_0 a1).f1))) (fun _ hk => hk.2) (.int .i64 ((rd_T64 l0_0 a1).f2))) (fun _ hk => hk.2) (.int .i64 ((rd_T64 l0_0 a1).f3))) (fun _ hk => hk.2) (.int .i64 ((rd_T64 l0_0 a1).f4))) (fun _ hk => hk.1)))⟩; have n1_ : Aside0 (w29.heap[gb122]? = some (.cells #[.slice (some ad125) l0_0.length c0_0, .int .i64 a0_1, .slice A0_2 l0_2.length c0_2] 25 (0, 0))) := ⟨(by rw [hw]; exact (by (with_reducible repeat (first | refine zD ?_ _ | refine zE ?_ | refine zF ?_ _)); refine blk_far ?_ NB122_126.out _; (with_reducible repeat (first | refine zD ?_ _ | refine zE ?_ | refine zF ?_ _)); refine blk_far ?_ NB122_126.out _; (with_reducible repeat (first | refine zD ?_ _ | refine zE ?_ | refine zF ?_ _)); refine blk_far ?_ NB122_126.out _; (with_reducible repeat (first | refine zD ?_ _ | refine zE ?_ | refine zF ?_ _)); refine blk_far ?_ NB122_126.out _; (with_reducible repeat (first | refine zD ?_ _ | refine zE ?_ | refine zF ?_ _)); refine blk_far ?_ NB122_126.out _; (with_reducible repeat (first | refine zD ?_ _ | refine zE ?_ | refine zF ?_ _)); refine blk_far ?_ NB122_126.out _; (with_reducible repeat (first | refine zD ?_ _ | refine zE ?_ | refine zF ?_ _)); refine blk_far ?_ NB122_126.out _; (with_reducible repeat (first | refine zD ?_ _ | refine zE ?_ | refine zF ?_ _)); exact BK122.out))⟩; have n2_ : Aside0 (w29.heap[gb126]? = some (.cells #[.int .i64 ((rd_T64 l0_0 a1).f0.f0.f0), .int .i64 ((rd_T64 l0_0 a1).f0.f0.f1), .int .i64 ((rd_T64 l0_0 a1).f0.f1), .int .i64 ((rd_T64 l0_0 a1).f1), .int .i64 ((rd_T64 l0_0 a1).f2), .int .i64 ((rd_T64 l0_0 a1).f3), .int .i64 ((rd_T64 l0_0 a1).f4)] 64 (0, 0))) := ⟨(by rw [hw]; exact (by (with_reducible repeat (first | refine zD ?_ _ | refine zE ?_ | refine zF ?_ _)); refine blk_put (cs := #[.int .i64 ((rd_T64 l0_0 a1).f0.f0.f0), .int .i64 ((rd_T64 l0_0 a1).f0.f0.f1), .int .i64 ((rd_T64 l0_0 a1).f0.f1), .int .i64 ((rd_T64 l0_0 a1).f1), .int .i64 ((rd_T64 l0_0 a1).f2), .int .i64 ((rd_T64 l0_0 a1).f3), .int .i64 0]) ?_ 6 _ rfl; (with_reducible repeat (first | refine zD ?_ _ | refine zE ?_ | refine zF ?_ _)); refine blk_put (cs := #[.int .i64 ((rd_T64 l0_0 a1).f0.f0.f0), .int .i64 ((rd_T64 l0_0 a1).f0.f0.f1), .int .i64 ((rd_T64 l0_0 a1).f0.f1), .int .i64 ((rd_T64 l0_0 a1).f1), .int .i64 ((rd_T64 l0_0 a1).f2), .int .i64 0, .int .i64 0]) ?_ 5 _ rfl; (with_reducible repeat (first | refine zD ?_ _ | refine zE ?_ | refine zF ?_ _)); refine blk_put (cs := #[.int .i64 ((rd_T64 l0_0 a1).f0.f0.f0), .int .i64 ((rd_T64 l0_0 a1).f0.f0.f1), .int .i64 ((rd_T64 l0_0 a1).f0.f1), .int .i64 ((rd_T64 l0_0 a1).f1), .int .i64 0, .int .i64 0, .int .i64 0]) ?_ 4 _ rfl; (with_reducible repeat (first | refine zD ?_ _ | refine zE ?_ | refine zF ?_ _)); refine blk_put (cs := #[.int .i64 ((rd_T64 l0_0 a1).f0.f0.f0), .int .i64 ((rd_T64 l0_0 a1).f0.f0.f1), .int .i64 ((rd_T64 l0_0 a1).f0.f1), .int .i64 0, .int .i64 0, .int .i64 0, .int .i64 0]) ?_ 3 _ rfl; (with_reducible repeat (first | refine zD ?_ _ | refine zE ?_ | refine zF ?_ _)); refine blk_put (cs := #[.int .i64 ((rd_T64 l0_0 a1).f0.f0.f0), .int .i64 ((rd_T64 l0_0 a1).f0.f0.f1), .int .i64 0, .int .i64 0, .int .i64 0, .int .i64 0, .int .i64 0]) ?_ 2 _ rfl; (with_reducible repeat (first | refine zD ?_ _ | refine zE ?_ | refine zF ?_ _)); refine blk_put (cs := #[.int .i64 ((rd_T64 l0_0 a1).f0.f0.f0), .int .i64 0, .int .i64 0, .int .i64 0, .int .i64 0, .int .i64 0, .int .i64 0]) ?_ 1 _ rfl; (with_reducible repeat (first | refine zD ?_ _ | refine zE ?_ | refine zF ?_ _)); refine blk_put (cs := #[.int .i64 0, .int .i64 0, .int .i64 0, .int .i64 0, .int .i64 0, .int .i64 0, .int .i64 0]) ?_ 0 _ rfl; (with_reducible repeat (first | refine zD ?_ _ | refine zE ?_ | refine zF ?_ _)); exact BK126.out))⟩; have n3_ : Aside0 (Kept w w29 (fun k_ => P2_ k_)) := ⟨(by rw [hw]; exact (by repeat (first | (with_reducible first | exact HK.out | apply Kept.alloc | apply Kept.drewN | apply Kept.drew | refine Kept.setCell ?_ (.inr GW122.out) _ | refine Kept.setCell ?_ (.inr GW126.out) _) | exact HK.out)))⟩; have n4_ : Aside0 (Below w0.heap.size w0 w29) := ⟨(by rw [hw]; exact (zl HB.out))⟩; clear hw; clear HO_2; clear BK122; clear BK126; clear HK; clear HB; have HO_2 := n0_; have BK122 := n1_; have BK126 := n2_; have HK := n3_; have HB := n4_; clear n0_ n1_ n2_ n3_ n4_; have hcz30_0 : w29.cell? ⟨gb122, 0, none⟩ = some (.slice (some ad125) l0_0.length c0_0) := (zQ BK122.out 0).trans rfl; have hcz30_1 : w29.cell? ⟨gb122, 1, none⟩ = some (.int .i64 a0_1) := (zQ BK122.out 1).trans rfl; have hcz30_2 : w29.cell? ⟨gb122, 2, none⟩ = some (.slice A0_2 l0_2.length c0_2) := (zQ BK122.out 2).trans rfl; have hfz30_0 := zR BK122.out 0; have hfz30_1 := zR BK122.out 1; have hfz30_2 := zR BK122.out 2; have hcz31_0 : w29.cell? ⟨gb126, 0, none⟩ = some (.int .i64 ((rd_T64 l0_0 a1).f0.f0.f0)) := (zQ BK126.out 0).trans rfl; have hcz31_1 : w29.cell? ⟨gb126, 1, none⟩ = some (.int .i64 ((rd_T64 l0_0 a1).f0.f0.f1)) := (zQ BK126.out 1).trans rfl; have hcz31_2 : w29.cell? ⟨gb126, 2, none⟩ = some (.int .i64 ((rd_T64 l0_0 a1).f0.f1)) := (zQ BK126.out 2).trans rfl; have hcz31_3 : w29.cell? ⟨gb126, 3, none⟩ = some (.int .i64 ((rd_T64 l0_0 a1).f1)) := (zQ BK126.out 3).trans rfl; have hcz31_4 : w29.cell? ⟨gb126, 4, none⟩ = some (.int .i64 ((rd_T64 l0_0 a1).f2)) := (zQ BK126.out 4).trans rfl; have hcz31_5 : w29.cell? ⟨gb126, 5, none⟩ = some (.int .i64 ((rd_T64 l0_0 a1).f3)) := (zQ BK126.out 5).trans rfl; have hcz31_6 : w29.cell? ⟨gb126, 6, none⟩ = some (.int .i64 ((rd_T64 l0_0 a1).f4)) := (zQ BK126.out 6).trans rfl; have hfz31_0 := zR BK126.out 0; have hfz31_1 := zR BK126.out 1; have hfz31_2 := zR BK126.out 2; have hfz31_3 := zR BK126.out 3; have hfz31_4 := zR BK126.out 4; have hfz31_5 := zR BK126.out 5; have hfz31_6 := zR BK126.out 6) | ((with_reducible refine gate_callee (f := 43) rfl ?_); refine goesL_ (some 52) rfl rfl Try.func43 (by kernel_rfl) rfl #[.agg #[.slice (some ad125) l0_0.length c0_0, .int .i64 a0_1, .slice A0_2 l0_2.length c0_2], .int .i64 ((rd_T64 l0_0 a1).f1), .slice (some ⟨go18, 0, none⟩) l2.length co18] rfl zt ?_; (with_reducible refine (ih kj5 (by have := HJ5.out; omega) _ _ l0_0 a0_1 _ _ l0_2 ((rd_T64 l0_0 a1).f1) (fun k_ => some k_ = (.slice (some ⟨go18, 0, none⟩) l2.length co18 : Value).ownBlock) (.slice (some ⟨go18, 0, none⟩) l2.length co18) y124 t127 t130 t131 t132 t133 w0 _ ?side1 ?side2 ?side3 ?side4 ?side5 ?side6 A20.out).mono ?_); (case side1 => repeat (first | (with_reducible first | exact HB.out | apply zG | apply zH | apply zI | refine zL ?_ GE122.out | refine zL ?_ GE126.out) | exact HB.out)); (case side2 => exact Kd.C_kept_call HR0_0.out (by repeat (first | (with_reducible first | exact HK.out | apply Kept.alloc | apply Kept.drewN | apply Kept.drew | refine Kept.setCell ?_ (.inr GW122.out) _ | refine Kept.setCell ?_ (.inr GW126.out) _) | exact HK.out)) (fun k_ hs_ => (fun e_ => (HO_2.out.1 k_ e_.symm)) hs_)); (case side3 => exact HC0_0.out); (case side4 => exact Kd.C_kept_call HR0_2.out (by repeat (first | (with_reducible first | exact HK.out | apply Kept.alloc | apply Kept.drewN | apply Kept.drew | refine Kept.setCell ?_ (.inr GW122.out) _ | refine Kept.setCell ?_ (.inr GW126.out) _) | exact HK.out)) (fun k_ hs_ => (fun e_ => (HO_2.out.1 k_ e_.symm)) hs_)); (case side5 => exact HC0_2.out); (case side6 => exact Kd.R_tight rfl HO_2.out); rintro e w32 ⟨v128, rfl, ho0, hy0, hb, hkp⟩; refine ⟨_, rfl, ?_⟩; have n0_ := zK (Kd.R_reok rfl hy0 (fun k_ e_ => HO_2.out.1 k_ e_)); have n1_ := zK (blk_kept (zb BK122.out) hkp (fun hs_ => (fun e_ => (Kd.R_ne HO_2.out BK122.out (by decide)) e_) hs_)); have n2_ := zK (blk_kept (zb BK126.out) hkp (fun hs_ => (fun e_ => (Kd.R_ne HO_2.out BK126.out (by decide)) e_) hs_)); have n3_ := zK (Kd.R_mono (ok' := fun k_ => (P2_ k_ ∨ w.heap.size ≤ k_)) ho0 (fun k_ hk_ => Or.elim hk_ (fun hs_ => (HO_2.out.1 k_ (hs_).symm)) (fun hn_ => (.inr (Nat.le_trans (by first | exact HK.out.1 | exact (show Kept w _ (fun k_ => P2_ k_) from by repeat (first | (with_reducible first | exact HK.out | apply Kept.alloc | apply Kept.drewN | apply Kept.drew | refine Kept.setCell ?_ (.inr GW122.out) _ | refine Kept.setCell ?_ (.inr GW126.out) _) | exact HK.out)).1) hn_))))); have n4_ := zK (Kept.then_ (S := (fun k_ => P2_ k_)) (by repeat (first | (with_reducible first | exact HK.out | apply Kept.alloc | apply Kept.drewN | apply Kept.drew | refine Kept.setCell ?_ (.inr GW122.out) _ | refine Kept.setCell ?_ (.inr GW126.out) _) | exact HK.out)) hkp (fun k_ hs_ => (fun e_ => (HO_2.out.1 k_ e_.symm)) hs_)); have n5_ := zK (hb); clear HO_2; clear BK122; clear BK126; clear HK; clear HB; have HO_2 := n0_; have BK122 := n1_; have BK126 := n2_; have HO129 := n3_; have HK := n4_; have HB := n5_; clear n0_ n1_ n2_ n3_ n4_ n5_; (try clear hb); (try clear hkp); (try clear ho0); (try clear hy0); have hcz33_0 : w32.cell? ⟨gb122, 0, none⟩ = some (.slice (some ad125) l0_0.length c0_0) := (zQ BK122.out 0).trans rfl; have hcz33_1 : w32.cell? ⟨gb122, 1, none⟩ = some (.int .i64 a0_1) := (zQ BK122.out 1).trans rfl; have hcz33_2 : w32.cell? ⟨gb122, 2, none⟩ = some (.slice A0_2 l0_2.length c0_2) := (zQ BK122.out 2).trans rfl; have hfz33_0 := zR BK122.out 0; have hfz33_1 := zR BK122.out 1; have hfz33_2 := zR BK122.out 2; have hcz34_0 : w32.cell? ⟨gb126, 0, none⟩ = some (.int .i64 ((rd_T64 l0_0 a1).f0.f0.f0)) := (zQ BK126.out 0).trans rfl; have hcz34_1 : w32.cell? ⟨gb126, 1, none⟩ = some (.int .i64 ((rd_T64 l0_0 a1).f0.f0.f1)) := (zQ BK126.out 1).trans rfl; have hcz34_2 : w32.cell? ⟨gb126, 2, none⟩ = some (.int .i64 ((rd_T64 l0_0 a1).f0.f1)) := (zQ BK126.out 2).trans rfl; have hcz34_3 : w32.cell? ⟨gb126, 3, none⟩ = some (.int .i64 ((rd_T64 l0_0 a1).f1)) := (zQ BK126.out 3).trans rfl; have hcz34_4 : w32.cell? ⟨gb126, 4, none⟩ = some (.int .i64 ((rd_T64 l0_0 a1).f2)) := (zQ BK126.out 4).trans rfl; have hcz34_5 : w32.cell? ⟨gb126, 5, none⟩ = some (.int .i64 ((rd_T64 l0_0 a1).f3)) := (zQ BK126.out 5).trans rfl; have hcz34_6 : w32.cell? ⟨gb126, 6, none⟩ = some (.int .i64 ((rd_T64 l0_0 a1).f4)) := (zQ BK126.out 6).trans rfl; have hfz34_0 := zR BK126.out 0; have hfz34_1 := zR BK126.out 1; have hfz34_2 := zR BK126.out 2; have hfz34_3 := zR BK126.out 3; have hfz34_4 := zR BK126.out 4; have hfz34_5 := zR BK126.out 5; have hfz34_6 := zR BK126.out 6) | ((with_reducible refine gate_callee (f := 43) rfl ?_); refine goesL_ (some 62) rfl rfl Try.func43 (by kernel_rfl) rfl #[.agg #[.slice (some ad125) l0_0.length c0_0, .int .i64 a0_1, .slice A0_2 l0_2.length c0_2], .int .i64 ((rd_T64 l0_0 a1).f2), .slice (some ⟨go18, 0, none⟩) l2.length co18] rfl zt ?_; (with_reducible refine (ih kj5 (by have := HJ5.out; omega) _ _ l0_0 a0_1 _ _ l0_2 ((rd_T64 l0_0 a1).f2) (fun k_ => some k_ = (.slice (some ⟨go18, 0, none⟩) l2.length co18 : Value).ownBlock) (.slice (some ⟨go18, 0, none⟩) l2.length co18) t133 t134 t137 t138 t139 t140 w0 _ ?side1 ?side2 ?side3 ?side4 ?side5 ?side6 A21.out).mono ?_); (case side1 => repeat (first | (with_reducible first | exact HB.out | apply zG | apply zH | apply zI | refine zL ?_ GE122.out | refine zL ?_ GE126.out) | exact HB.out)); (case side2 => exact Kd.C_kept_call HR0_0.out (by repeat (first | (with_reducible first | exact HK.out | apply Kept.alloc | apply Kept.drewN | apply Kept.drew | refine Kept.setCell ?_ (.inr GW122.out) _ | refine Kept.setCell ?_ (.inr GW126.out) _) | exact HK.out)) (fun k_ hs_ => (fun e_ => (HO_2.out.1 k_ e_.symm)) hs_)); (case side3 => exact HC0_0.out); (case side4 => exact Kd.C_kept_call HR0_2.out (by repeat (first | (with_reducible first | exact HK.out | apply Kept.alloc | apply Kept.drewN | apply Kept.drew | refine Kept.setCell ?_ (.inr GW122.out) _ | refine Kept.setCell ?_ (.inr GW126.out) _) | exact HK.out)) (fun k_ hs_ => (fun e_ => (HO_2.out.1 k_ e_.symm)) hs_)); (case side5 => exact HC0_2.out); (case side6 => exact Kd.R_tight rfl HO_2.out); rintro e w35 ⟨v135, rfl, ho0, hy0, hb, hkp⟩; refine ⟨_, rfl, ?_⟩; have n0_ := zK (Kd.R_reok rfl hy0 (fun k_ e_ => HO_2.out.1 k_ e_)); have n1_ := zK (blk_kept (zb BK122.out) hkp (fun hs_ => (fun e_ => (Kd.R_ne HO_2.out BK122.out (by decide)) e_) hs_)); have n2_ := zK (blk_kept (zb BK126.out) hkp (fun hs_ => (fun e_ => (Kd.R_ne HO_2.out BK126.out (by decide)) e_) hs_)); have n3_ := zK (Kd.R_mono (ok' := fun k_ => (P2_ k_ ∨ w.heap.size ≤ k_) ∧ some k_ ≠ (v135 : Value).ownBlock) (Kd.R_keptB ((Kd.R_apart' HO129.out (Kd.R_typed HO_2.out) (by decide))) hkp (fun k_ hk_ hs_ => (hk_.2) hs_)) (fun k_ hk_ => ⟨hk_.1.1, fun e_ => Or.elim (ho0.1 k_ e_.symm) (fun hs_ => hk_.2.1 hs_) (fun hn_ => Nat.not_le.2 hk_.2.2 hn_)⟩)); have n4_ := zK (Kd.R_mono (ok' := fun k_ => (P2_ k_ ∨ w.heap.size ≤ k_) ∧ some k_ ≠ (v128 : Value).ownBlock) ho0 (fun k_ hk_ => ⟨Or.elim hk_ (fun hs_ => (HO_2.out.1 k_ (hs_).symm)) (fun hn_ => (.inr (Nat.le_trans (by first | exact HK.out.1 | exact (show Kept w _ (fun k_ => P2_ k_) from by repeat (first | (with_reducible first | exact HK.out | apply Kept.alloc | apply Kept.drewN | apply Kept.drew | refine Kept.setCell ?_ (.inr GW122.out) _ | refine Kept.setCell ?_ (.inr GW126.out) _) | exact HK.out)).1) hn_))), Or.elim hk_ (fun hs_ => fun e_ => ((((Kd.R_apart' HO129.out (Kd.R_typed HO_2.out) (by decide))).1 k_ e_.symm).2) hs_) (fun hn_ => (Kd.fresh' (yB (zr HO129.out)) k_ hn_))⟩)); have n5_ := zK (Kept.then_ (S := (fun k_ => P2_ k_)) (by repeat (first | (with_reducible first | exact HK.out | apply Kept.alloc | apply Kept.drewN | apply Kept.drew | refine Kept.setCell ?_ (.inr GW122.out) _ | refine Kept.setCell ?_ (.inr GW126.out) _) | exact HK.out)) hkp (fun k_ hs_ => (fun e_ => (HO_2.out.1 k_ e_.symm)) hs_)); have n6_ := zK (hb); clear HO_2; clear BK122; clear BK126; clear HO129; clear HK; clear HB; have HO_2 := n0_; have BK122 := n1_; have BK126 := n2_; have HO129 := n3_; have HO136 := n4_; have HK := n5_; have HB := n6_; clear n0_ n1_ n2_ n3_ n4_ n5_ n6_; (try clear hb); (try clear hkp); (try clear ho0); (try clear hy0)))
        (try simp only [Act.put, zY, zZ, yA])
        go_cut [90] (fun v90 wc => ∃ (kq : Nat) (x90_21 : Bool), v90 = .bool x90_21 ∧ Aside0 (tollbarref17_hung.j1 kq t140 t127 t130 t131 t134 t137 t138 x90_21 ((rd_T64 l0_0 a1).f0.f0.f0) ((rd_T64 l0_0 a1).f0.f0.f1) ((rd_T64 l0_0 a1).f0.f1) ((rd_T64 l0_0 a1).f1) ((rd_T64 l0_0 a1).f2) ((rd_T64 l0_0 a1).f3) ((rd_T64 l0_0 a1).f4) = some (r1, r2, r3, r4, r5)) ∧ Aside0 (kq ≤ kj5) ∧ Aside0 (Kd.R Kd.bool 4 wc w0.heap.size (fun k_ => (P2_ k_ ∨ w.heap.size ≤ k_)) (.slice (some ⟨go18, 0, none⟩) l2.length co18) t140) ∧ Aside0 (Kd.R k50 50 wc w0.heap.size (fun k_ => (P2_ k_ ∨ w.heap.size ≤ k_) ∧ some k_ ≠ (v135 : Value).ownBlock) v128 t127) ∧ Aside0 (Kd.R k50 50 wc w0.heap.size (fun k_ => (P2_ k_ ∨ w.heap.size ≤ k_) ∧ some k_ ≠ (v128 : Value).ownBlock) v135 t134) ∧ Aside0 (wc.heap[gb122]? = some (.cells #[(.slice (some ad125) l0_0.length c0_0), .int .i64 a0_1, (.slice A0_2 l0_2.length c0_2)] 25 (0, 0))) ∧ Aside0 (wc.heap[gb126]? = some (.cells #[.int .i64 ((rd_T64 l0_0 a1).f0.f0.f0), .int .i64 ((rd_T64 l0_0 a1).f0.f0.f1), .int .i64 ((rd_T64 l0_0 a1).f0.f1), .int .i64 ((rd_T64 l0_0 a1).f1), .int .i64 ((rd_T64 l0_0 a1).f2), .int .i64 ((rd_T64 l0_0 a1).f3), .int .i64 ((rd_T64 l0_0 a1).f4)] 64 (0, 0))) ∧ Aside0 (Kept w wc (fun k_ => P2_ k_)) ∧ Aside0 (Below w0.heap.size w0 wc))
        case first =>
         have H := HC22.out
         clear HC22
         by_cases c36 : t132 = true
         ·subst c36
          have H1 : (if t139 = true then ((tollbarref17_ItemMay.f ((rd_T64 l0_0 a1).f0.f0.f0) ((rd_T64 l0_0 a1).f0.f0.f1) ((rd_T64 l0_0 a1).f0.f1)).bind fun t141 => (if t141 = true then (if (wrap64 (t130 - t137)) > 1 then (tollbarref17_hung.j1 kj5 t140 t127 t130 t131 t134 t137 t138 true ((rd_T64 l0_0 a1).f0.f0.f0) ((rd_T64 l0_0 a1).f0.f0.f1) ((rd_T64 l0_0 a1).f0.f1) ((rd_T64 l0_0 a1).f1) ((rd_T64 l0_0 a1).f2) ((rd_T64 l0_0 a1).f3) ((rd_T64 l0_0 a1).f4)) else (tollbarref17_hung.j1 kj5 t140 t127 t130 t131 t134 t137 t138 (decide ((wrap64 (t137 - t130)) > 1)) ((rd_T64 l0_0 a1).f0.f0.f0) ((rd_T64 l0_0 a1).f0.f0.f1) ((rd_T64 l0_0 a1).f0.f1) ((rd_T64 l0_0 a1).f1) ((rd_T64 l0_0 a1).f2) ((rd_T64 l0_0 a1).f3) ((rd_T64 l0_0 a1).f4))) else (tollbarref17_hung.j1 kj5 t140 t127 t130 t131 t134 t137 t138 true ((rd_T64 l0_0 a1).f0.f0.f0) ((rd_T64 l0_0 a1).f0.f0.f1) ((rd_T64 l0_0 a1).f0.f1) ((rd_T64 l0_0 a1).f1) ((rd_T64 l0_0 a1).f2) ((rd_T64 l0_0 a1).f3) ((rd_T64 l0_0 a1).f4)))) else (tollbarref17_hung.j1 kj5 t140 t127 t130 t131 t134 t137 t138 true ((rd_T64 l0_0 a1).f0.f0.f0) ((rd_T64 l0_0 a1).f0.f0.f1) ((rd_T64 l0_0 a1).f0.f1) ((rd_T64 l0_0 a1).f1) ((rd_T64 l0_0 a1).f2) ((rd_T64 l0_0 a1).f3) ((rd_T64 l0_0 a1).f4))) = some (r1, r2, r3, r4, r5) := by rw [if_pos rfl] at H; exact H
          clear H
          have H := H1
          clear H1
          by_cases c37 : t139 = true
          ·subst c37
           have H1 : ((tollbarref17_ItemMay.f ((rd_T64 l0_0 a1).f0.f0.f0) ((rd_T64 l0_0 a1).f0.f0.f1) ((rd_T64 l0_0 a1).f0.f1)).bind fun t141 => (if t141 = true then (if (wrap64 (t130 - t137)) > 1 then (tollbarref17_hung.j1 kj5 t140 t127 t130 t131 t134 t137 t138 true ((rd_T64 l0_0 a1).f0.f0.f0) ((rd_T64 l0_0 a1).f0.f0.f1) ((rd_T64 l0_0 a1).f0.f1) ((rd_T64 l0_0 a1).f1) ((rd_T64 l0_0 a1).f2) ((rd_T64 l0_0 a1).f3) ((rd_T64 l0_0 a1).f4)) else (tollbarref17_hung.j1 kj5 t140 t127 t130 t131 t134 t137 t138 (decide ((wrap64 (t137 - t130)) > 1)) ((rd_T64 l0_0 a1).f0.f0.f0) ((rd_T64 l0_0 a1).f0.f0.f1) ((rd_T64 l0_0 a1).f0.f1) ((rd_T64 l0_0 a1).f1) ((rd_T64 l0_0 a1).f2) ((rd_T64 l0_0 a1).f3) ((rd_T64 l0_0 a1).f4))) else (tollbarref17_hung.j1 kj5 t140 t127 t130 t131 t134 t137 t138 true ((rd_T64 l0_0 a1).f0.f0.f0) ((rd_T64 l0_0 a1).f0.f0.f1) ((rd_T64 l0_0 a1).f0.f1) ((rd_T64 l0_0 a1).f1) ((rd_T64 l0_0 a1).f2) ((rd_T64 l0_0 a1).f3) ((rd_T64 l0_0 a1).f4)))) = some (r1, r2, r3, r4, r5) := by rw [if_pos rfl] at H; exact H
           clear H
           have H := H1
           clear H1
           replace H := yH.mp H
           obtain ⟨t141, A380, H⟩ := H
           replace H : (if t141 = true then (if (wrap64 (t130 - t137)) > 1 then (tollbarref17_hung.j1 kj5 t140 t127 t130 t131 t134 t137 t138 true ((rd_T64 l0_0 a1).f0.f0.f0) ((rd_T64 l0_0 a1).f0.f0.f1) ((rd_T64 l0_0 a1).f0.f1) ((rd_T64 l0_0 a1).f1) ((rd_T64 l0_0 a1).f2) ((rd_T64 l0_0 a1).f3) ((rd_T64 l0_0 a1).f4)) else (tollbarref17_hung.j1 kj5 t140 t127 t130 t131 t134 t137 t138 (decide ((wrap64 (t137 - t130)) > 1)) ((rd_T64 l0_0 a1).f0.f0.f0) ((rd_T64 l0_0 a1).f0.f0.f1) ((rd_T64 l0_0 a1).f0.f1) ((rd_T64 l0_0 a1).f1) ((rd_T64 l0_0 a1).f2) ((rd_T64 l0_0 a1).f3) ((rd_T64 l0_0 a1).f4))) else (tollbarref17_hung.j1 kj5 t140 t127 t130 t131 t134 t137 t138 true ((rd_T64 l0_0 a1).f0.f0.f0) ((rd_T64 l0_0 a1).f0.f0.f1) ((rd_T64 l0_0 a1).f0.f1) ((rd_T64 l0_0 a1).f1) ((rd_T64 l0_0 a1).f2) ((rd_T64 l0_0 a1).f3) ((rd_T64 l0_0 a1).f4))) = some (r1, r2, r3, r4, r5) := H
           have A38 := zK A380
           clear A380
           by_cases c39 : t141 = true
           ·subst c39
            have H1 : (if (wrap64 (t130 - t137)) > 1 then (tollbarref17_hung.j1 kj5 t140 t127 t130 t131 t134 t137 t138 true ((rd_T64 l0_0 a1).f0.f0.f0) ((rd_T64 l0_0 a1).f0.f0.f1) ((rd_T64 l0_0 a1).f0.f1) ((rd_T64 l0_0 a1).f1) ((rd_T64 l0_0 a1).f2) ((rd_T64 l0_0 a1).f3) ((rd_T64 l0_0 a1).f4)) else (tollbarref17_hung.j1 kj5 t140 t127 t130 t131 t134 t137 t138 (decide ((wrap64 (t137 - t130)) > 1)) ((rd_T64 l0_0 a1).f0.f0.f0) ((rd_T64 l0_0 a1).f0.f0.f1) ((rd_T64 l0_0 a1).f0.f1) ((rd_T64 l0_0 a1).f1) ((rd_T64 l0_0 a1).f2) ((rd_T64 l0_0 a1).f3) ((rd_T64 l0_0 a1).f4))) = some (r1, r2, r3, r4, r5) := by rw [if_pos rfl] at H; exact H
            clear H
            have H := H1
            clear H1
            by_cases c40 : (wrap64 (t130 - t137)) > 1
            ·rw [if_pos c40] at H
             have c40b0 : decide (1 < (wrap64 (t130 - t137))) = true := decide_eq_true c40
             clear c40
             (first | rw [c40b0] | (simp only [i64_w, i32_w]; rw [c40b0]) | skip)
             have H' := zK H
             clear H
             have hnb41 := NB126_122.out
             have hnc41 := NB122_126.out
             have hcz42_0 : w35.cell? ⟨gb126, 0, none⟩ = some (.int .i64 ((rd_T64 l0_0 a1).f0.f0.f0)) := (zQ BK126.out 0).trans rfl
             have hcz42_1 : w35.cell? ⟨gb126, 1, none⟩ = some (.int .i64 ((rd_T64 l0_0 a1).f0.f0.f1)) := (zQ BK126.out 1).trans rfl
             have hcz42_2 : w35.cell? ⟨gb126, 2, none⟩ = some (.int .i64 ((rd_T64 l0_0 a1).f0.f1)) := (zQ BK126.out 2).trans rfl
             have hcz42_3 : w35.cell? ⟨gb126, 3, none⟩ = some (.int .i64 ((rd_T64 l0_0 a1).f1)) := (zQ BK126.out 3).trans rfl
             have hcz42_4 : w35.cell? ⟨gb126, 4, none⟩ = some (.int .i64 ((rd_T64 l0_0 a1).f2)) := (zQ BK126.out 4).trans rfl
             have hcz42_5 : w35.cell? ⟨gb126, 5, none⟩ = some (.int .i64 ((rd_T64 l0_0 a1).f3)) := (zQ BK126.out 5).trans rfl
             have hcz42_6 : w35.cell? ⟨gb126, 6, none⟩ = some (.int .i64 ((rd_T64 l0_0 a1).f4)) := (zQ BK126.out 6).trans rfl
             have hfz42_0 := zR BK126.out 0
             have hfz42_1 := zR BK126.out 1
             have hfz42_2 := zR BK126.out 2
             have hfz42_3 := zR BK126.out 3
             have hfz42_4 := zR BK126.out 4
             have hfz42_5 := zR BK126.out 5
             have hfz42_6 := zR BK126.out 6
             go_wp2_with (first | (go_at_call 34; (with_reducible refine (tollbarref17_ItemMay.calls ((rd_T64 l0_0 a1).f0.f0.f0) ((rd_T64 l0_0 a1).f0.f0.f1) ((rd_T64 l0_0 a1).f0.f1) true _ A38.out).mono ?_); rintro e w43 ⟨rfl, hb⟩; have n0_ := zK (zO (zr HO_2.out) hb); have n1_ := zK (zO (zr HO129.out) hb); have n2_ := zK (zO (zr HO136.out) hb); have n3_ := zK (zP (g := gb122) (o := .cells #[.slice (some ad125) l0_0.length c0_0, .int .i64 a0_1, .slice A0_2 l0_2.length c0_2] 25 (0, 0)) (zb BK122.out) hb); have n4_ := zK (zP (g := gb126) (o := .cells #[.int .i64 ((rd_T64 l0_0 a1).f0.f0.f0), .int .i64 ((rd_T64 l0_0 a1).f0.f0.f1), .int .i64 ((rd_T64 l0_0 a1).f0.f1), .int .i64 ((rd_T64 l0_0 a1).f1), .int .i64 ((rd_T64 l0_0 a1).f2), .int .i64 ((rd_T64 l0_0 a1).f3), .int .i64 ((rd_T64 l0_0 a1).f4)] 64 (0, 0)) (zb BK126.out) hb); have n5_ := zK (Kept.below (S := (fun k_ => P2_ k_)) (by repeat (first | (with_reducible first | exact HK.out | apply Kept.alloc | apply Kept.drewN | apply Kept.drew | refine Kept.setCell ?_ (.inr GW122.out) _ | refine Kept.setCell ?_ (.inr GW126.out) _) | exact HK.out)) hb); have n6_ := zK (yF (zl HB.out) hb); clear HO_2; clear HO129; clear HO136; clear BK122; clear BK126; clear HK; clear HB; have HO_2 := n0_; have HO129 := n1_; have HO136 := n2_; have BK122 := n3_; have BK126 := n4_; have HK := n5_; have HB := n6_; clear n0_ n1_ n2_ n3_ n4_ n5_ n6_; (try clear hb); (try clear hb2); (try clear hk); (try clear hi)))
             go_meet
             case rel => exact ⟨_, (true), zz, H', ⟨by have := HJ5.out; first | omega | exact Nat.le_refl _⟩, ⟨by (with_reducible repeat (first | apply zA | apply zB | apply zC)); exact HO_2.out⟩, ⟨by (with_reducible repeat (first | apply zA | apply zB | apply zC)); exact HO129.out⟩, ⟨by (with_reducible repeat (first | apply zA | apply zB | apply zC)); exact HO136.out⟩, ⟨by (with_reducible repeat (first | refine zD ?_ _ | refine zE ?_ | refine zF ?_ _)); exact BK122.out⟩, ⟨by (with_reducible repeat (first | refine zD ?_ _ | refine zE ?_ | refine zF ?_ _)); exact BK126.out⟩, ⟨by repeat (first | (with_reducible first | exact HK.out | apply Kept.alloc | apply Kept.drewN | apply Kept.drew | refine Kept.setCell ?_ (.inr GW122.out) _ | refine Kept.setCell ?_ (.inr GW126.out) _) | exact HK.out)⟩, ⟨by repeat (first | (with_reducible first | exact HB.out | apply zG | apply zH | apply zI | refine zL ?_ GE122.out | refine zL ?_ GE126.out) | exact HB.out)⟩⟩
            ·rw [if_neg c40] at H
             have c40b0 : decide (1 < (wrap64 (t130 - t137))) = false := decide_eq_false c40
             clear c40
             (first | rw [c40b0] | (simp only [i64_w, i32_w]; rw [c40b0]) | skip)
             have H' := zK H
             clear H
             have hnb44 := NB126_122.out
             have hnc44 := NB122_126.out
             have hcz45_0 : w35.cell? ⟨gb126, 0, none⟩ = some (.int .i64 ((rd_T64 l0_0 a1).f0.f0.f0)) := (zQ BK126.out 0).trans rfl
             have hcz45_1 : w35.cell? ⟨gb126, 1, none⟩ = some (.int .i64 ((rd_T64 l0_0 a1).f0.f0.f1)) := (zQ BK126.out 1).trans rfl
             have hcz45_2 : w35.cell? ⟨gb126, 2, none⟩ = some (.int .i64 ((rd_T64 l0_0 a1).f0.f1)) := (zQ BK126.out 2).trans rfl
             have hcz45_3 : w35.cell? ⟨gb126, 3, none⟩ = some (.int .i64 ((rd_T64 l0_0 a1).f1)) := (zQ BK126.out 3).trans rfl
             have hcz45_4 : w35.cell? ⟨gb126, 4, none⟩ = some (.int .i64 ((rd_T64 l0_0 a1).f2)) := (zQ BK126.out 4).trans rfl
             have hcz45_5 : w35.cell? ⟨gb126, 5, none⟩ = some (.int .i64 ((rd_T64 l0_0 a1).f3)) := (zQ BK126.out 5).trans rfl
             have hcz45_6 : w35.cell? ⟨gb126, 6, none⟩ = some (.int .i64 ((rd_T64 l0_0 a1).f4)) := (zQ BK126.out 6).trans rfl
             have hfz45_0 := zR BK126.out 0
             have hfz45_1 := zR BK126.out 1
             have hfz45_2 := zR BK126.out 2
             have hfz45_3 := zR BK126.out 3
             have hfz45_4 := zR BK126.out 4
             have hfz45_5 := zR BK126.out 5
             have hfz45_6 := zR BK126.out 6
             go_wp2_with (first | (go_at_call 34; (with_reducible refine (tollbarref17_ItemMay.calls ((rd_T64 l0_0 a1).f0.f0.f0) ((rd_T64 l0_0 a1).f0.f0.f1) ((rd_T64 l0_0 a1).f0.f1) true _ A38.out).mono ?_); rintro e w46 ⟨rfl, hb⟩; have n0_ := zK (zO (zr HO_2.out) hb); have n1_ := zK (zO (zr HO129.out) hb); have n2_ := zK (zO (zr HO136.out) hb); have n3_ := zK (zP (g := gb122) (o := .cells #[.slice (some ad125) l0_0.length c0_0, .int .i64 a0_1, .slice A0_2 l0_2.length c0_2] 25 (0, 0)) (zb BK122.out) hb); have n4_ := zK (zP (g := gb126) (o := .cells #[.int .i64 ((rd_T64 l0_0 a1).f0.f0.f0), .int .i64 ((rd_T64 l0_0 a1).f0.f0.f1), .int .i64 ((rd_T64 l0_0 a1).f0.f1), .int .i64 ((rd_T64 l0_0 a1).f1), .int .i64 ((rd_T64 l0_0 a1).f2), .int .i64 ((rd_T64 l0_0 a1).f3), .int .i64 ((rd_T64 l0_0 a1).f4)] 64 (0, 0)) (zb BK126.out) hb); have n5_ := zK (Kept.below (S := (fun k_ => P2_ k_)) (by repeat (first | (with_reducible first | exact HK.out | apply Kept.alloc | apply Kept.drewN | apply Kept.drew | refine Kept.setCell ?_ (.inr GW122.out) _ | refine Kept.setCell ?_ (.inr GW126.out) _) | exact HK.out)) hb); have n6_ := zK (yF (zl HB.out) hb); clear HO_2; clear HO129; clear HO136; clear BK122; clear BK126; clear HK; clear HB; have HO_2 := n0_; have HO129 := n1_; have HO136 := n2_; have BK122 := n3_; have BK126 := n4_; have HK := n5_; have HB := n6_; clear n0_ n1_ n2_ n3_ n4_ n5_ n6_; (try clear hb); (try clear hb2); (try clear hk); (try clear hi)))
             go_meet
             case rel => exact ⟨_, (decide ((wrap64 (t137 - t130)) > 1)), zz, H', ⟨by have := HJ5.out; first | omega | exact Nat.le_refl _⟩, ⟨by (with_reducible repeat (first | apply zA | apply zB | apply zC)); exact HO_2.out⟩, ⟨by (with_reducible repeat (first | apply zA | apply zB | apply zC)); exact HO129.out⟩, ⟨by (with_reducible repeat (first | apply zA | apply zB | apply zC)); exact HO136.out⟩, ⟨by (with_reducible repeat (first | refine zD ?_ _ | refine zE ?_ | refine zF ?_ _)); exact BK122.out⟩, ⟨by (with_reducible repeat (first | refine zD ?_ _ | refine zE ?_ | refine zF ?_ _)); exact BK126.out⟩, ⟨by repeat (first | (with_reducible first | exact HK.out | apply Kept.alloc | apply Kept.drewN | apply Kept.drew | refine Kept.setCell ?_ (.inr GW122.out) _ | refine Kept.setCell ?_ (.inr GW126.out) _) | exact HK.out)⟩, ⟨by repeat (first | (with_reducible first | exact HB.out | apply zG | apply zH | apply zI | refine zL ?_ GE122.out | refine zL ?_ GE126.out) | exact HB.out)⟩⟩
           ·replace c39 := Bool.eq_false_iff.mpr c39
            subst c39
            have H1 : (tollbarref17_hung.j1 kj5 t140 t127 t130 t131 t134 t137 t138 true ((rd_T64 l0_0 a1).f0.f0.f0) ((rd_T64 l0_0 a1).f0.f0.f1) ((rd_T64 l0_0 a1).f0.f1) ((rd_T64 l0_0 a1).f1) ((rd_T64 l0_0 a1).f2) ((rd_T64 l0_0 a1).f3) ((rd_T64 l0_0 a1).f4)) = some (r1, r2, r3, r4, r5) := by rw [if_neg (show ¬ (false = true) by decide)] at H; exact H
            clear H
            have H := H1
            clear H1
            have H' := zK H
            clear H
            have hnb47 := NB126_122.out
            have hnc47 := NB122_126.out
            have hcz48_0 : w35.cell? ⟨gb126, 0, none⟩ = some (.int .i64 ((rd_T64 l0_0 a1).f0.f0.f0)) := (zQ BK126.out 0).trans rfl
            have hcz48_1 : w35.cell? ⟨gb126, 1, none⟩ = some (.int .i64 ((rd_T64 l0_0 a1).f0.f0.f1)) := (zQ BK126.out 1).trans rfl
            have hcz48_2 : w35.cell? ⟨gb126, 2, none⟩ = some (.int .i64 ((rd_T64 l0_0 a1).f0.f1)) := (zQ BK126.out 2).trans rfl
            have hcz48_3 : w35.cell? ⟨gb126, 3, none⟩ = some (.int .i64 ((rd_T64 l0_0 a1).f1)) := (zQ BK126.out 3).trans rfl
            have hcz48_4 : w35.cell? ⟨gb126, 4, none⟩ = some (.int .i64 ((rd_T64 l0_0 a1).f2)) := (zQ BK126.out 4).trans rfl
            have hcz48_5 : w35.cell? ⟨gb126, 5, none⟩ = some (.int .i64 ((rd_T64 l0_0 a1).f3)) := (zQ BK126.out 5).trans rfl
            have hcz48_6 : w35.cell? ⟨gb126, 6, none⟩ = some (.int .i64 ((rd_T64 l0_0 a1).f4)) := (zQ BK126.out 6).trans rfl
            have hfz48_0 := zR BK126.out 0
            have hfz48_1 := zR BK126.out 1
            have hfz48_2 := zR BK126.out 2
            have hfz48_3 := zR BK126.out 3
            have hfz48_4 := zR BK126.out 4
            have hfz48_5 := zR BK126.out 5
            have hfz48_6 := zR BK126.out 6
            go_wp2_with (first | (go_at_call 34; (with_reducible refine (tollbarref17_ItemMay.calls ((rd_T64 l0_0 a1).f0.f0.f0) ((rd_T64 l0_0 a1).f0.f0.f1) ((rd_T64 l0_0 a1).f0.f1) false _ A38.out).mono ?_); rintro e w49 ⟨rfl, hb⟩; have n0_ := zK (zO (zr HO_2.out) hb); have n1_ := zK (zO (zr HO129.out) hb); have n2_ := zK (zO (zr HO136.out) hb); have n3_ := zK (zP (g := gb122) (o := .cells #[.slice (some ad125) l0_0.length c0_0, .int .i64 a0_1, .slice A0_2 l0_2.length c0_2] 25 (0, 0)) (zb BK122.out) hb); have n4_ := zK (zP (g := gb126) (o := .cells #[.int .i64 ((rd_T64 l0_0 a1).f0.f0.f0), .int .i64 ((rd_T64 l0_0 a1).f0.f0.f1), .int .i64 ((rd_T64 l0_0 a1).f0.f1), .int .i64 ((rd_T64 l0_0 a1).f1), .int .i64 ((rd_T64 l0_0 a1).f2), .int .i64 ((rd_T64 l0_0 a1).f3), .int .i64 ((rd_T64 l0_0 a1).f4)] 64 (0, 0)) (zb BK126.out) hb); have n5_ := zK (Kept.below (S := (fun k_ => P2_ k_)) (by repeat (first | (with_reducible first | exact HK.out | apply Kept.alloc | apply Kept.drewN | apply Kept.drew | refine Kept.setCell ?_ (.inr GW122.out) _ | refine Kept.setCell ?_ (.inr GW126.out) _) | exact HK.out)) hb); have n6_ := zK (yF (zl HB.out) hb); clear HO_2; clear HO129; clear HO136; clear BK122; clear BK126; clear HK; clear HB; have HO_2 := n0_; have HO129 := n1_; have HO136 := n2_; have BK122 := n3_; have BK126 := n4_; have HK := n5_; have HB := n6_; clear n0_ n1_ n2_ n3_ n4_ n5_ n6_; (try clear hb); (try clear hb2); (try clear hk); (try clear hi)))
            go_meet
            case rel => exact ⟨_, (true), zz, H', ⟨by have := HJ5.out; first | omega | exact Nat.le_refl _⟩, ⟨by (with_reducible repeat (first | apply zA | apply zB | apply zC)); exact HO_2.out⟩, ⟨by (with_reducible repeat (first | apply zA | apply zB | apply zC)); exact HO129.out⟩, ⟨by (with_reducible repeat (first | apply zA | apply zB | apply zC)); exact HO136.out⟩, ⟨by (with_reducible repeat (first | refine zD ?_ _ | refine zE ?_ | refine zF ?_ _)); exact BK122.out⟩, ⟨by (with_reducible repeat (first | refine zD ?_ _ | refine zE ?_ | refine zF ?_ _)); exact BK126.out⟩, ⟨by repeat (first | (with_reducible first | exact HK.out | apply Kept.alloc | apply Kept.drewN | apply Kept.drew | refine Kept.setCell ?_ (.inr GW122.out) _ | refine Kept.setCell ?_ (.inr GW126.out) _) | exact HK.out)⟩, ⟨by repeat (first | (with_reducible first | exact HB.out | apply zG | apply zH | apply zI | refine zL ?_ GE122.out | refine zL ?_ GE126.out) | exact HB.out)⟩⟩
          ·replace c37 := Bool.eq_false_iff.mpr c37
           subst c37
           have H1 : (tollbarref17_hung.j1 kj5 t140 t127 t130 t131 t134 t137 t138 true ((rd_T64 l0_0 a1).f0.f0.f0) ((rd_T64 l0_0 a1).f0.f0.f1) ((rd_T64 l0_0 a1).f0.f1) ((rd_T64 l0_0 a1).f1) ((rd_T64 l0_0 a1).f2) ((rd_T64 l0_0 a1).f3) ((rd_T64 l0_0 a1).f4)) = some (r1, r2, r3, r4, r5) := by rw [if_neg (show ¬ (false = true) by decide)] at H; exact H
           clear H
           have H := H1
           clear H1
           have H' := zK H
           clear H
           go_wp2
           go_meet
           case rel => exact ⟨_, (true), zz, H', ⟨by have := HJ5.out; first | omega | exact Nat.le_refl _⟩, ⟨by (with_reducible repeat (first | apply zA | apply zB | apply zC)); exact HO_2.out⟩, ⟨by (with_reducible repeat (first | apply zA | apply zB | apply zC)); exact HO129.out⟩, ⟨by (with_reducible repeat (first | apply zA | apply zB | apply zC)); exact HO136.out⟩, ⟨by (with_reducible repeat (first | refine zD ?_ _ | refine zE ?_ | refine zF ?_ _)); exact BK122.out⟩, ⟨by (with_reducible repeat (first | refine zD ?_ _ | refine zE ?_ | refine zF ?_ _)); exact BK126.out⟩, ⟨by repeat (first | (with_reducible first | exact HK.out | apply Kept.alloc | apply Kept.drewN | apply Kept.drew | refine Kept.setCell ?_ (.inr GW122.out) _ | refine Kept.setCell ?_ (.inr GW126.out) _) | exact HK.out)⟩, ⟨by repeat (first | (with_reducible first | exact HB.out | apply zG | apply zH | apply zI | refine zL ?_ GE122.out | refine zL ?_ GE126.out) | exact HB.out)⟩⟩
         ·replace c36 := Bool.eq_false_iff.mpr c36
          subst c36
          have H1 : (tollbarref17_hung.j1 kj5 t140 t127 t130 t131 t134 t137 t138 true ((rd_T64 l0_0 a1).f0.f0.f0) ((rd_T64 l0_0 a1).f0.f0.f1) ((rd_T64 l0_0 a1).f0.f1) ((rd_T64 l0_0 a1).f1) ((rd_T64 l0_0 a1).f2) ((rd_T64 l0_0 a1).f3) ((rd_T64 l0_0 a1).f4)) = some (r1, r2, r3, r4, r5) := by rw [if_neg (show ¬ (false = true) by decide)] at H; exact H
          clear H
          have H := H1
          clear H1
          have H' := zK H
          clear H
          go_wp2
          go_meet
          case rel => exact ⟨_, (true), zz, H', ⟨by have := HJ5.out; first | omega | exact Nat.le_refl _⟩, ⟨by (with_reducible repeat (first | apply zA | apply zB | apply zC)); exact HO_2.out⟩, ⟨by (with_reducible repeat (first | apply zA | apply zB | apply zC)); exact HO129.out⟩, ⟨by (with_reducible repeat (first | apply zA | apply zB | apply zC)); exact HO136.out⟩, ⟨by (with_reducible repeat (first | refine zD ?_ _ | refine zE ?_ | refine zF ?_ _)); exact BK122.out⟩, ⟨by (with_reducible repeat (first | refine zD ?_ _ | refine zE ?_ | refine zF ?_ _)); exact BK126.out⟩, ⟨by repeat (first | (with_reducible first | exact HK.out | apply Kept.alloc | apply Kept.drewN | apply Kept.drew | refine Kept.setCell ?_ (.inr GW122.out) _ | refine Kept.setCell ?_ (.inr GW126.out) _) | exact HK.out)⟩, ⟨by repeat (first | (with_reducible first | exact HB.out | apply zG | apply zH | apply zI | refine zL ?_ GE122.out | refine zL ?_ GE126.out) | exact HB.out)⟩⟩
        case rest =>
         clear HC22
         try clear c1
         try clear p1
         try clear q1
         try clear hx1
         try clear c2
         try clear p2
         try clear c3
         try clear c4
         try clear c4b0
         try clear c4b1
         try clear p6
         try clear c8
         try clear c8b0
         try clear c9
         try clear c9b0
         try clear c11
         try clear c11b0
         try clear c12
         try clear c12b0
         try clear p12
         try clear q12
         try clear hx12
         try clear c15
         try clear c16
         try clear c16b0
         try clear c17
         try clear c17b0
         try clear p18
         try clear q18
         try clear hx18
         try clear hf18
         try clear c19
         try clear c19b0
         try clear c27
         try clear c36
         try clear c37
         try clear c39
         try clear c40
         try clear c40b0
         try clear c41
         try clear c43
         try clear c44
         try clear c47
         try clear hcz10_0
         try clear hcz10_1
         try clear hcz10_2
         try clear hcz13_0
         try clear hcz13_1
         try clear hcz13_2
         try clear hcz25_0
         try clear hcz25_1
         try clear hcz25_2
         try clear hcz28_0
         try clear hcz28_1
         try clear hcz28_2
         try clear hcz28_3
         try clear hcz28_4
         try clear hcz28_5
         try clear hcz28_6
         try clear hcz30_0
         try clear hcz30_1
         try clear hcz30_2
         try clear hcz31_0
         try clear hcz31_1
         try clear hcz31_2
         try clear hcz31_3
         try clear hcz31_4
         try clear hcz31_5
         try clear hcz31_6
         try clear hcz33_0
         try clear hcz33_1
         try clear hcz33_2
         try clear hcz34_0
         try clear hcz34_1
         try clear hcz34_2
         try clear hcz34_3
         try clear hcz34_4
         try clear hcz34_5
         try clear hcz34_6
         try clear hcz42_0
         try clear hcz42_1
         try clear hcz42_2
         try clear hcz42_3
         try clear hcz42_4
         try clear hcz42_5
         try clear hcz42_6
         try clear hcz45_0
         try clear hcz45_1
         try clear hcz45_2
         try clear hcz45_3
         try clear hcz45_4
         try clear hcz45_5
         try clear hcz45_6
         try clear hcz48_0
         try clear hcz48_1
         try clear hcz48_2
         try clear hcz48_3
         try clear hcz48_4
         try clear hcz48_5
         try clear hcz48_6
         try clear hfz10_0
         try clear hfz10_1
         try clear hfz10_2
         try clear hfz13_0
         try clear hfz13_1
         try clear hfz13_2
         try clear hfz25_0
         try clear hfz25_1
         try clear hfz25_2
         try clear hfz28_0
         try clear hfz28_1
         try clear hfz28_2
         try clear hfz28_3
         try clear hfz28_4
         try clear hfz28_5
         try clear hfz28_6
         try clear hfz30_0
         try clear hfz30_1
         try clear hfz30_2
         try clear hfz31_0
         try clear hfz31_1
         try clear hfz31_2
         try clear hfz31_3
         try clear hfz31_4
         try clear hfz31_5
         try clear hfz31_6
         try clear hfz33_0
         try clear hfz33_1
         try clear hfz33_2
         try clear hfz34_0
         try clear hfz34_1
         try clear hfz34_2
         try clear hfz34_3
         try clear hfz34_4
         try clear hfz34_5
         try clear hfz34_6
         try clear hfz42_0
         try clear hfz42_1
         try clear hfz42_2
         try clear hfz42_3
         try clear hfz42_4
         try clear hfz42_5
         try clear hfz42_6
         try clear hfz45_0
         try clear hfz45_1
         try clear hfz45_2
         try clear hfz45_3
         try clear hfz45_4
         try clear hfz45_5
         try clear hfz45_6
         try clear hfz48_0
         try clear hfz48_1
         try clear hfz48_2
         try clear hfz48_3
         try clear hfz48_4
         try clear hfz48_5
         try clear hfz48_6
         try clear hx123_0
         try clear hx125_0
         try clear hx125_1
         try clear hx125_2
         try clear hx125_3
         try clear hx125_4
         try clear hx125_5
         try clear hx125_6
         try clear hx18_0
         try clear p1
         try clear p12
         try clear p123
         try clear p125
         try clear p18
         try clear p2
         try clear q1
         try clear q12
         try clear q123
         try clear q125
         try clear q18
         obtain ⟨kq, x90_21, rfl, HA, HJ21, HO_2, HO_11, HO_15, BK122, BK126, HK, HB⟩ := hcut
         have hl2_21 := (zX HO_2.out).1
         rw [hl2_21] at HO_2
         (try simp only [hl2_21])
         (try simp only [hl2_21] at BK122)
         (try simp only [hl2_21] at BK126)
         (try simp only [hl2_21] at HO_11)
         (try simp only [hl2_21] at HO_15)
         cases kq with
         | zero => exact absurd HA.out (by simp [tollbarref17_hung.j1])
         | succ kj21 =>
          have H := HA.out
          clear HA
          simp only [tollbarref17_hung.j1] at H
          by_cases c50 : x90_21 = true
          ·subst c50
           have H1 : (some (([] : List (S50)), 0, 0, false, t140)) = some (r1, r2, r3, r4, r5) := by rw [if_pos rfl] at H; exact H
           clear H
           have H := H1
           clear H1
           simp only [Option.some.injEq, Prod.mk.injEq] at H
           obtain ⟨rfl, rfl, rfl, rfl, rfl⟩ := H
           go_wp2
           refine bodyPost_ret (results_list (rs := [.tmp 6, .tmp 7, .tmp 8, .tmp 9]) rfl (by simp) (.tmp (.tmp (.tmp (.tmp .nil))))) rfl ?_
           exact ⟨_, by first | rfl | (simp [errW_none, errW_some] <;> rfl) | (simp [*, errW_none, errW_some] <;> rfl), by first | exact Kd.R_nil _ _ _ _ _ | exact Kd.N_nil _ _ _ _ _ | exact Kd.V_nil _ _ _ _ _ | exact Kd.Q_nil _ _ _ _ _ | exact Kd.S_nil _ _ _ _ _, (by first | exact (zr HO_2.out) | (simp only [hl2_21]; exact (zr HO_2.out))), by repeat (first | (with_reducible first | exact HB.out | apply zG | apply zH | apply zI | refine zL ?_ GE122.out | refine zL ?_ GE126.out) | exact HB.out), by repeat (first | (with_reducible first | exact HK.out | apply Kept.alloc | apply Kept.drewN | apply Kept.drew | refine Kept.setCell ?_ (.inr GW122.out) _ | refine Kept.setCell ?_ (.inr GW126.out) _) | exact HK.out)⟩
          ·replace c50 := Bool.eq_false_iff.mpr c50
           subst c50
           have H1 : (if t137 > t130 then (tollbarref17_hung.j2 kj21 t140 t127 t134 t138 t137 t131 ((rd_T64 l0_0 a1).f0.f0.f0) ((rd_T64 l0_0 a1).f0.f0.f1) ((rd_T64 l0_0 a1).f0.f1) ((rd_T64 l0_0 a1).f1) ((rd_T64 l0_0 a1).f2) ((rd_T64 l0_0 a1).f3) ((rd_T64 l0_0 a1).f4)) else (tollbarref17_hung.j2 kj21 t140 t127 t134 t138 t130 t131 ((rd_T64 l0_0 a1).f0.f0.f0) ((rd_T64 l0_0 a1).f0.f0.f1) ((rd_T64 l0_0 a1).f0.f1) ((rd_T64 l0_0 a1).f1) ((rd_T64 l0_0 a1).f2) ((rd_T64 l0_0 a1).f3) ((rd_T64 l0_0 a1).f4))) = some (r1, r2, r3, r4, r5) := by rw [if_neg (show ¬ (false = true) by decide)] at H; exact H
           clear H
           have H := H1
           clear H1
           have HC51 := zK H
           clear H
           go_upto_if 95 with (fail)
           go_cut [19] (fun v19 wc => ∃ (kq : Nat) (x19_50 : Int), v19 = .int .i64 x19_50 ∧ Aside0 (tollbarref17_hung.j2 kq t140 t127 t134 t138 x19_50 t131 ((rd_T64 l0_0 a1).f0.f0.f0) ((rd_T64 l0_0 a1).f0.f0.f1) ((rd_T64 l0_0 a1).f0.f1) ((rd_T64 l0_0 a1).f1) ((rd_T64 l0_0 a1).f2) ((rd_T64 l0_0 a1).f3) ((rd_T64 l0_0 a1).f4) = some (r1, r2, r3, r4, r5)) ∧ Aside0 (kq ≤ kj21) ∧ Aside0 (Kd.R Kd.bool 4 wc w0.heap.size (fun k_ => (P2_ k_ ∨ w.heap.size ≤ k_)) (.slice (some ⟨go18, 0, none⟩) t140.length co18) t140) ∧ Aside0 (Kd.R k50 50 wc w0.heap.size (fun k_ => (P2_ k_ ∨ w.heap.size ≤ k_) ∧ some k_ ≠ (v135 : Value).ownBlock) v128 t127) ∧ Aside0 (Kd.R k50 50 wc w0.heap.size (fun k_ => (P2_ k_ ∨ w.heap.size ≤ k_) ∧ some k_ ≠ (v128 : Value).ownBlock) v135 t134) ∧ Aside0 (wc.heap[gb122]? = some (.cells #[(.slice (some ad125) l0_0.length c0_0), .int .i64 a0_1, (.slice A0_2 l0_2.length c0_2)] 25 (0, 0))) ∧ Aside0 (wc.heap[gb126]? = some (.cells #[.int .i64 ((rd_T64 l0_0 a1).f0.f0.f0), .int .i64 ((rd_T64 l0_0 a1).f0.f0.f1), .int .i64 ((rd_T64 l0_0 a1).f0.f1), .int .i64 ((rd_T64 l0_0 a1).f1), .int .i64 ((rd_T64 l0_0 a1).f2), .int .i64 ((rd_T64 l0_0 a1).f3), .int .i64 ((rd_T64 l0_0 a1).f4)] 64 (0, 0))) ∧ Aside0 (Kept w wc (fun k_ => P2_ k_)) ∧ Aside0 (Below w0.heap.size w0 wc))
           case first =>
            have H := HC51.out
            clear HC51
            by_cases c52 : t137 > t130
            ·rw [if_pos c52] at H
             have c52b0 : decide (t130 < t137) = true := decide_eq_true c52
             clear c52
             (first | rw [c52b0] | (simp only [i64_w, i32_w]; rw [c52b0]) | skip)
             have H' := zK H
             clear H
             go_wp2
             go_meet
             case rel => exact ⟨_, (t137), zz, H', ⟨by have := HJ5.out; have := HJ21.out; first | omega | exact Nat.le_refl _⟩, ⟨by (try simp only [hl2_21]); (with_reducible repeat (first | apply zA | apply zB | apply zC)); exact HO_2.out⟩, ⟨by (try simp only [hl2_21]); (with_reducible repeat (first | apply zA | apply zB | apply zC)); exact HO_11.out⟩, ⟨by (try simp only [hl2_21]); (with_reducible repeat (first | apply zA | apply zB | apply zC)); exact HO_15.out⟩, ⟨by (try simp only [hl2_21]); (with_reducible repeat (first | refine zD ?_ _ | refine zE ?_ | refine zF ?_ _)); exact BK122.out⟩, ⟨by (try simp only [hl2_21]); (with_reducible repeat (first | refine zD ?_ _ | refine zE ?_ | refine zF ?_ _)); exact BK126.out⟩, ⟨by repeat (first | (with_reducible first | exact HK.out | apply Kept.alloc | apply Kept.drewN | apply Kept.drew | refine Kept.setCell ?_ (.inr GW122.out) _ | refine Kept.setCell ?_ (.inr GW126.out) _) | exact HK.out)⟩, ⟨by repeat (first | (with_reducible first | exact HB.out | apply zG | apply zH | apply zI | refine zL ?_ GE122.out | refine zL ?_ GE126.out) | exact HB.out)⟩⟩
            ·rw [if_neg c52] at H
             have c52b0 : decide (t130 < t137) = false := decide_eq_false c52
             clear c52
             (first | rw [c52b0] | (simp only [i64_w, i32_w]; rw [c52b0]) | skip)
             have H' := zK H
             clear H
             go_wp2
             go_meet
             case rel => exact ⟨_, (t130), zz, H', ⟨by have := HJ5.out; have := HJ21.out; first | omega | exact Nat.le_refl _⟩, ⟨by (try simp only [hl2_21]); (with_reducible repeat (first | apply zA | apply zB | apply zC)); exact HO_2.out⟩, ⟨by (try simp only [hl2_21]); (with_reducible repeat (first | apply zA | apply zB | apply zC)); exact HO_11.out⟩, ⟨by (try simp only [hl2_21]); (with_reducible repeat (first | apply zA | apply zB | apply zC)); exact HO_15.out⟩, ⟨by (try simp only [hl2_21]); (with_reducible repeat (first | refine zD ?_ _ | refine zE ?_ | refine zF ?_ _)); exact BK122.out⟩, ⟨by (try simp only [hl2_21]); (with_reducible repeat (first | refine zD ?_ _ | refine zE ?_ | refine zF ?_ _)); exact BK126.out⟩, ⟨by repeat (first | (with_reducible first | exact HK.out | apply Kept.alloc | apply Kept.drewN | apply Kept.drew | refine Kept.setCell ?_ (.inr GW122.out) _ | refine Kept.setCell ?_ (.inr GW126.out) _) | exact HK.out)⟩, ⟨by repeat (first | (with_reducible first | exact HB.out | apply zG | apply zH | apply zI | refine zL ?_ GE122.out | refine zL ?_ GE126.out) | exact HB.out)⟩⟩
           case rest =>
            clear HC51
            try clear c1
            try clear p1
            try clear q1
            try clear hx1
            try clear c2
            try clear p2
            try clear c3
            try clear c4
            try clear c4b0
            try clear c4b1
            try clear c5
            try clear p6
            try clear c8
            try clear c8b0
            try clear c9
            try clear c9b0
            try clear c11
            try clear c11b0
            try clear c12
            try clear c12b0
            try clear p12
            try clear q12
            try clear hx12
            try clear c15
            try clear c16
            try clear c16b0
            try clear c17
            try clear c17b0
            try clear p18
            try clear q18
            try clear hx18
            try clear hf18
            try clear c19
            try clear c19b0
            try clear c27
            try clear c36
            try clear c37
            try clear c39
            try clear c40
            try clear c40b0
            try clear c41
            try clear c43
            try clear c44
            try clear c47
            try clear c50
            try clear c52
            try clear c52b0
            try clear hcz10_0
            try clear hcz10_1
            try clear hcz10_2
            try clear hcz13_0
            try clear hcz13_1
            try clear hcz13_2
            try clear hcz25_0
            try clear hcz25_1
            try clear hcz25_2
            try clear hcz28_0
            try clear hcz28_1
            try clear hcz28_2
            try clear hcz28_3
            try clear hcz28_4
            try clear hcz28_5
            try clear hcz28_6
            try clear hcz30_0
            try clear hcz30_1
            try clear hcz30_2
            try clear hcz31_0
            try clear hcz31_1
            try clear hcz31_2
            try clear hcz31_3
            try clear hcz31_4
            try clear hcz31_5
            try clear hcz31_6
            try clear hcz33_0
            try clear hcz33_1
            try clear hcz33_2
            try clear hcz34_0
            try clear hcz34_1
            try clear hcz34_2
            try clear hcz34_3
            try clear hcz34_4
            try clear hcz34_5
            try clear hcz34_6
            try clear hcz42_0
            try clear hcz42_1
            try clear hcz42_2
            try clear hcz42_3
            try clear hcz42_4
            try clear hcz42_5
            try clear hcz42_6
            try clear hcz45_0
            try clear hcz45_1
            try clear hcz45_2
            try clear hcz45_3
            try clear hcz45_4
            try clear hcz45_5
            try clear hcz45_6
            try clear hcz48_0
            try clear hcz48_1
            try clear hcz48_2
            try clear hcz48_3
            try clear hcz48_4
            try clear hcz48_5
            try clear hcz48_6
            try clear hfz10_0
            try clear hfz10_1
            try clear hfz10_2
            try clear hfz13_0
            try clear hfz13_1
            try clear hfz13_2
            try clear hfz25_0
            try clear hfz25_1
            try clear hfz25_2
            try clear hfz28_0
            try clear hfz28_1
            try clear hfz28_2
            try clear hfz28_3
            try clear hfz28_4
            try clear hfz28_5
            try clear hfz28_6
            try clear hfz30_0
            try clear hfz30_1
            try clear hfz30_2
            try clear hfz31_0
            try clear hfz31_1
            try clear hfz31_2
            try clear hfz31_3
            try clear hfz31_4
            try clear hfz31_5
            try clear hfz31_6
            try clear hfz33_0
            try clear hfz33_1
            try clear hfz33_2
            try clear hfz34_0
            try clear hfz34_1
            try clear hfz34_2
            try clear hfz34_3
            try clear hfz34_4
            try clear hfz34_5
            try clear hfz34_6
            try clear hfz42_0
            try clear hfz42_1
            try clear hfz42_2
            try clear hfz42_3
            try clear hfz42_4
            try clear hfz42_5
            try clear hfz42_6
            try clear hfz45_0
            try clear hfz45_1
            try clear hfz45_2
            try clear hfz45_3
            try clear hfz45_4
            try clear hfz45_5
            try clear hfz45_6
            try clear hfz48_0
            try clear hfz48_1
            try clear hfz48_2
            try clear hfz48_3
            try clear hfz48_4
            try clear hfz48_5
            try clear hfz48_6
            try clear hx123_0
            try clear hx125_0
            try clear hx125_1
            try clear hx125_2
            try clear hx125_3
            try clear hx125_4
            try clear hx125_5
            try clear hx125_6
            try clear hx18_0
            try clear p1
            try clear p12
            try clear p123
            try clear p125
            try clear p18
            try clear p2
            try clear p6
            try clear q1
            try clear q12
            try clear q123
            try clear q125
            try clear q18
            obtain ⟨kq, x19_50, rfl, HA, HJ50, HO_2, HO_11, HO_15, BK122, BK126, HK, HB⟩ := hcut
            cases kq with
            | zero => exact absurd HA.out (by simp [tollbarref17_hung.j2])
            | succ kj50 =>
             have H := HA.out
             clear HA
             simp only [tollbarref17_hung.j2] at H
             have HC53 := zK H
             clear H
             go_upto_if 99 with (fail)
             go_cut [20] (fun v20 wc => ∃ (kq : Nat) (x20_52 : Int), v20 = .int .i64 x20_52 ∧ Aside0 (tollbarref17_hung.j3 kq t140 t127 t134 x19_50 x20_52 ((rd_T64 l0_0 a1).f0.f0.f0) ((rd_T64 l0_0 a1).f0.f0.f1) ((rd_T64 l0_0 a1).f0.f1) ((rd_T64 l0_0 a1).f1) ((rd_T64 l0_0 a1).f2) ((rd_T64 l0_0 a1).f3) ((rd_T64 l0_0 a1).f4) = some (r1, r2, r3, r4, r5)) ∧ Aside0 (kq ≤ kj50) ∧ Aside0 (Kd.R Kd.bool 4 wc w0.heap.size (fun k_ => (P2_ k_ ∨ w.heap.size ≤ k_)) (.slice (some ⟨go18, 0, none⟩) t140.length co18) t140) ∧ Aside0 (Kd.R k50 50 wc w0.heap.size (fun k_ => (P2_ k_ ∨ w.heap.size ≤ k_) ∧ some k_ ≠ (v135 : Value).ownBlock) v128 t127) ∧ Aside0 (Kd.R k50 50 wc w0.heap.size (fun k_ => (P2_ k_ ∨ w.heap.size ≤ k_) ∧ some k_ ≠ (v128 : Value).ownBlock) v135 t134) ∧ Aside0 (wc.heap[gb122]? = some (.cells #[(.slice (some ad125) l0_0.length c0_0), .int .i64 a0_1, (.slice A0_2 l0_2.length c0_2)] 25 (0, 0))) ∧ Aside0 (wc.heap[gb126]? = some (.cells #[.int .i64 ((rd_T64 l0_0 a1).f0.f0.f0), .int .i64 ((rd_T64 l0_0 a1).f0.f0.f1), .int .i64 ((rd_T64 l0_0 a1).f0.f1), .int .i64 ((rd_T64 l0_0 a1).f1), .int .i64 ((rd_T64 l0_0 a1).f2), .int .i64 ((rd_T64 l0_0 a1).f3), .int .i64 ((rd_T64 l0_0 a1).f4)] 64 (0, 0))) ∧ Aside0 (Kept w wc (fun k_ => P2_ k_)) ∧ Aside0 (Below w0.heap.size w0 wc))
             case first =>
              have H := HC53.out
              clear HC53
              by_cases c54 : t138 > t131
              ·rw [if_pos c54] at H
               have c54b0 : decide (t131 < t138) = true := decide_eq_true c54
               clear c54
               (first | rw [c54b0] | (simp only [i64_w, i32_w]; rw [c54b0]) | skip)
               have H' := zK H
               clear H
               go_wp2
               go_meet
               case rel => exact ⟨_, (t138), zz, H', ⟨by have := HJ5.out; have := HJ21.out; have := HJ50.out; first | omega | exact Nat.le_refl _⟩, ⟨by (try simp only [hl2_21]); (with_reducible repeat (first | apply zA | apply zB | apply zC)); exact HO_2.out⟩, ⟨by (try simp only [hl2_21]); (with_reducible repeat (first | apply zA | apply zB | apply zC)); exact HO_11.out⟩, ⟨by (try simp only [hl2_21]); (with_reducible repeat (first | apply zA | apply zB | apply zC)); exact HO_15.out⟩, ⟨by (try simp only [hl2_21]); (with_reducible repeat (first | refine zD ?_ _ | refine zE ?_ | refine zF ?_ _)); exact BK122.out⟩, ⟨by (try simp only [hl2_21]); (with_reducible repeat (first | refine zD ?_ _ | refine zE ?_ | refine zF ?_ _)); exact BK126.out⟩, ⟨by repeat (first | (with_reducible first | exact HK.out | apply Kept.alloc | apply Kept.drewN | apply Kept.drew | refine Kept.setCell ?_ (.inr GW122.out) _ | refine Kept.setCell ?_ (.inr GW126.out) _) | exact HK.out)⟩, ⟨by repeat (first | (with_reducible first | exact HB.out | apply zG | apply zH | apply zI | refine zL ?_ GE122.out | refine zL ?_ GE126.out) | exact HB.out)⟩⟩
              ·rw [if_neg c54] at H
               have c54b0 : decide (t131 < t138) = false := decide_eq_false c54
               clear c54
               (first | rw [c54b0] | (simp only [i64_w, i32_w]; rw [c54b0]) | skip)
               have H' := zK H
               clear H
               go_wp2
               go_meet
               case rel => exact ⟨_, (t131), zz, H', ⟨by have := HJ5.out; have := HJ21.out; have := HJ50.out; first | omega | exact Nat.le_refl _⟩, ⟨by (try simp only [hl2_21]); (with_reducible repeat (first | apply zA | apply zB | apply zC)); exact HO_2.out⟩, ⟨by (try simp only [hl2_21]); (with_reducible repeat (first | apply zA | apply zB | apply zC)); exact HO_11.out⟩, ⟨by (try simp only [hl2_21]); (with_reducible repeat (first | apply zA | apply zB | apply zC)); exact HO_15.out⟩, ⟨by (try simp only [hl2_21]); (with_reducible repeat (first | refine zD ?_ _ | refine zE ?_ | refine zF ?_ _)); exact BK122.out⟩, ⟨by (try simp only [hl2_21]); (with_reducible repeat (first | refine zD ?_ _ | refine zE ?_ | refine zF ?_ _)); exact BK126.out⟩, ⟨by repeat (first | (with_reducible first | exact HK.out | apply Kept.alloc | apply Kept.drewN | apply Kept.drew | refine Kept.setCell ?_ (.inr GW122.out) _ | refine Kept.setCell ?_ (.inr GW126.out) _) | exact HK.out)⟩, ⟨by repeat (first | (with_reducible first | exact HB.out | apply zG | apply zH | apply zI | refine zL ?_ GE122.out | refine zL ?_ GE126.out) | exact HB.out)⟩⟩
             case rest =>
              clear HC53
              try clear c1
              try clear p1
              try clear q1
              try clear hx1
              try clear c2
              try clear p2
              try clear c3
              try clear c4
              try clear c4b0
              try clear c4b1
              try clear c5
              try clear p6
              try clear c8
              try clear c8b0
              try clear c9
              try clear c9b0
              try clear c11
              try clear c11b0
              try clear c12
              try clear c12b0
              try clear p12
              try clear q12
              try clear hx12
              try clear c15
              try clear c16
              try clear c16b0
              try clear c17
              try clear c17b0
              try clear p18
              try clear q18
              try clear hx18
              try clear hf18
              try clear c19
              try clear c19b0
              try clear c27
              try clear c36
              try clear c37
              try clear c39
              try clear c40
              try clear c40b0
              try clear c41
              try clear c43
              try clear c44
              try clear c47
              try clear c50
              try clear c52
              try clear c52b0
              try clear c54
              try clear c54b0
              try clear hcz10_0
              try clear hcz10_1
              try clear hcz10_2
              try clear hcz13_0
              try clear hcz13_1
              try clear hcz13_2
              try clear hcz25_0
              try clear hcz25_1
              try clear hcz25_2
              try clear hcz28_0
              try clear hcz28_1
              try clear hcz28_2
              try clear hcz28_3
              try clear hcz28_4
              try clear hcz28_5
              try clear hcz28_6
              try clear hcz30_0
              try clear hcz30_1
              try clear hcz30_2
              try clear hcz31_0
              try clear hcz31_1
              try clear hcz31_2
              try clear hcz31_3
              try clear hcz31_4
              try clear hcz31_5
              try clear hcz31_6
              try clear hcz33_0
              try clear hcz33_1
              try clear hcz33_2
              try clear hcz34_0
              try clear hcz34_1
              try clear hcz34_2
              try clear hcz34_3
              try clear hcz34_4
              try clear hcz34_5
              try clear hcz34_6
              try clear hcz42_0
              try clear hcz42_1
              try clear hcz42_2
              try clear hcz42_3
              try clear hcz42_4
              try clear hcz42_5
              try clear hcz42_6
              try clear hcz45_0
              try clear hcz45_1
              try clear hcz45_2
              try clear hcz45_3
              try clear hcz45_4
              try clear hcz45_5
              try clear hcz45_6
              try clear hcz48_0
              try clear hcz48_1
              try clear hcz48_2
              try clear hcz48_3
              try clear hcz48_4
              try clear hcz48_5
              try clear hcz48_6
              try clear hfz10_0
              try clear hfz10_1
              try clear hfz10_2
              try clear hfz13_0
              try clear hfz13_1
              try clear hfz13_2
              try clear hfz25_0
              try clear hfz25_1
              try clear hfz25_2
              try clear hfz28_0
              try clear hfz28_1
              try clear hfz28_2
              try clear hfz28_3
              try clear hfz28_4
              try clear hfz28_5
              try clear hfz28_6
              try clear hfz30_0
              try clear hfz30_1
              try clear hfz30_2
              try clear hfz31_0
              try clear hfz31_1
              try clear hfz31_2
              try clear hfz31_3
              try clear hfz31_4
              try clear hfz31_5
              try clear hfz31_6
              try clear hfz33_0
              try clear hfz33_1
              try clear hfz33_2
              try clear hfz34_0
              try clear hfz34_1
              try clear hfz34_2
              try clear hfz34_3
              try clear hfz34_4
              try clear hfz34_5
              try clear hfz34_6
              try clear hfz42_0
              try clear hfz42_1
              try clear hfz42_2
              try clear hfz42_3
              try clear hfz42_4
              try clear hfz42_5
              try clear hfz42_6
              try clear hfz45_0
              try clear hfz45_1
              try clear hfz45_2
              try clear hfz45_3
              try clear hfz45_4
              try clear hfz45_5
              try clear hfz45_6
              try clear hfz48_0
              try clear hfz48_1
              try clear hfz48_2
              try clear hfz48_3
              try clear hfz48_4
              try clear hfz48_5
              try clear hfz48_6
              try clear hx123_0
              try clear hx125_0
              try clear hx125_1
              try clear hx125_2
              try clear hx125_3
              try clear hx125_4
              try clear hx125_5
              try clear hx125_6
              try clear hx18_0
              try clear p1
              try clear p12
              try clear p123
              try clear p125
              try clear p18
              try clear p2
              try clear p6
              try clear q1
              try clear q12
              try clear q123
              try clear q125
              try clear q18
              obtain ⟨kq, x20_52, rfl, HA, HJ52, HO_2, HO_11, HO_15, BK122, BK126, HK, HB⟩ := hcut
              cases kq with
              | zero => exact absurd HA.out (by simp [tollbarref17_hung.j3])
              | succ kj52 =>
               have H := HA.out
               clear HA
               simp only [tollbarref17_hung.j3] at H
               by_cases c55 : ((rd_T64 l0_0 a1).f0.f0.f1) > x20_52
               ·rw [if_pos c55] at H
                have c55b0 : decide (x20_52 < ((rd_T64 l0_0 a1).f0.f0.f1)) = true := decide_eq_true c55
                clear c55
                by_cases c56 : ((rd_T64 l0_0 a1).f3) = (wrap64 (x19_50 + 1))
                ·rw [if_pos c56] at H
                 have c56b0 : (((rd_T64 l0_0 a1).f3) == (wrap64 (x19_50 + 1))) = true := yI.mpr c56
                 have c56b1 : (((rd_T64 l0_0 a1).f3) != (wrap64 (x19_50 + 1))) = false := yJ.mpr c56
                 clear c56
                 by_cases c57 : ((rd_T64 l0_0 a1).f4) = ((rd_T64 l0_0 a1).f0.f0.f1)
                 ·rw [if_pos c57] at H
                  have c57b0 : (((rd_T64 l0_0 a1).f4) == ((rd_T64 l0_0 a1).f0.f0.f1)) = true := yI.mpr c57
                  have c57b1 : (((rd_T64 l0_0 a1).f4) != ((rd_T64 l0_0 a1).f0.f0.f1)) = false := yJ.mpr c57
                  clear c57
                  obtain ⟨y142, hy142⟩ : ∃ y_ : List (S50), y_ = (([] : List (S50))) := ⟨_, rfl⟩
                  replace H : (if y142.length + t127.length < 5864062014805 then ((some (y142 ++ t127 : List (S50))).bind fun y145 => (if y145.length < 5864062014805 then ((some (y145 ++ [(⟨(⟨((rd_T64 l0_0 a1).f0.f0.f0), ((rd_T64 l0_0 a1).f0.f0.f1)⟩ : S27), ((rd_T64 l0_0 a1).f0.f1)⟩ : S50)] : List (S50))).bind fun y148 => (if y148.length + t134.length < 5864062014805 then (some ((y148 ++ t134), wrap64 (x19_50 + 1), ((rd_T64 l0_0 a1).f0.f0.f1), true, t140)) else (none))) else (none))) else (none)) = some (r1, r2, r3, r4, r5) := by first | (rw [hy142]; with_reducible exact H) | (have H2_ := (Option.bind_some _ _).symm.trans H; rw [hy142]; with_reducible exact H2_) | (have H2_ := (Option.bind_some _ _).symm.trans H; with_reducible exact H2_) | with_reducible exact H | (rw [hy142]; exact H) | exact H
                  have Ny142 := zK hy142
                  clear hy142
                  by_cases c58 : y142.length + t127.length < 5864062014805
                  ·rw [if_pos c58] at H
                   have LMc58 := zK c58
                   clear c58
                   obtain ⟨y145, hy145⟩ : ∃ y_ : List (S50), y_ = (y142 ++ t127) := ⟨_, rfl⟩
                   replace H : (if y145.length < 5864062014805 then ((some (y145 ++ [(⟨(⟨((rd_T64 l0_0 a1).f0.f0.f0), ((rd_T64 l0_0 a1).f0.f0.f1)⟩ : S27), ((rd_T64 l0_0 a1).f0.f1)⟩ : S50)] : List (S50))).bind fun y148 => (if y148.length + t134.length < 5864062014805 then (some ((y148 ++ t134), wrap64 (x19_50 + 1), ((rd_T64 l0_0 a1).f0.f0.f1), true, t140)) else (none))) else (none)) = some (r1, r2, r3, r4, r5) := by first | (rw [hy145]; with_reducible exact H) | (have H2_ := (Option.bind_some _ _).symm.trans H; rw [hy145]; with_reducible exact H2_) | (have H2_ := (Option.bind_some _ _).symm.trans H; with_reducible exact H2_) | with_reducible exact H | (rw [hy145]; exact H) | exact H
                   have Ny145 := zK hy145
                   clear hy145
                   by_cases c59 : y145.length < 5864062014805
                   ·rw [if_pos c59] at H
                    have LMc59 := zK c59
                    clear c59
                    obtain ⟨y148, hy148⟩ : ∃ y_ : List (S50), y_ = (y145 ++ [(⟨(⟨((rd_T64 l0_0 a1).f0.f0.f0), ((rd_T64 l0_0 a1).f0.f0.f1)⟩ : S27), ((rd_T64 l0_0 a1).f0.f1)⟩ : S50)]) := ⟨_, rfl⟩
                    replace H : (if y148.length + t134.length < 5864062014805 then (some ((y148 ++ t134), wrap64 (x19_50 + 1), ((rd_T64 l0_0 a1).f0.f0.f1), true, t140)) else (none)) = some (r1, r2, r3, r4, r5) := by first | (rw [hy148]; with_reducible exact H) | (have H2_ := (Option.bind_some _ _).symm.trans H; rw [hy148]; with_reducible exact H2_) | (have H2_ := (Option.bind_some _ _).symm.trans H; with_reducible exact H2_) | with_reducible exact H | (rw [hy148]; exact H) | exact H
                    have Ny148 := zK hy148
                    clear hy148
                    by_cases c60 : y148.length + t134.length < 5864062014805
                    ·rw [if_pos c60] at H
                     have LMc60 := zK c60
                     clear c60
                     obtain ⟨y151, hy151⟩ : ∃ y_ : List (S50), y_ = (y148 ++ t134) := ⟨_, rfl⟩
                     replace H : (some (y151, wrap64 (x19_50 + 1), ((rd_T64 l0_0 a1).f0.f0.f1), true, t140)) = some (r1, r2, r3, r4, r5) := by first | (rw [hy151]; with_reducible exact H) | (have H2_ := (Option.bind_some _ _).symm.trans H; rw [hy151]; with_reducible exact H2_) | (have H2_ := (Option.bind_some _ _).symm.trans H; with_reducible exact H2_) | with_reducible exact H | (rw [hy151]; exact H) | exact H
                     have Ny151 := zK hy151
                     clear hy151
                     simp only [Option.some.injEq, Prod.mk.injEq] at H
                     obtain ⟨rfl, rfl, rfl, rfl, rfl⟩ := H
                     have hnb61 := NB126_122.out
                     have hnc61 := NB122_126.out
                     have hcz62_0 : wc.cell? ⟨gb126, 0, none⟩ = some (.int .i64 ((rd_T64 l0_0 a1).f0.f0.f0)) := (zQ BK126.out 0).trans rfl
                     have hcz62_1 : wc.cell? ⟨gb126, 1, none⟩ = some (.int .i64 ((rd_T64 l0_0 a1).f0.f0.f1)) := (zQ BK126.out 1).trans rfl
                     have hcz62_2 : wc.cell? ⟨gb126, 2, none⟩ = some (.int .i64 ((rd_T64 l0_0 a1).f0.f1)) := (zQ BK126.out 2).trans rfl
                     have hcz62_3 : wc.cell? ⟨gb126, 3, none⟩ = some (.int .i64 ((rd_T64 l0_0 a1).f1)) := (zQ BK126.out 3).trans rfl
                     have hcz62_4 : wc.cell? ⟨gb126, 4, none⟩ = some (.int .i64 ((rd_T64 l0_0 a1).f2)) := (zQ BK126.out 4).trans rfl
                     have hcz62_5 : wc.cell? ⟨gb126, 5, none⟩ = some (.int .i64 ((rd_T64 l0_0 a1).f3)) := (zQ BK126.out 5).trans rfl
                     have hcz62_6 : wc.cell? ⟨gb126, 6, none⟩ = some (.int .i64 ((rd_T64 l0_0 a1).f4)) := (zQ BK126.out 6).trans rfl
                     have hfz62_0 := zR BK126.out 0
                     have hfz62_1 := zR BK126.out 1
                     have hfz62_2 := zR BK126.out 2
                     have hfz62_3 := zR BK126.out 3
                     have hfz62_4 := zR BK126.out 4
                     have hfz62_5 := zR BK126.out 5
                     have hfz62_6 := zR BK126.out 6
                     go_wp2_with (first | ((with_reducible refine gate_dst (N := 122) rfl ?_); (try (refine gate_guard (by rfl) ?_; dsimp only)); refine Kd.R_lit k50 _ 50 ?hg (N := 122) ?hd (xs := ([] : List (S50))) (inner := []) (ok := fun _ => True) (okp := fun _ => True) ?hr ?hp (fun _ hk => hk) trivial (Below.refl _ _) (Nat.le_refl _) (by simp) ?_; (case hd => rfl); (case hg => rfl); (case hr => first | (go_simp; done) | (go_simp; rfl)); (case hp => exact (Reps.none _ _)); intro v143 w63 ho64 hb hg_ hnew_; clear hg_ hnew_; (first | rw [← Ny142.out] at ho64 | (simp only [Int.reduceToNat] at ho64; rw [← Ny142.out] at ho64)); have n0_ := zK (zO (zr HO_2.out) hb); have n1_ := zK (yC (zr HO_11.out) (Kd.R_base ho64) hb); have n2_ := zK (yC (zr HO_15.out) (Kd.R_base ho64) hb); have n3_ := zK (zV (zW (zW (Kd.R_newM (M := fun k_ => (P2_ k_ ∨ w.heap.size ≤ k_)) ho64 (by first | exact HK.out.1 | exact (show Kept w _ (fun k_ => P2_ k_) from by repeat (first | (with_reducible first | exact HK.out | apply Kept.alloc | apply Kept.drewN | apply Kept.drew | refine Kept.setCell ?_ (.inr GW122.out) _ | refine Kept.setCell ?_ (.inr GW126.out) _) | exact HK.out)).1) (fun k_ h_ => .inr h_)) (yB (zr HO_11.out))) (yB (zr HO_15.out))) (yG (zl HB.out))); have n4_ := zK (zP (g := gb122) (o := .cells #[.slice (some ad125) l0_0.length c0_0, .int .i64 a0_1, .slice A0_2 l0_2.length c0_2] 25 (0, 0)) (zb BK122.out) hb); have n5_ := zK (zP (g := gb126) (o := .cells #[.int .i64 ((rd_T64 l0_0 a1).f0.f0.f0), .int .i64 ((rd_T64 l0_0 a1).f0.f0.f1), .int .i64 ((rd_T64 l0_0 a1).f0.f1), .int .i64 ((rd_T64 l0_0 a1).f1), .int .i64 ((rd_T64 l0_0 a1).f2), .int .i64 ((rd_T64 l0_0 a1).f3), .int .i64 ((rd_T64 l0_0 a1).f4)] 64 (0, 0)) (zb BK126.out) hb); have n6_ := zK (Kept.below (S := (fun k_ => P2_ k_)) (by repeat (first | (with_reducible first | exact HK.out | apply Kept.alloc | apply Kept.drewN | apply Kept.drew | refine Kept.setCell ?_ (.inr GW122.out) _ | refine Kept.setCell ?_ (.inr GW126.out) _) | exact HK.out)) hb); have n7_ := zK (yF (zl HB.out) hb); clear HO_2; clear HO_11; clear HO_15; clear BK122; clear BK126; clear HK; clear HB; have HO_2 := n0_; have HO_11 := n1_; have HO_15 := n2_; have HO144 := n3_; have BK122 := n4_; have BK126 := n5_; have HK := n6_; have HB := n7_; clear n0_ n1_ n2_ n3_ n4_ n5_ n6_ n7_; clear hb ho64; obtain ⟨Ao66, co66, eo66⟩ := yE HO_11.out; subst eo66) | ((with_reducible refine gate_builtin (b := .append) (xs := #[.tmp 122, .tmp 123]) rfl ?_); (try (refine gate_guard (by rfl) ?_; dsimp only)); at_builtin; refine Kd.R_append_rows k50 (w0 := w0) w0.heap.size rfl (.tmp 122) (.tmp 123) 29 50 (.agg #[(.int .i64 0), (.int .i64 0), (.int .i64 0)]) 24 rfl Try.underlying29 info50 rfl (by decide) (by omega) v143 y142 t127 _ _ _ (fun k_ => (P2_ k_ ∨ w.heap.size ≤ k_) ∧ some k_ ≠ (.slice Ao66 t127.length co66 : Value).ownBlock ∧ some k_ ≠ (v135 : Value).ownBlock) (fun _ => False) rfl rfl ?aO ?aR (fun _ _ h => h) (fun _ h => h.elim) ?aF ?aB ?aS ?aL ?_; (case aR => exact zc (zX HO_11.out).2.2); (case aB => exact (zl HB.out)); (case aF => exact (fun k_ hk => ⟨(.inr (Nat.le_trans (by first | exact HK.out.1 | exact (show Kept w _ (fun k_ => P2_ k_) from by repeat (first | (with_reducible first | exact HK.out | apply Kept.alloc | apply Kept.drewN | apply Kept.drew | refine Kept.setCell ?_ (.inr GW122.out) _ | refine Kept.setCell ?_ (.inr GW126.out) _) | exact HK.out)).1) hk)), Kd.fresh' (yB (zr HO_11.out)) k_ hk, Kd.fresh' (yB (zr HO_15.out)) k_ hk⟩)); (case aO => exact (by (with_reducible repeat (first | apply zA | apply zB | apply zC)); exact Kd.R_mono HO144.out (fun _ hk => ⟨hk.1.1.1, ⟨hk.1.2, hk.2⟩⟩))); (case aS => exact (yG (zl HB.out))); (case aL => have := LMc58.out; omega); intro v146 w65 ho hb hg hat; rw [← Ny145.out] at ho; have n0_ := zK (Kd.R_over' (zr HO_2.out) (Kd.R_typed (zr HO144.out)) (by decide) hg); have n1_ := zK (Kd.R_after (ok := (fun k_ => (P2_ k_ ∨ w.heap.size ≤ k_) ∧ some k_ ≠ (v135 : Value).ownBlock)) (zr HO_11.out) hg hat); have n2_ := zK (Kd.R_after (ok := (fun k_ => (P2_ k_ ∨ w.heap.size ≤ k_) ∧ some k_ ≠ (.slice Ao66 t127.length co66 : Value).ownBlock)) (zr HO_15.out) hg hat); have n3_ := zK (blk_grown (g := gb122) (o := .cells #[.slice (some ad125) l0_0.length c0_0, .int .i64 a0_1, .slice A0_2 l0_2.length c0_2] 25 (0, 0)) (zb BK122.out) hg (Kd.R_ne HO144.out BK122.out (by decide))); have n4_ := zK (blk_grown (g := gb126) (o := .cells #[.int .i64 ((rd_T64 l0_0 a1).f0.f0.f0), .int .i64 ((rd_T64 l0_0 a1).f0.f0.f1), .int .i64 ((rd_T64 l0_0 a1).f0.f1), .int .i64 ((rd_T64 l0_0 a1).f1), .int .i64 ((rd_T64 l0_0 a1).f2), .int .i64 ((rd_T64 l0_0 a1).f3), .int .i64 ((rd_T64 l0_0 a1).f4)] 64 (0, 0)) (zb BK126.out) hg (Kd.R_ne HO144.out BK126.out (by decide))); have n5_ := zK (hb); have n6_ := zK (Kept.of_grown (S := (fun k_ => P2_ k_)) hg (by repeat (first | (with_reducible first | exact HK.out | apply Kept.alloc | apply Kept.drewN | apply Kept.drew | refine Kept.setCell ?_ (.inr GW122.out) _ | refine Kept.setCell ?_ (.inr GW126.out) _) | exact HK.out)) (fun k_ e_ => (HO144.out.1 k_ e_).1.1.1)); have n7_ := zK (ho); clear HO_2; clear HO_11; clear HO_15; clear BK122; clear BK126; clear HB; clear HK; clear HO144; have HO_2 := n0_; have HO_11 := n1_; have HO_15 := n2_; have BK122 := n3_; have BK126 := n4_; have HB := n5_; have HK := n6_; have HO147 := n7_; clear n0_ n1_ n2_ n3_ n4_ n5_ n6_ n7_; clear ho hb hg hat; have hcz67_0 : w65.cell? ⟨gb126, 0, none⟩ = some (.int .i64 ((rd_T64 l0_0 a1).f0.f0.f0)) := (zQ BK126.out 0).trans rfl; have hcz67_1 : w65.cell? ⟨gb126, 1, none⟩ = some (.int .i64 ((rd_T64 l0_0 a1).f0.f0.f1)) := (zQ BK126.out 1).trans rfl; have hcz67_2 : w65.cell? ⟨gb126, 2, none⟩ = some (.int .i64 ((rd_T64 l0_0 a1).f0.f1)) := (zQ BK126.out 2).trans rfl; have hcz67_3 : w65.cell? ⟨gb126, 3, none⟩ = some (.int .i64 ((rd_T64 l0_0 a1).f1)) := (zQ BK126.out 3).trans rfl; have hcz67_4 : w65.cell? ⟨gb126, 4, none⟩ = some (.int .i64 ((rd_T64 l0_0 a1).f2)) := (zQ BK126.out 4).trans rfl; have hcz67_5 : w65.cell? ⟨gb126, 5, none⟩ = some (.int .i64 ((rd_T64 l0_0 a1).f3)) := (zQ BK126.out 5).trans rfl; have hcz67_6 : w65.cell? ⟨gb126, 6, none⟩ = some (.int .i64 ((rd_T64 l0_0 a1).f4)) := (zQ BK126.out 6).trans rfl; have hfz67_0 := zR BK126.out 0; have hfz67_1 := zR BK126.out 1; have hfz67_2 := zR BK126.out 2; have hfz67_3 := zR BK126.out 3; have hfz67_4 := zR BK126.out 4; have hfz67_5 := zR BK126.out 5; have hfz67_6 := zR BK126.out 6) | ((with_reducible refine gate_builtin (b := .append) (xs := #[.tmp 125, .tmp 128]) rfl ?_); (try (refine gate_guard (by rfl) ?_; dsimp only)); at_builtin; refine Kd.R_append k50 (w0 := w0) w0.heap.size rfl (.tmp 125) (.tmp 128) 29 50 (.agg #[(.int .i64 0), (.int .i64 0), (.int .i64 0)]) 24 rfl Try.underlying29 info50 rfl (by decide) (by omega) v146 y145 (⟨(⟨((rd_T64 l0_0 a1).f0.f0.f0), ((rd_T64 l0_0 a1).f0.f0.f1)⟩ : S27), ((rd_T64 l0_0 a1).f0.f1)⟩ : S50) [.int .i64 ((rd_T64 l0_0 a1).f0.f0.f0), .int .i64 ((rd_T64 l0_0 a1).f0.f0.f1), .int .i64 ((rd_T64 l0_0 a1).f0.f1)] (fun k_ => (P2_ k_ ∨ w.heap.size ≤ k_) ∧ some k_ ≠ (.slice Ao66 t127.length co66 : Value).ownBlock ∧ some k_ ≠ (v135 : Value).ownBlock) (fun _ => False) rfl rfl ?aP (fun _ hk => hk.elim) ?aF ?aO ?aB ?aS ?aL ?_; (case aP => exact k50_mkM _ _ _ (⟨(⟨((rd_T64 l0_0 a1).f0.f0.f0), ((rd_T64 l0_0 a1).f0.f0.f1)⟩ : S27), ((rd_T64 l0_0 a1).f0.f1)⟩ : S50)); (case aB => exact (zl HB.out)); (case aF => exact (fun k_ hk => ⟨(.inr (Nat.le_trans (by first | exact HK.out.1 | exact (show Kept w _ (fun k_ => P2_ k_) from by repeat (first | (with_reducible first | exact HK.out | apply Kept.alloc | apply Kept.drewN | apply Kept.drew | refine Kept.setCell ?_ (.inr GW122.out) _ | refine Kept.setCell ?_ (.inr GW126.out) _) | exact HK.out)).1) hk)), Kd.fresh' (yB (zr HO_11.out)) k_ hk, Kd.fresh' (yB (zr HO_15.out)) k_ hk⟩)); (case aO => exact (zr HO147.out)); (case aS => exact (yG (zl HB.out))); (case aL => have := LMc59.out; omega); intro v149 w68 ho hb hg hat; rw [← Ny148.out] at ho; have n0_ := zK (Kd.R_over' (zr HO_2.out) (Kd.R_typed (zr HO147.out)) (by decide) hg); have n1_ := zK (Kd.R_after (ok := (fun k_ => (P2_ k_ ∨ w.heap.size ≤ k_) ∧ some k_ ≠ (v135 : Value).ownBlock)) (zr HO_11.out) hg hat); have n2_ := zK (Kd.R_after (ok := (fun k_ => (P2_ k_ ∨ w.heap.size ≤ k_) ∧ some k_ ≠ (.slice Ao66 t127.length co66 : Value).ownBlock)) (zr HO_15.out) hg hat); have n3_ := zK (blk_grown (g := gb122) (o := .cells #[.slice (some ad125) l0_0.length c0_0, .int .i64 a0_1, .slice A0_2 l0_2.length c0_2] 25 (0, 0)) (zb BK122.out) hg (Kd.R_ne HO147.out BK122.out (by decide))); have n4_ := zK (blk_grown (g := gb126) (o := .cells #[.int .i64 ((rd_T64 l0_0 a1).f0.f0.f0), .int .i64 ((rd_T64 l0_0 a1).f0.f0.f1), .int .i64 ((rd_T64 l0_0 a1).f0.f1), .int .i64 ((rd_T64 l0_0 a1).f1), .int .i64 ((rd_T64 l0_0 a1).f2), .int .i64 ((rd_T64 l0_0 a1).f3), .int .i64 ((rd_T64 l0_0 a1).f4)] 64 (0, 0)) (zb BK126.out) hg (Kd.R_ne HO147.out BK126.out (by decide))); have n5_ := zK (hb); have n6_ := zK (Kept.of_grown (S := (fun k_ => P2_ k_)) hg (by repeat (first | (with_reducible first | exact HK.out | apply Kept.alloc | apply Kept.drewN | apply Kept.drew | refine Kept.setCell ?_ (.inr GW122.out) _ | refine Kept.setCell ?_ (.inr GW126.out) _) | exact HK.out)) (fun k_ e_ => (HO147.out.1 k_ e_).1)); have n7_ := zK (ho); clear HO_2; clear HO_11; clear HO_15; clear BK122; clear BK126; clear HB; clear HK; clear HO147; have HO_2 := n0_; have HO_11 := n1_; have HO_15 := n2_; have BK122 := n3_; have BK126 := n4_; have HB := n5_; have HK := n6_; have HO150 := n7_; clear n0_ n1_ n2_ n3_ n4_ n5_ n6_ n7_; clear ho hb hg hat; obtain ⟨Ao70, co70, eo70⟩ := yE HO_15.out; subst eo70) | ((with_reducible refine gate_builtin (b := .append) (xs := #[.tmp 130, .tmp 131]) rfl ?_); (try (refine gate_guard (by rfl) ?_; dsimp only)); at_builtin; refine Kd.R_append_rows k50 (w0 := w0) w0.heap.size rfl (.tmp 130) (.tmp 131) 29 50 (.agg #[(.int .i64 0), (.int .i64 0), (.int .i64 0)]) 24 rfl Try.underlying29 info50 rfl (by decide) (by omega) v149 y148 t134 _ _ _ (fun k_ => (P2_ k_ ∨ w.heap.size ≤ k_) ∧ some k_ ≠ (.slice Ao66 t127.length co66 : Value).ownBlock ∧ some k_ ≠ (.slice Ao70 t134.length co70 : Value).ownBlock) (fun _ => False) rfl rfl ?aO ?aR (fun _ _ h => h) (fun _ h => h.elim) ?aF ?aB ?aS ?aL ?_; (case aR => exact zc (zX HO_15.out).2.2); (case aB => exact (zl HB.out)); (case aF => exact (fun k_ hk => ⟨(.inr (Nat.le_trans (by first | exact HK.out.1 | exact (show Kept w _ (fun k_ => P2_ k_) from by repeat (first | (with_reducible first | exact HK.out | apply Kept.alloc | apply Kept.drewN | apply Kept.drew | refine Kept.setCell ?_ (.inr GW122.out) _ | refine Kept.setCell ?_ (.inr GW126.out) _) | exact HK.out)).1) hk)), Kd.fresh' (yB (zr HO_11.out)) k_ hk, Kd.fresh' (yB (zr HO_15.out)) k_ hk⟩)); (case aO => exact (zr HO150.out)); (case aS => exact (yG (zl HB.out))); (case aL => have := LMc60.out; omega); intro v152 w69 ho hb hg hat; rw [← Ny151.out] at ho; have n0_ := zK (Kd.R_over' (zr HO_2.out) (Kd.R_typed (zr HO150.out)) (by decide) hg); have n1_ := zK (Kd.R_after (ok := (fun k_ => (P2_ k_ ∨ w.heap.size ≤ k_) ∧ some k_ ≠ (.slice Ao70 t134.length co70 : Value).ownBlock)) (zr HO_11.out) hg hat); have n2_ := zK (Kd.R_after (ok := (fun k_ => (P2_ k_ ∨ w.heap.size ≤ k_) ∧ some k_ ≠ (.slice Ao66 t127.length co66 : Value).ownBlock)) (zr HO_15.out) hg hat); have n3_ := zK (blk_grown (g := gb122) (o := .cells #[.slice (some ad125) l0_0.length c0_0, .int .i64 a0_1, .slice A0_2 l0_2.length c0_2] 25 (0, 0)) (zb BK122.out) hg (Kd.R_ne HO150.out BK122.out (by decide))); have n4_ := zK (blk_grown (g := gb126) (o := .cells #[.int .i64 ((rd_T64 l0_0 a1).f0.f0.f0), .int .i64 ((rd_T64 l0_0 a1).f0.f0.f1), .int .i64 ((rd_T64 l0_0 a1).f0.f1), .int .i64 ((rd_T64 l0_0 a1).f1), .int .i64 ((rd_T64 l0_0 a1).f2), .int .i64 ((rd_T64 l0_0 a1).f3), .int .i64 ((rd_T64 l0_0 a1).f4)] 64 (0, 0)) (zb BK126.out) hg (Kd.R_ne HO150.out BK126.out (by decide))); have n5_ := zK (hb); have n6_ := zK (Kept.of_grown (S := (fun k_ => P2_ k_)) hg (by repeat (first | (with_reducible first | exact HK.out | apply Kept.alloc | apply Kept.drewN | apply Kept.drew | refine Kept.setCell ?_ (.inr GW122.out) _ | refine Kept.setCell ?_ (.inr GW126.out) _) | exact HK.out)) (fun k_ e_ => (HO150.out.1 k_ e_).1)); have n7_ := zK (ho); clear HO_2; clear HO_11; clear HO_15; clear BK122; clear BK126; clear HB; clear HK; clear HO150; have HO_2 := n0_; have HO_11 := n1_; have HO_15 := n2_; have BK122 := n3_; have BK126 := n4_; have HB := n5_; have HK := n6_; have HO153 := n7_; clear n0_ n1_ n2_ n3_ n4_ n5_ n6_ n7_; clear ho hb hg hat))
                     refine bodyPost_ret (results_list (rs := [.tmp 6, .tmp 7, .tmp 8, .tmp 9]) rfl (by simp) (.tmp (.tmp (.tmp (.tmp .nil))))) rfl ?_
                     exact ⟨_, by first | rfl | (simp [errW_none, errW_some] <;> rfl) | (simp [*, errW_none, errW_some] <;> rfl), by (with_reducible repeat (first | apply zA | apply zB | apply zC)); exact Kd.R_mono HO153.out (fun _ hk => hk.1), (by first | exact (zr HO_2.out) | (simp only [hl2_21]; exact (zr HO_2.out))), by repeat (first | (with_reducible first | exact HB.out | apply zG | apply zH | apply zI | refine zL ?_ GE122.out | refine zL ?_ GE126.out) | exact HB.out), by repeat (first | (with_reducible first | exact HK.out | apply Kept.alloc | apply Kept.drewN | apply Kept.drew | refine Kept.setCell ?_ (.inr GW122.out) _ | refine Kept.setCell ?_ (.inr GW126.out) _) | exact HK.out)⟩
                    ·rw [if_neg c60] at H
                     exact absurd H (by simp)
                   ·rw [if_neg c59] at H
                    exact absurd H (by simp)
                  ·rw [if_neg c58] at H
                   exact absurd H (by simp)
                 ·rw [if_neg c57] at H
                  have c57b0 : (((rd_T64 l0_0 a1).f4) == ((rd_T64 l0_0 a1).f0.f0.f1)) = false := yK.mpr c57
                  have c57b1 : (((rd_T64 l0_0 a1).f4) != ((rd_T64 l0_0 a1).f0.f0.f1)) = true := yL.mpr c57
                  simp only [Option.some.injEq, Prod.mk.injEq] at H
                  obtain ⟨rfl, rfl, rfl, rfl, rfl⟩ := H
                  have hnb71 := NB126_122.out
                  have hnc71 := NB122_126.out
                  have hcz72_0 : wc.cell? ⟨gb126, 0, none⟩ = some (.int .i64 ((rd_T64 l0_0 a1).f0.f0.f0)) := (zQ BK126.out 0).trans rfl
                  have hcz72_1 : wc.cell? ⟨gb126, 1, none⟩ = some (.int .i64 ((rd_T64 l0_0 a1).f0.f0.f1)) := (zQ BK126.out 1).trans rfl
                  have hcz72_2 : wc.cell? ⟨gb126, 2, none⟩ = some (.int .i64 ((rd_T64 l0_0 a1).f0.f1)) := (zQ BK126.out 2).trans rfl
                  have hcz72_3 : wc.cell? ⟨gb126, 3, none⟩ = some (.int .i64 ((rd_T64 l0_0 a1).f1)) := (zQ BK126.out 3).trans rfl
                  have hcz72_4 : wc.cell? ⟨gb126, 4, none⟩ = some (.int .i64 ((rd_T64 l0_0 a1).f2)) := (zQ BK126.out 4).trans rfl
                  have hcz72_5 : wc.cell? ⟨gb126, 5, none⟩ = some (.int .i64 ((rd_T64 l0_0 a1).f3)) := (zQ BK126.out 5).trans rfl
                  have hcz72_6 : wc.cell? ⟨gb126, 6, none⟩ = some (.int .i64 ((rd_T64 l0_0 a1).f4)) := (zQ BK126.out 6).trans rfl
                  have hfz72_0 := zR BK126.out 0
                  have hfz72_1 := zR BK126.out 1
                  have hfz72_2 := zR BK126.out 2
                  have hfz72_3 := zR BK126.out 3
                  have hfz72_4 := zR BK126.out 4
                  have hfz72_5 := zR BK126.out 5
                  have hfz72_6 := zR BK126.out 6
                  go_wp2
                  refine bodyPost_ret (results_list (rs := [.tmp 6, .tmp 7, .tmp 8, .tmp 9]) rfl (by simp) (.tmp (.tmp (.tmp (.tmp .nil))))) rfl ?_
                  exact ⟨_, by first | rfl | (simp [errW_none, errW_some] <;> rfl) | (simp [*, errW_none, errW_some] <;> rfl), by first | exact Kd.R_nil _ _ _ _ _ | exact Kd.N_nil _ _ _ _ _ | exact Kd.V_nil _ _ _ _ _ | exact Kd.Q_nil _ _ _ _ _ | exact Kd.S_nil _ _ _ _ _, (by first | exact (zr HO_2.out) | (simp only [hl2_21]; exact (zr HO_2.out))), by repeat (first | (with_reducible first | exact HB.out | apply zG | apply zH | apply zI | refine zL ?_ GE122.out | refine zL ?_ GE126.out) | exact HB.out), by repeat (first | (with_reducible first | exact HK.out | apply Kept.alloc | apply Kept.drewN | apply Kept.drew | refine Kept.setCell ?_ (.inr GW122.out) _ | refine Kept.setCell ?_ (.inr GW126.out) _) | exact HK.out)⟩
                ·rw [if_neg c56] at H
                 have c56b0 : (((rd_T64 l0_0 a1).f3) == (wrap64 (x19_50 + 1))) = false := yK.mpr c56
                 have c56b1 : (((rd_T64 l0_0 a1).f3) != (wrap64 (x19_50 + 1))) = true := yL.mpr c56
                 simp only [Option.some.injEq, Prod.mk.injEq] at H
                 obtain ⟨rfl, rfl, rfl, rfl, rfl⟩ := H
                 have hnb73 := NB126_122.out
                 have hnc73 := NB122_126.out
                 have hcz74_0 : wc.cell? ⟨gb126, 0, none⟩ = some (.int .i64 ((rd_T64 l0_0 a1).f0.f0.f0)) := (zQ BK126.out 0).trans rfl
                 have hcz74_1 : wc.cell? ⟨gb126, 1, none⟩ = some (.int .i64 ((rd_T64 l0_0 a1).f0.f0.f1)) := (zQ BK126.out 1).trans rfl
                 have hcz74_2 : wc.cell? ⟨gb126, 2, none⟩ = some (.int .i64 ((rd_T64 l0_0 a1).f0.f1)) := (zQ BK126.out 2).trans rfl
                 have hcz74_3 : wc.cell? ⟨gb126, 3, none⟩ = some (.int .i64 ((rd_T64 l0_0 a1).f1)) := (zQ BK126.out 3).trans rfl
                 have hcz74_4 : wc.cell? ⟨gb126, 4, none⟩ = some (.int .i64 ((rd_T64 l0_0 a1).f2)) := (zQ BK126.out 4).trans rfl
                 have hcz74_5 : wc.cell? ⟨gb126, 5, none⟩ = some (.int .i64 ((rd_T64 l0_0 a1).f3)) := (zQ BK126.out 5).trans rfl
                 have hcz74_6 : wc.cell? ⟨gb126, 6, none⟩ = some (.int .i64 ((rd_T64 l0_0 a1).f4)) := (zQ BK126.out 6).trans rfl
                 have hfz74_0 := zR BK126.out 0
                 have hfz74_1 := zR BK126.out 1
                 have hfz74_2 := zR BK126.out 2
                 have hfz74_3 := zR BK126.out 3
                 have hfz74_4 := zR BK126.out 4
                 have hfz74_5 := zR BK126.out 5
                 have hfz74_6 := zR BK126.out 6
                 go_wp2
                 refine bodyPost_ret (results_list (rs := [.tmp 6, .tmp 7, .tmp 8, .tmp 9]) rfl (by simp) (.tmp (.tmp (.tmp (.tmp .nil))))) rfl ?_
                 exact ⟨_, by first | rfl | (simp [errW_none, errW_some] <;> rfl) | (simp [*, errW_none, errW_some] <;> rfl), by first | exact Kd.R_nil _ _ _ _ _ | exact Kd.N_nil _ _ _ _ _ | exact Kd.V_nil _ _ _ _ _ | exact Kd.Q_nil _ _ _ _ _ | exact Kd.S_nil _ _ _ _ _, (by first | exact (zr HO_2.out) | (simp only [hl2_21]; exact (zr HO_2.out))), by repeat (first | (with_reducible first | exact HB.out | apply zG | apply zH | apply zI | refine zL ?_ GE122.out | refine zL ?_ GE126.out) | exact HB.out), by repeat (first | (with_reducible first | exact HK.out | apply Kept.alloc | apply Kept.drewN | apply Kept.drew | refine Kept.setCell ?_ (.inr GW122.out) _ | refine Kept.setCell ?_ (.inr GW126.out) _) | exact HK.out)⟩
               ·rw [if_neg c55] at H
                have c55b0 : decide (x20_52 < ((rd_T64 l0_0 a1).f0.f0.f1)) = false := decide_eq_false c55
                clear c55
                by_cases c75 : ((rd_T64 l0_0 a1).f3) = (wrap64 (x19_50 + 1))
                ·rw [if_pos c75] at H
                 have c75b0 : (((rd_T64 l0_0 a1).f3) == (wrap64 (x19_50 + 1))) = true := yI.mpr c75
                 have c75b1 : (((rd_T64 l0_0 a1).f3) != (wrap64 (x19_50 + 1))) = false := yJ.mpr c75
                 clear c75
                 by_cases c76 : ((rd_T64 l0_0 a1).f4) = x20_52
                 ·rw [if_pos c76] at H
                  have c76b0 : (((rd_T64 l0_0 a1).f4) == x20_52) = true := yI.mpr c76
                  have c76b1 : (((rd_T64 l0_0 a1).f4) != x20_52) = false := yJ.mpr c76
                  clear c76
                  obtain ⟨y154, hy154⟩ : ∃ y_ : List (S50), y_ = (([] : List (S50))) := ⟨_, rfl⟩
                  replace H : (if y154.length + t127.length < 5864062014805 then ((some (y154 ++ t127 : List (S50))).bind fun y157 => (if y157.length < 5864062014805 then ((some (y157 ++ [(⟨(⟨((rd_T64 l0_0 a1).f0.f0.f0), ((rd_T64 l0_0 a1).f0.f0.f1)⟩ : S27), ((rd_T64 l0_0 a1).f0.f1)⟩ : S50)] : List (S50))).bind fun y160 => (if y160.length + t134.length < 5864062014805 then (some ((y160 ++ t134), wrap64 (x19_50 + 1), x20_52, true, t140)) else (none))) else (none))) else (none)) = some (r1, r2, r3, r4, r5) := by first | (rw [hy154]; with_reducible exact H) | (have H2_ := (Option.bind_some _ _).symm.trans H; rw [hy154]; with_reducible exact H2_) | (have H2_ := (Option.bind_some _ _).symm.trans H; with_reducible exact H2_) | with_reducible exact H | (rw [hy154]; exact H) | exact H
                  have Ny154 := zK hy154
                  clear hy154
                  by_cases c77 : y154.length + t127.length < 5864062014805
                  ·rw [if_pos c77] at H
                   have LMc77 := zK c77
                   clear c77
                   obtain ⟨y157, hy157⟩ : ∃ y_ : List (S50), y_ = (y154 ++ t127) := ⟨_, rfl⟩
                   replace H : (if y157.length < 5864062014805 then ((some (y157 ++ [(⟨(⟨((rd_T64 l0_0 a1).f0.f0.f0), ((rd_T64 l0_0 a1).f0.f0.f1)⟩ : S27), ((rd_T64 l0_0 a1).f0.f1)⟩ : S50)] : List (S50))).bind fun y160 => (if y160.length + t134.length < 5864062014805 then (some ((y160 ++ t134), wrap64 (x19_50 + 1), x20_52, true, t140)) else (none))) else (none)) = some (r1, r2, r3, r4, r5) := by first | (rw [hy157]; with_reducible exact H) | (have H2_ := (Option.bind_some _ _).symm.trans H; rw [hy157]; with_reducible exact H2_) | (have H2_ := (Option.bind_some _ _).symm.trans H; with_reducible exact H2_) | with_reducible exact H | (rw [hy157]; exact H) | exact H
                   have Ny157 := zK hy157
                   clear hy157
                   by_cases c78 : y157.length < 5864062014805
                   ·rw [if_pos c78] at H
                    have LMc78 := zK c78
                    clear c78
                    obtain ⟨y160, hy160⟩ : ∃ y_ : List (S50), y_ = (y157 ++ [(⟨(⟨((rd_T64 l0_0 a1).f0.f0.f0), ((rd_T64 l0_0 a1).f0.f0.f1)⟩ : S27), ((rd_T64 l0_0 a1).f0.f1)⟩ : S50)]) := ⟨_, rfl⟩
                    replace H : (if y160.length + t134.length < 5864062014805 then (some ((y160 ++ t134), wrap64 (x19_50 + 1), x20_52, true, t140)) else (none)) = some (r1, r2, r3, r4, r5) := by first | (rw [hy160]; with_reducible exact H) | (have H2_ := (Option.bind_some _ _).symm.trans H; rw [hy160]; with_reducible exact H2_) | (have H2_ := (Option.bind_some _ _).symm.trans H; with_reducible exact H2_) | with_reducible exact H | (rw [hy160]; exact H) | exact H
                    have Ny160 := zK hy160
                    clear hy160
                    by_cases c79 : y160.length + t134.length < 5864062014805
                    ·rw [if_pos c79] at H
                     have LMc79 := zK c79
                     clear c79
                     obtain ⟨y163, hy163⟩ : ∃ y_ : List (S50), y_ = (y160 ++ t134) := ⟨_, rfl⟩
                     replace H : (some (y163, wrap64 (x19_50 + 1), x20_52, true, t140)) = some (r1, r2, r3, r4, r5) := by first | (rw [hy163]; with_reducible exact H) | (have H2_ := (Option.bind_some _ _).symm.trans H; rw [hy163]; with_reducible exact H2_) | (have H2_ := (Option.bind_some _ _).symm.trans H; with_reducible exact H2_) | with_reducible exact H | (rw [hy163]; exact H) | exact H
                     have Ny163 := zK hy163
                     clear hy163
                     simp only [Option.some.injEq, Prod.mk.injEq] at H
                     obtain ⟨rfl, rfl, rfl, rfl, rfl⟩ := H
                     have hnb80 := NB126_122.out
                     have hnc80 := NB122_126.out
                     have hcz81_0 : wc.cell? ⟨gb126, 0, none⟩ = some (.int .i64 ((rd_T64 l0_0 a1).f0.f0.f0)) := (zQ BK126.out 0).trans rfl
                     have hcz81_1 : wc.cell? ⟨gb126, 1, none⟩ = some (.int .i64 ((rd_T64 l0_0 a1).f0.f0.f1)) := (zQ BK126.out 1).trans rfl
                     have hcz81_2 : wc.cell? ⟨gb126, 2, none⟩ = some (.int .i64 ((rd_T64 l0_0 a1).f0.f1)) := (zQ BK126.out 2).trans rfl
                     have hcz81_3 : wc.cell? ⟨gb126, 3, none⟩ = some (.int .i64 ((rd_T64 l0_0 a1).f1)) := (zQ BK126.out 3).trans rfl
                     have hcz81_4 : wc.cell? ⟨gb126, 4, none⟩ = some (.int .i64 ((rd_T64 l0_0 a1).f2)) := (zQ BK126.out 4).trans rfl
                     have hcz81_5 : wc.cell? ⟨gb126, 5, none⟩ = some (.int .i64 ((rd_T64 l0_0 a1).f3)) := (zQ BK126.out 5).trans rfl
                     have hcz81_6 : wc.cell? ⟨gb126, 6, none⟩ = some (.int .i64 ((rd_T64 l0_0 a1).f4)) := (zQ BK126.out 6).trans rfl
                     have hfz81_0 := zR BK126.out 0
                     have hfz81_1 := zR BK126.out 1
                     have hfz81_2 := zR BK126.out 2
                     have hfz81_3 := zR BK126.out 3
                     have hfz81_4 := zR BK126.out 4
                     have hfz81_5 := zR BK126.out 5
                     have hfz81_6 := zR BK126.out 6
                     go_wp2_with (first | ((with_reducible refine gate_dst (N := 122) rfl ?_); (try (refine gate_guard (by rfl) ?_; dsimp only)); refine Kd.R_lit k50 _ 50 ?hg (N := 122) ?hd (xs := ([] : List (S50))) (inner := []) (ok := fun _ => True) (okp := fun _ => True) ?hr ?hp (fun _ hk => hk) trivial (Below.refl _ _) (Nat.le_refl _) (by simp) ?_; (case hd => rfl); (case hg => rfl); (case hr => first | (go_simp; done) | (go_simp; rfl)); (case hp => exact (Reps.none _ _)); intro v155 w82 ho83 hb hg_ hnew_; clear hg_ hnew_; (first | rw [← Ny154.out] at ho83 | (simp only [Int.reduceToNat] at ho83; rw [← Ny154.out] at ho83)); have n0_ := zK (zO (zr HO_2.out) hb); have n1_ := zK (yC (zr HO_11.out) (Kd.R_base ho83) hb); have n2_ := zK (yC (zr HO_15.out) (Kd.R_base ho83) hb); have n3_ := zK (zV (zW (zW (Kd.R_newM (M := fun k_ => (P2_ k_ ∨ w.heap.size ≤ k_)) ho83 (by first | exact HK.out.1 | exact (show Kept w _ (fun k_ => P2_ k_) from by repeat (first | (with_reducible first | exact HK.out | apply Kept.alloc | apply Kept.drewN | apply Kept.drew | refine Kept.setCell ?_ (.inr GW122.out) _ | refine Kept.setCell ?_ (.inr GW126.out) _) | exact HK.out)).1) (fun k_ h_ => .inr h_)) (yB (zr HO_11.out))) (yB (zr HO_15.out))) (yG (zl HB.out))); have n4_ := zK (zP (g := gb122) (o := .cells #[.slice (some ad125) l0_0.length c0_0, .int .i64 a0_1, .slice A0_2 l0_2.length c0_2] 25 (0, 0)) (zb BK122.out) hb); have n5_ := zK (zP (g := gb126) (o := .cells #[.int .i64 ((rd_T64 l0_0 a1).f0.f0.f0), .int .i64 ((rd_T64 l0_0 a1).f0.f0.f1), .int .i64 ((rd_T64 l0_0 a1).f0.f1), .int .i64 ((rd_T64 l0_0 a1).f1), .int .i64 ((rd_T64 l0_0 a1).f2), .int .i64 ((rd_T64 l0_0 a1).f3), .int .i64 ((rd_T64 l0_0 a1).f4)] 64 (0, 0)) (zb BK126.out) hb); have n6_ := zK (Kept.below (S := (fun k_ => P2_ k_)) (by repeat (first | (with_reducible first | exact HK.out | apply Kept.alloc | apply Kept.drewN | apply Kept.drew | refine Kept.setCell ?_ (.inr GW122.out) _ | refine Kept.setCell ?_ (.inr GW126.out) _) | exact HK.out)) hb); have n7_ := zK (yF (zl HB.out) hb); clear HO_2; clear HO_11; clear HO_15; clear BK122; clear BK126; clear HK; clear HB; have HO_2 := n0_; have HO_11 := n1_; have HO_15 := n2_; have HO156 := n3_; have BK122 := n4_; have BK126 := n5_; have HK := n6_; have HB := n7_; clear n0_ n1_ n2_ n3_ n4_ n5_ n6_ n7_; clear hb ho83; obtain ⟨Ao85, co85, eo85⟩ := yE HO_11.out; subst eo85) | ((with_reducible refine gate_builtin (b := .append) (xs := #[.tmp 122, .tmp 123]) rfl ?_); (try (refine gate_guard (by rfl) ?_; dsimp only)); at_builtin; refine Kd.R_append_rows k50 (w0 := w0) w0.heap.size rfl (.tmp 122) (.tmp 123) 29 50 (.agg #[(.int .i64 0), (.int .i64 0), (.int .i64 0)]) 24 rfl Try.underlying29 info50 rfl (by decide) (by omega) v155 y154 t127 _ _ _ (fun k_ => (P2_ k_ ∨ w.heap.size ≤ k_) ∧ some k_ ≠ (.slice Ao85 t127.length co85 : Value).ownBlock ∧ some k_ ≠ (v135 : Value).ownBlock) (fun _ => False) rfl rfl ?aO ?aR (fun _ _ h => h) (fun _ h => h.elim) ?aF ?aB ?aS ?aL ?_; (case aR => exact zc (zX HO_11.out).2.2); (case aB => exact (zl HB.out)); (case aF => exact (fun k_ hk => ⟨(.inr (Nat.le_trans (by first | exact HK.out.1 | exact (show Kept w _ (fun k_ => P2_ k_) from by repeat (first | (with_reducible first | exact HK.out | apply Kept.alloc | apply Kept.drewN | apply Kept.drew | refine Kept.setCell ?_ (.inr GW122.out) _ | refine Kept.setCell ?_ (.inr GW126.out) _) | exact HK.out)).1) hk)), Kd.fresh' (yB (zr HO_11.out)) k_ hk, Kd.fresh' (yB (zr HO_15.out)) k_ hk⟩)); (case aO => exact (by (with_reducible repeat (first | apply zA | apply zB | apply zC)); exact Kd.R_mono HO156.out (fun _ hk => ⟨hk.1.1.1, ⟨hk.1.2, hk.2⟩⟩))); (case aS => exact (yG (zl HB.out))); (case aL => have := LMc77.out; omega); intro v158 w84 ho hb hg hat; rw [← Ny157.out] at ho; have n0_ := zK (Kd.R_over' (zr HO_2.out) (Kd.R_typed (zr HO156.out)) (by decide) hg); have n1_ := zK (Kd.R_after (ok := (fun k_ => (P2_ k_ ∨ w.heap.size ≤ k_) ∧ some k_ ≠ (v135 : Value).ownBlock)) (zr HO_11.out) hg hat); have n2_ := zK (Kd.R_after (ok := (fun k_ => (P2_ k_ ∨ w.heap.size ≤ k_) ∧ some k_ ≠ (.slice Ao85 t127.length co85 : Value).ownBlock)) (zr HO_15.out) hg hat); have n3_ := zK (blk_grown (g := gb122) (o := .cells #[.slice (some ad125) l0_0.length c0_0, .int .i64 a0_1, .slice A0_2 l0_2.length c0_2] 25 (0, 0)) (zb BK122.out) hg (Kd.R_ne HO156.out BK122.out (by decide))); have n4_ := zK (blk_grown (g := gb126) (o := .cells #[.int .i64 ((rd_T64 l0_0 a1).f0.f0.f0), .int .i64 ((rd_T64 l0_0 a1).f0.f0.f1), .int .i64 ((rd_T64 l0_0 a1).f0.f1), .int .i64 ((rd_T64 l0_0 a1).f1), .int .i64 ((rd_T64 l0_0 a1).f2), .int .i64 ((rd_T64 l0_0 a1).f3), .int .i64 ((rd_T64 l0_0 a1).f4)] 64 (0, 0)) (zb BK126.out) hg (Kd.R_ne HO156.out BK126.out (by decide))); have n5_ := zK (hb); have n6_ := zK (Kept.of_grown (S := (fun k_ => P2_ k_)) hg (by repeat (first | (with_reducible first | exact HK.out | apply Kept.alloc | apply Kept.drewN | apply Kept.drew | refine Kept.setCell ?_ (.inr GW122.out) _ | refine Kept.setCell ?_ (.inr GW126.out) _) | exact HK.out)) (fun k_ e_ => (HO156.out.1 k_ e_).1.1.1)); have n7_ := zK (ho); clear HO_2; clear HO_11; clear HO_15; clear BK122; clear BK126; clear HB; clear HK; clear HO156; have HO_2 := n0_; have HO_11 := n1_; have HO_15 := n2_; have BK122 := n3_; have BK126 := n4_; have HB := n5_; have HK := n6_; have HO159 := n7_; clear n0_ n1_ n2_ n3_ n4_ n5_ n6_ n7_; clear ho hb hg hat; have hcz86_0 : w84.cell? ⟨gb126, 0, none⟩ = some (.int .i64 ((rd_T64 l0_0 a1).f0.f0.f0)) := (zQ BK126.out 0).trans rfl; have hcz86_1 : w84.cell? ⟨gb126, 1, none⟩ = some (.int .i64 ((rd_T64 l0_0 a1).f0.f0.f1)) := (zQ BK126.out 1).trans rfl; have hcz86_2 : w84.cell? ⟨gb126, 2, none⟩ = some (.int .i64 ((rd_T64 l0_0 a1).f0.f1)) := (zQ BK126.out 2).trans rfl; have hcz86_3 : w84.cell? ⟨gb126, 3, none⟩ = some (.int .i64 ((rd_T64 l0_0 a1).f1)) := (zQ BK126.out 3).trans rfl; have hcz86_4 : w84.cell? ⟨gb126, 4, none⟩ = some (.int .i64 ((rd_T64 l0_0 a1).f2)) := (zQ BK126.out 4).trans rfl; have hcz86_5 : w84.cell? ⟨gb126, 5, none⟩ = some (.int .i64 ((rd_T64 l0_0 a1).f3)) := (zQ BK126.out 5).trans rfl; have hcz86_6 : w84.cell? ⟨gb126, 6, none⟩ = some (.int .i64 ((rd_T64 l0_0 a1).f4)) := (zQ BK126.out 6).trans rfl; have hfz86_0 := zR BK126.out 0; have hfz86_1 := zR BK126.out 1; have hfz86_2 := zR BK126.out 2; have hfz86_3 := zR BK126.out 3; have hfz86_4 := zR BK126.out 4; have hfz86_5 := zR BK126.out 5; have hfz86_6 := zR BK126.out 6) | ((with_reducible refine gate_builtin (b := .append) (xs := #[.tmp 125, .tmp 128]) rfl ?_); (try (refine gate_guard (by rfl) ?_; dsimp only)); at_builtin; refine Kd.R_append k50 (w0 := w0) w0.heap.size rfl (.tmp 125) (.tmp 128) 29 50 (.agg #[(.int .i64 0), (.int .i64 0), (.int .i64 0)]) 24 rfl Try.underlying29 info50 rfl (by decide) (by omega) v158 y157 (⟨(⟨((rd_T64 l0_0 a1).f0.f0.f0), ((rd_T64 l0_0 a1).f0.f0.f1)⟩ : S27), ((rd_T64 l0_0 a1).f0.f1)⟩ : S50) [.int .i64 ((rd_T64 l0_0 a1).f0.f0.f0), .int .i64 ((rd_T64 l0_0 a1).f0.f0.f1), .int .i64 ((rd_T64 l0_0 a1).f0.f1)] (fun k_ => (P2_ k_ ∨ w.heap.size ≤ k_) ∧ some k_ ≠ (.slice Ao85 t127.length co85 : Value).ownBlock ∧ some k_ ≠ (v135 : Value).ownBlock) (fun _ => False) rfl rfl ?aP (fun _ hk => hk.elim) ?aF ?aO ?aB ?aS ?aL ?_; (case aP => exact k50_mkM _ _ _ (⟨(⟨((rd_T64 l0_0 a1).f0.f0.f0), ((rd_T64 l0_0 a1).f0.f0.f1)⟩ : S27), ((rd_T64 l0_0 a1).f0.f1)⟩ : S50)); (case aB => exact (zl HB.out)); (case aF => exact (fun k_ hk => ⟨(.inr (Nat.le_trans (by first | exact HK.out.1 | exact (show Kept w _ (fun k_ => P2_ k_) from by repeat (first | (with_reducible first | exact HK.out | apply Kept.alloc | apply Kept.drewN | apply Kept.drew | refine Kept.setCell ?_ (.inr GW122.out) _ | refine Kept.setCell ?_ (.inr GW126.out) _) | exact HK.out)).1) hk)), Kd.fresh' (yB (zr HO_11.out)) k_ hk, Kd.fresh' (yB (zr HO_15.out)) k_ hk⟩)); (case aO => exact (zr HO159.out)); (case aS => exact (yG (zl HB.out))); (case aL => have := LMc78.out; omega); intro v161 w87 ho hb hg hat; rw [← Ny160.out] at ho; have n0_ := zK (Kd.R_over' (zr HO_2.out) (Kd.R_typed (zr HO159.out)) (by decide) hg); have n1_ := zK (Kd.R_after (ok := (fun k_ => (P2_ k_ ∨ w.heap.size ≤ k_) ∧ some k_ ≠ (v135 : Value).ownBlock)) (zr HO_11.out) hg hat); have n2_ := zK (Kd.R_after (ok := (fun k_ => (P2_ k_ ∨ w.heap.size ≤ k_) ∧ some k_ ≠ (.slice Ao85 t127.length co85 : Value).ownBlock)) (zr HO_15.out) hg hat); have n3_ := zK (blk_grown (g := gb122) (o := .cells #[.slice (some ad125) l0_0.length c0_0, .int .i64 a0_1, .slice A0_2 l0_2.length c0_2] 25 (0, 0)) (zb BK122.out) hg (Kd.R_ne HO159.out BK122.out (by decide))); have n4_ := zK (blk_grown (g := gb126) (o := .cells #[.int .i64 ((rd_T64 l0_0 a1).f0.f0.f0), .int .i64 ((rd_T64 l0_0 a1).f0.f0.f1), .int .i64 ((rd_T64 l0_0 a1).f0.f1), .int .i64 ((rd_T64 l0_0 a1).f1), .int .i64 ((rd_T64 l0_0 a1).f2), .int .i64 ((rd_T64 l0_0 a1).f3), .int .i64 ((rd_T64 l0_0 a1).f4)] 64 (0, 0)) (zb BK126.out) hg (Kd.R_ne HO159.out BK126.out (by decide))); have n5_ := zK (hb); have n6_ := zK (Kept.of_grown (S := (fun k_ => P2_ k_)) hg (by repeat (first | (with_reducible first | exact HK.out | apply Kept.alloc | apply Kept.drewN | apply Kept.drew | refine Kept.setCell ?_ (.inr GW122.out) _ | refine Kept.setCell ?_ (.inr GW126.out) _) | exact HK.out)) (fun k_ e_ => (HO159.out.1 k_ e_).1)); have n7_ := zK (ho); clear HO_2; clear HO_11; clear HO_15; clear BK122; clear BK126; clear HB; clear HK; clear HO159; have HO_2 := n0_; have HO_11 := n1_; have HO_15 := n2_; have BK122 := n3_; have BK126 := n4_; have HB := n5_; have HK := n6_; have HO162 := n7_; clear n0_ n1_ n2_ n3_ n4_ n5_ n6_ n7_; clear ho hb hg hat; obtain ⟨Ao89, co89, eo89⟩ := yE HO_15.out; subst eo89) | ((with_reducible refine gate_builtin (b := .append) (xs := #[.tmp 130, .tmp 131]) rfl ?_); (try (refine gate_guard (by rfl) ?_; dsimp only)); at_builtin; refine Kd.R_append_rows k50 (w0 := w0) w0.heap.size rfl (.tmp 130) (.tmp 131) 29 50 (.agg #[(.int .i64 0), (.int .i64 0), (.int .i64 0)]) 24 rfl Try.underlying29 info50 rfl (by decide) (by omega) v161 y160 t134 _ _ _ (fun k_ => (P2_ k_ ∨ w.heap.size ≤ k_) ∧ some k_ ≠ (.slice Ao85 t127.length co85 : Value).ownBlock ∧ some k_ ≠ (.slice Ao89 t134.length co89 : Value).ownBlock) (fun _ => False) rfl rfl ?aO ?aR (fun _ _ h => h) (fun _ h => h.elim) ?aF ?aB ?aS ?aL ?_; (case aR => exact zc (zX HO_15.out).2.2); (case aB => exact (zl HB.out)); (case aF => exact (fun k_ hk => ⟨(.inr (Nat.le_trans (by first | exact HK.out.1 | exact (show Kept w _ (fun k_ => P2_ k_) from by repeat (first | (with_reducible first | exact HK.out | apply Kept.alloc | apply Kept.drewN | apply Kept.drew | refine Kept.setCell ?_ (.inr GW122.out) _ | refine Kept.setCell ?_ (.inr GW126.out) _) | exact HK.out)).1) hk)), Kd.fresh' (yB (zr HO_11.out)) k_ hk, Kd.fresh' (yB (zr HO_15.out)) k_ hk⟩)); (case aO => exact (zr HO162.out)); (case aS => exact (yG (zl HB.out))); (case aL => have := LMc79.out; omega); intro v164 w88 ho hb hg hat; rw [← Ny163.out] at ho; have n0_ := zK (Kd.R_over' (zr HO_2.out) (Kd.R_typed (zr HO162.out)) (by decide) hg); have n1_ := zK (Kd.R_after (ok := (fun k_ => (P2_ k_ ∨ w.heap.size ≤ k_) ∧ some k_ ≠ (.slice Ao89 t134.length co89 : Value).ownBlock)) (zr HO_11.out) hg hat); have n2_ := zK (Kd.R_after (ok := (fun k_ => (P2_ k_ ∨ w.heap.size ≤ k_) ∧ some k_ ≠ (.slice Ao85 t127.length co85 : Value).ownBlock)) (zr HO_15.out) hg hat); have n3_ := zK (blk_grown (g := gb122) (o := .cells #[.slice (some ad125) l0_0.length c0_0, .int .i64 a0_1, .slice A0_2 l0_2.length c0_2] 25 (0, 0)) (zb BK122.out) hg (Kd.R_ne HO162.out BK122.out (by decide))); have n4_ := zK (blk_grown (g := gb126) (o := .cells #[.int .i64 ((rd_T64 l0_0 a1).f0.f0.f0), .int .i64 ((rd_T64 l0_0 a1).f0.f0.f1), .int .i64 ((rd_T64 l0_0 a1).f0.f1), .int .i64 ((rd_T64 l0_0 a1).f1), .int .i64 ((rd_T64 l0_0 a1).f2), .int .i64 ((rd_T64 l0_0 a1).f3), .int .i64 ((rd_T64 l0_0 a1).f4)] 64 (0, 0)) (zb BK126.out) hg (Kd.R_ne HO162.out BK126.out (by decide))); have n5_ := zK (hb); have n6_ := zK (Kept.of_grown (S := (fun k_ => P2_ k_)) hg (by repeat (first | (with_reducible first | exact HK.out | apply Kept.alloc | apply Kept.drewN | apply Kept.drew | refine Kept.setCell ?_ (.inr GW122.out) _ | refine Kept.setCell ?_ (.inr GW126.out) _) | exact HK.out)) (fun k_ e_ => (HO162.out.1 k_ e_).1)); have n7_ := zK (ho); clear HO_2; clear HO_11; clear HO_15; clear BK122; clear BK126; clear HB; clear HK; clear HO162; have HO_2 := n0_; have HO_11 := n1_; have HO_15 := n2_; have BK122 := n3_; have BK126 := n4_; have HB := n5_; have HK := n6_; have HO165 := n7_; clear n0_ n1_ n2_ n3_ n4_ n5_ n6_ n7_; clear ho hb hg hat))
                     refine bodyPost_ret (results_list (rs := [.tmp 6, .tmp 7, .tmp 8, .tmp 9]) rfl (by simp) (.tmp (.tmp (.tmp (.tmp .nil))))) rfl ?_
                     exact ⟨_, by first | rfl | (simp [errW_none, errW_some] <;> rfl) | (simp [*, errW_none, errW_some] <;> rfl), by (with_reducible repeat (first | apply zA | apply zB | apply zC)); exact Kd.R_mono HO165.out (fun _ hk => hk.1), (by first | exact (zr HO_2.out) | (simp only [hl2_21]; exact (zr HO_2.out))), by repeat (first | (with_reducible first | exact HB.out | apply zG | apply zH | apply zI | refine zL ?_ GE122.out | refine zL ?_ GE126.out) | exact HB.out), by repeat (first | (with_reducible first | exact HK.out | apply Kept.alloc | apply Kept.drewN | apply Kept.drew | refine Kept.setCell ?_ (.inr GW122.out) _ | refine Kept.setCell ?_ (.inr GW126.out) _) | exact HK.out)⟩
                    ·rw [if_neg c79] at H
                     exact absurd H (by simp)
                   ·rw [if_neg c78] at H
                    exact absurd H (by simp)
                  ·rw [if_neg c77] at H
                   exact absurd H (by simp)
                 ·rw [if_neg c76] at H
                  have c76b0 : (((rd_T64 l0_0 a1).f4) == x20_52) = false := yK.mpr c76
                  have c76b1 : (((rd_T64 l0_0 a1).f4) != x20_52) = true := yL.mpr c76
                  simp only [Option.some.injEq, Prod.mk.injEq] at H
                  obtain ⟨rfl, rfl, rfl, rfl, rfl⟩ := H
                  have hnb90 := NB126_122.out
                  have hnc90 := NB122_126.out
                  have hcz91_0 : wc.cell? ⟨gb126, 0, none⟩ = some (.int .i64 ((rd_T64 l0_0 a1).f0.f0.f0)) := (zQ BK126.out 0).trans rfl
                  have hcz91_1 : wc.cell? ⟨gb126, 1, none⟩ = some (.int .i64 ((rd_T64 l0_0 a1).f0.f0.f1)) := (zQ BK126.out 1).trans rfl
                  have hcz91_2 : wc.cell? ⟨gb126, 2, none⟩ = some (.int .i64 ((rd_T64 l0_0 a1).f0.f1)) := (zQ BK126.out 2).trans rfl
                  have hcz91_3 : wc.cell? ⟨gb126, 3, none⟩ = some (.int .i64 ((rd_T64 l0_0 a1).f1)) := (zQ BK126.out 3).trans rfl
                  have hcz91_4 : wc.cell? ⟨gb126, 4, none⟩ = some (.int .i64 ((rd_T64 l0_0 a1).f2)) := (zQ BK126.out 4).trans rfl
                  have hcz91_5 : wc.cell? ⟨gb126, 5, none⟩ = some (.int .i64 ((rd_T64 l0_0 a1).f3)) := (zQ BK126.out 5).trans rfl
                  have hcz91_6 : wc.cell? ⟨gb126, 6, none⟩ = some (.int .i64 ((rd_T64 l0_0 a1).f4)) := (zQ BK126.out 6).trans rfl
                  have hfz91_0 := zR BK126.out 0
                  have hfz91_1 := zR BK126.out 1
                  have hfz91_2 := zR BK126.out 2
                  have hfz91_3 := zR BK126.out 3
                  have hfz91_4 := zR BK126.out 4
                  have hfz91_5 := zR BK126.out 5
                  have hfz91_6 := zR BK126.out 6
                  go_wp2
                  refine bodyPost_ret (results_list (rs := [.tmp 6, .tmp 7, .tmp 8, .tmp 9]) rfl (by simp) (.tmp (.tmp (.tmp (.tmp .nil))))) rfl ?_
                  exact ⟨_, by first | rfl | (simp [errW_none, errW_some] <;> rfl) | (simp [*, errW_none, errW_some] <;> rfl), by first | exact Kd.R_nil _ _ _ _ _ | exact Kd.N_nil _ _ _ _ _ | exact Kd.V_nil _ _ _ _ _ | exact Kd.Q_nil _ _ _ _ _ | exact Kd.S_nil _ _ _ _ _, (by first | exact (zr HO_2.out) | (simp only [hl2_21]; exact (zr HO_2.out))), by repeat (first | (with_reducible first | exact HB.out | apply zG | apply zH | apply zI | refine zL ?_ GE122.out | refine zL ?_ GE126.out) | exact HB.out), by repeat (first | (with_reducible first | exact HK.out | apply Kept.alloc | apply Kept.drewN | apply Kept.drew | refine Kept.setCell ?_ (.inr GW122.out) _ | refine Kept.setCell ?_ (.inr GW126.out) _) | exact HK.out)⟩
                ·rw [if_neg c75] at H
                 have c75b0 : (((rd_T64 l0_0 a1).f3) == (wrap64 (x19_50 + 1))) = false := yK.mpr c75
                 have c75b1 : (((rd_T64 l0_0 a1).f3) != (wrap64 (x19_50 + 1))) = true := yL.mpr c75
                 simp only [Option.some.injEq, Prod.mk.injEq] at H
                 obtain ⟨rfl, rfl, rfl, rfl, rfl⟩ := H
                 have hnb92 := NB126_122.out
                 have hnc92 := NB122_126.out
                 have hcz93_0 : wc.cell? ⟨gb126, 0, none⟩ = some (.int .i64 ((rd_T64 l0_0 a1).f0.f0.f0)) := (zQ BK126.out 0).trans rfl
                 have hcz93_1 : wc.cell? ⟨gb126, 1, none⟩ = some (.int .i64 ((rd_T64 l0_0 a1).f0.f0.f1)) := (zQ BK126.out 1).trans rfl
                 have hcz93_2 : wc.cell? ⟨gb126, 2, none⟩ = some (.int .i64 ((rd_T64 l0_0 a1).f0.f1)) := (zQ BK126.out 2).trans rfl
                 have hcz93_3 : wc.cell? ⟨gb126, 3, none⟩ = some (.int .i64 ((rd_T64 l0_0 a1).f1)) := (zQ BK126.out 3).trans rfl
                 have hcz93_4 : wc.cell? ⟨gb126, 4, none⟩ = some (.int .i64 ((rd_T64 l0_0 a1).f2)) := (zQ BK126.out 4).trans rfl
                 have hcz93_5 : wc.cell? ⟨gb126, 5, none⟩ = some (.int .i64 ((rd_T64 l0_0 a1).f3)) := (zQ BK126.out 5).trans rfl
                 have hcz93_6 : wc.cell? ⟨gb126, 6, none⟩ = some (.int .i64 ((rd_T64 l0_0 a1).f4)) := (zQ BK126.out 6).trans rfl
                 have hfz93_0 := zR BK126.out 0
                 have hfz93_1 := zR BK126.out 1
                 have hfz93_2 := zR BK126.out 2
                 have hfz93_3 := zR BK126.out 3
                 have hfz93_4 := zR BK126.out 4
                 have hfz93_5 := zR BK126.out 5
                 have hfz93_6 := zR BK126.out 6
                 go_wp2
                 refine bodyPost_ret (results_list (rs := [.tmp 6, .tmp 7, .tmp 8, .tmp 9]) rfl (by simp) (.tmp (.tmp (.tmp (.tmp .nil))))) rfl ?_
                 exact ⟨_, by first | rfl | (simp [errW_none, errW_some] <;> rfl) | (simp [*, errW_none, errW_some] <;> rfl), by first | exact Kd.R_nil _ _ _ _ _ | exact Kd.N_nil _ _ _ _ _ | exact Kd.V_nil _ _ _ _ _ | exact Kd.Q_nil _ _ _ _ _ | exact Kd.S_nil _ _ _ _ _, (by first | exact (zr HO_2.out) | (simp only [hl2_21]; exact (zr HO_2.out))), by repeat (first | (with_reducible first | exact HB.out | apply zG | apply zH | apply zI | refine zL ?_ GE122.out | refine zL ?_ GE126.out) | exact HB.out), by repeat (first | (with_reducible first | exact HK.out | apply Kept.alloc | apply Kept.drewN | apply Kept.drew | refine Kept.setCell ?_ (.inr GW122.out) _ | refine Kept.setCell ?_ (.inr GW126.out) _) | exact HK.out)⟩
       ·rw [if_neg c19] at H
        exact absurd H (by simp)
      ·rw [if_neg c17] at H
       exact absurd H (by simp)
     ·rw [if_neg c16] at H
      exact absurd H (by simp)
end Go.Proofs.Ytgkjpffbgnljeaa.QA
-- written by this session's program mprint.py: functions of the Go program, and their contracts
namespace Go.Proofs.Ytgkjpffbgnljeaa.QA
open Go.RowKit Go.Proofs.Ytgkjpffbgnljeaa.Au Go.Proofs.Ytgkjpffbgnljeaa.QT  Go.Proofs.YtgkjpffbgnljeaaW.PrintWords Go.Proofs.YtgkjpffbgnljeaaW.PrintLast Go.Proofs.YtgkjpffbgnljeaaW.PrintMore
attribute [local go_sem] max2_int min2_int max_two min_two max_three min_three max_four min_four
set_option linter.unusedVariables false
set_option linter.unusedSimpArgs false
attribute [local go_sem high] eqA64
mutual
def tollbarref17_All.j0 : Nat → Bool → List (S64) → Int → List Int → Option ((List (S50)) × Bool)
 | 0, _, _, _, _ => none
 | k + 1, x25, xqa, xqb, xqc => if x25 = true then (some (([] : List (S50)), false)) else (if 0 ≤ (xqa.length : Int) then (if ((xqa.length : Int) : Int).toNat ≤ 281474976710656 then ((tollbarref17_hung.f k xqa xqb xqc xqb (List.replicate ((xqa.length : Int) : Int).toNat false)).bind fun bt172 => (if bt172.2.2.2.1 = true then (tollbarref17_All.l0 k bt172.2.2.2.2 bt172.1 0 xqa xqb xqc) else (some (([] : List (S50)), false)))) else (none)) else (none))
def tollbarref17_All.l0 : Nat → List Bool → List (S50) → Int → List (S64) → Int → List Int → Option ((List (S50)) × Bool)
 | 0, _, _, _, _, _, _ => none
 | k + 1, x4, x5, x9, xqa, xqb, xqc => if x9 < (xqc.length : Int) then (if 0 ≤ x9 then (if (rd xqc x9) < 0 then (some (([] : List (S50)), false)) else (if (rd xqc x9) ≥ (xqa.length : Int) then (some (([] : List (S50)), false)) else (if 0 ≤ (rd xqc x9) then (if (rd xqc x9) < (x4.length : Int) then (if rdOf false x4 (rd xqc x9) = true then (some (([] : List (S50)), false)) else (if (rd xqc x9) < (xqa.length : Int) then (if (((!(((rd_T64 xqa (rd xqc x9)).f0.f0.f0) == 0) || (!(((rd_T64 xqa (rd xqc x9)).f0.f0.f1) == 0))) || (!(((rd_T64 xqa (rd xqc x9)).f0.f1) == 0))) || (!(((rd_T64 xqa (rd xqc x9)).f1) == 0) || (!(((rd_T64 xqa (rd xqc x9)).f2) == 0) || (!(((rd_T64 xqa (rd xqc x9)).f3) == 0) || (!(((rd_T64 xqa (rd xqc x9)).f4) == 0)))))) = true then (some (([] : List (S50)), false)) else (tollbarref17_All.l0 k (x4.set ((rd xqc x9) : Int).toNat true) x5 (wrap64 (x9 + 1)) xqa xqb xqc)) else (none))) else (none)) else (none)))) else (none)) else (tollbarref17_All.l1 k x4 x5 0)
def tollbarref17_All.l1 : Nat → List Bool → List (S50) → Int → Option ((List (S50)) × Bool)
 | 0, _, _, _ => none
 | k + 1, x4, x5, x11 => if x11 < (x4.length : Int) then (if 0 ≤ x11 then (if rdOf false x4 x11 = true then (tollbarref17_All.l1 k x4 x5 (wrap64 (x11 + 1))) else (some (([] : List (S50)), false))) else (none)) else (tollbarref17_All.l2 k x5 1)
def tollbarref17_All.l2 : Nat → List (S50) → Int → Option ((List (S50)) × Bool)
 | 0, _, _ => none
 | k + 1, x5, x12 => if x12 < (x5.length : Int) then (if 0 ≤ (wrap64 (x12 - 1)) then (if (wrap64 (x12 - 1)) < (x5.length : Int) then (if 0 ≤ x12 then ((tollbarref17_Less.f ((rd_T50 x5 (wrap64 (x12 - 1))).f0.f0) ((rd_T50 x5 (wrap64 (x12 - 1))).f0.f1) ((rd_T50 x5 (wrap64 (x12 - 1))).f1) ((rd_T50 x5 x12).f0.f0) ((rd_T50 x5 x12).f0.f1) ((rd_T50 x5 x12).f1)).bind fun t186 => (if t186 = true then (tollbarref17_All.l2 k x5 (wrap64 (x12 + 1))) else (some (([] : List (S50)), false)))) else (none)) else (none)) else (none)) else (some (x5, true))
end
def tollbarref17_All.f (k : Nat) (l0_0 : List (S64)) (a0_1 : Int) (l0_2 : List Int) : Option ((List (S50)) × Bool) := if (l0_0.length : Int) > 32 then (tollbarref17_All.j0 k true l0_0 a0_1 l0_2) else (tollbarref17_All.j0 k (decide ((l0_2.length : Int) > (l0_0.length : Int))) l0_0 a0_1 l0_2)
def tollbarref17_All.T22 : Bool × List (List Nat × List Nat) := (true, [([], []), ([], []), ([1], [1]), ([0, 2], [0, 2]), ([3], [3]), ([], []), ([], []), ([5, 6], [5, 6]), ([7], [7]), ([4, 8], [4, 8]), ([9], [9])])
def tollbarref17_All.B22 : List Nat := [0, 0, 2, 7, 15, 0, 0, 96, 224, 511, 1023]
theorem tollbarref17_All.tab22 : rtab .any (opsOf Try.f12 22) = tollbarref17_All.T22 := by kernel_rfl
theorem tollbarref17_All.bits22 : waitsOk tollbarref17_All.T22.2 tollbarref17_All.B22 = true := by kernel_rfl
set_option maxHeartbeats 8000000 in
set_option maxRecDepth 100000 in
theorem tollbarref17_All.calls (k : Nat) (A0_0 : Option Addr) (c0_0 : Nat) (l0_0 : List (S64)) (a0_1 : Int) (A0_2 : Option Addr) (c0_2 : Nat) (l0_2 : List Int) (r1 : List (S50)) (r2 : Bool) (w : World) (hr0_0 : Kd.C k64 w A0_0 l0_0.length l0_0) (hc0_0 : l0_0.length ≤ c0_0) (hr0_2 : Kd.C (Kd.int .i64) w A0_2 l0_2.length l0_2) (hc0_2 : l0_2.length ≤ c0_2) (h : tollbarref17_All.f k l0_0 a0_1 l0_2 = some (r1, r2)) :
  Calls Try.prog 12 #[.agg #[.slice A0_0 l0_0.length c0_0, .int .i64 a0_1, .slice A0_2 l0_2.length c0_2]] w fun e w' => ∃ v0_ : Value, e = .returned (.tuple #[v0_, .bool r2]) ∧ Kd.R k50 50 w' w.heap.size (fun _ => True) v0_ r1 ∧ Below w.heap.size w w' := by
 have hu25 := Try.underlying25
 have hu64 := Try.underlying64
 have hu50 := Try.underlying50
 have HR0_0 := zK hr0_0
 have HC0_0 := zK hc0_0
 clear hr0_0 hc0_0
 have HR0_2 := zK hr0_2
 have HC0_2 := zK hc0_2
 clear hr0_2 hc0_2
 have HB := zK (Below.refl w.heap.size w)
 have H : (if (l0_0.length : Int) > 32 then (tollbarref17_All.j0 k true l0_0 a0_1 l0_2) else (tollbarref17_All.j0 k (decide ((l0_2.length : Int) > (l0_0.length : Int))) l0_0 a0_1 l0_2)) = some (r1, r2) := h
 clear h
 have HC2 := zK H
 clear H
 go_enter Try.func12, Try.ntmps12
 go_upto_region 1 with (first | ((with_reducible refine gate_dst (N := 1) rfl ?_); (try (refine gate_guard (by rfl) ?_; dsimp only)); refine box_event ?hg (N := 1) ?hd (cs := #[.slice A0_0 l0_0.length c0_0, .int .i64 a0_1, .slice A0_2 l0_2.length c0_2]) (t := 25) ?hr ?_; (case hd => rfl); (case hg => rfl); (case hr => first | (go_simp; done) | (go_simp; rfl)); intro gb168 hg w3 hbox hb; have n0_ := zK (yF (zl HB.out) hb); have n1_ := zK (hbox); have n2_ := zK ((by rw [hg]; exact (yG (zl HB.out)) : w.heap.size ≤ gb168)); have n3_ := zK ((by rw [hg]; exact (yG (zl HB.out)) : w.heap.size ≤ gb168)); clear HB; have HB := n0_; have BK168 := n1_; have GW168 := n2_; have GE168 := n3_; clear n0_ n1_ n2_ n3_; clear hb hbox hg))
 (try simp only [Act.put, zY, zZ, yA])
 go_cut [25] (fun v25 wc => ∃ (kq : Nat) (x25_1 : Bool), v25 = .bool x25_1 ∧ Aside0 (tollbarref17_All.j0 kq x25_1 l0_0 a0_1 l0_2 = some (r1, r2)) ∧ Aside0 (kq ≤ k) ∧ Aside0 (wc.heap[gb168]? = some (.cells #[(.slice A0_0 l0_0.length c0_0), .int .i64 a0_1, (.slice A0_2 l0_2.length c0_2)] 25 (0, 0))) ∧ Aside0 (Below w.heap.size w wc))
 case first =>
  have H := HC2.out
  clear HC2
  by_cases c4 : (l0_0.length : Int) > 32
  ·rw [if_pos c4] at H
   have c4b0 : decide (32 < (l0_0.length : Int)) = true := decide_eq_true c4
   have c4b1 : decide (32 < l0_0.length) = true := decide_eq_true (by omega)
   clear c4
   (first | rw [c4b0] | (simp only [i64_w, i32_w]; rw [c4b0]) | skip)
   have H' := zK H
   clear H
   have hcz5_0 : w3.cell? ⟨gb168, 0, none⟩ = some (.slice A0_0 l0_0.length c0_0) := (zQ BK168.out 0).trans rfl
   have hcz5_1 : w3.cell? ⟨gb168, 1, none⟩ = some (.int .i64 a0_1) := (zQ BK168.out 1).trans rfl
   have hcz5_2 : w3.cell? ⟨gb168, 2, none⟩ = some (.slice A0_2 l0_2.length c0_2) := (zQ BK168.out 2).trans rfl
   have hfz5_0 := zR BK168.out 0
   have hfz5_1 := zR BK168.out 1
   have hfz5_2 := zR BK168.out 2
   go_wp2
   go_meet
   case rel => exact ⟨_, (true), zz, H', ⟨by first | omega | exact Nat.le_refl _⟩, ⟨by (with_reducible repeat (first | refine zD ?_ _ | refine zE ?_ | refine zF ?_ _)); exact BK168.out⟩, ⟨by repeat (first | (with_reducible first | exact HB.out | apply zG | apply zH | apply zI | refine zL ?_ GE168.out) | exact HB.out)⟩⟩
  ·rw [if_neg c4] at H
   have c4b0 : decide (32 < (l0_0.length : Int)) = false := decide_eq_false c4
   have c4b1 : decide (32 < l0_0.length) = false := decide_eq_false (by omega)
   clear c4
   (first | rw [c4b0] | (simp only [i64_w, i32_w]; rw [c4b0]) | skip)
   have H' := zK H
   clear H
   have hcz6_0 : w3.cell? ⟨gb168, 0, none⟩ = some (.slice A0_0 l0_0.length c0_0) := (zQ BK168.out 0).trans rfl
   have hcz6_1 : w3.cell? ⟨gb168, 1, none⟩ = some (.int .i64 a0_1) := (zQ BK168.out 1).trans rfl
   have hcz6_2 : w3.cell? ⟨gb168, 2, none⟩ = some (.slice A0_2 l0_2.length c0_2) := (zQ BK168.out 2).trans rfl
   have hfz6_0 := zR BK168.out 0
   have hfz6_1 := zR BK168.out 1
   have hfz6_2 := zR BK168.out 2
   go_wp2
   go_meet
   case rel => exact ⟨_, (decide ((l0_2.length : Int) > (l0_0.length : Int))), zz, H', ⟨by first | omega | exact Nat.le_refl _⟩, ⟨by (with_reducible repeat (first | refine zD ?_ _ | refine zE ?_ | refine zF ?_ _)); exact BK168.out⟩, ⟨by repeat (first | (with_reducible first | exact HB.out | apply zG | apply zH | apply zI | refine zL ?_ GE168.out) | exact HB.out)⟩⟩
 case rest =>
  clear HC2
  try clear c1
  try clear p2
  try clear c4
  try clear c4b0
  try clear c4b1
  try clear hcz5_0
  try clear hcz5_1
  try clear hcz5_2
  try clear hcz6_0
  try clear hcz6_1
  try clear hcz6_2
  try clear hfz5_0
  try clear hfz5_1
  try clear hfz5_2
  try clear hfz6_0
  try clear hfz6_1
  try clear hfz6_2
  obtain ⟨kq, x25_1, rfl, HA, HJ1, BK168, HB⟩ := hcut
  cases kq with
  | zero => exact absurd HA.out (by simp [tollbarref17_All.j0])
  | succ kj1 =>
   have H := HA.out
   clear HA
   simp only [tollbarref17_All.j0] at H
   by_cases c7 : x25_1 = true
   ·subst c7
    have H1 : (some (([] : List (S50)), false)) = some (r1, r2) := by rw [if_pos rfl] at H; exact H
    clear H
    have H := H1
    clear H1
    simp only [Option.some.injEq, Prod.mk.injEq] at H
    obtain ⟨rfl, rfl⟩ := H
    go_wp2
    go_ret2
    exact ⟨_, by first | rfl | (simp [errW_none, errW_some] <;> rfl) | (simp [*, errW_none, errW_some] <;> rfl), by first | exact Kd.R_nil _ _ _ _ _ | exact Kd.N_nil _ _ _ _ _ | exact Kd.V_nil _ _ _ _ _ | exact Kd.Q_nil _ _ _ _ _ | exact Kd.S_nil _ _ _ _ _, zl HB.out⟩
   ·replace c7 := Bool.eq_false_iff.mpr c7
    subst c7
    have H1 : (if 0 ≤ (l0_0.length : Int) then (if ((l0_0.length : Int) : Int).toNat ≤ 281474976710656 then ((tollbarref17_hung.f kj1 l0_0 a0_1 l0_2 a0_1 (List.replicate ((l0_0.length : Int) : Int).toNat false)).bind fun bt172 => (if bt172.2.2.2.1 = true then (tollbarref17_All.l0 kj1 bt172.2.2.2.2 bt172.1 0 l0_0 a0_1 l0_2) else (some (([] : List (S50)), false)))) else (none)) else (none)) = some (r1, r2) := by rw [if_neg (show ¬ (false = true) by decide)] at H; exact H
    clear H
    have H := H1
    clear H1
    by_cases c8 : 0 ≤ (l0_0.length : Int)
    ·rw [if_pos c8] at H
     have c8b0 := eq_true c8
     have c8b1 : decide (0 ≤ (l0_0.length : Int)) = true := decide_eq_true c8
     clear c8
     by_cases c9 : ((l0_0.length : Int) : Int).toNat ≤ 281474976710656
     ·rw [if_pos c9] at H
      have c9b0 := eq_true c9
      have c9b1 : decide (((l0_0.length : Int) : Int).toNat ≤ 281474976710656) = true := decide_eq_true c9
      clear c9
      obtain ⟨y169, hy169⟩ : ∃ y_ : List Bool, y_ = (List.replicate ((l0_0.length : Int) : Int).toNat false) := ⟨_, rfl⟩
      replace H : ((tollbarref17_hung.f kj1 l0_0 a0_1 l0_2 a0_1 y169).bind fun bt172 => (if bt172.2.2.2.1 = true then (tollbarref17_All.l0 kj1 bt172.2.2.2.2 bt172.1 0 l0_0 a0_1 l0_2) else (some (([] : List (S50)), false)))) = some (r1, r2) := by first | (rw [hy169]; with_reducible exact H) | (have H2_ := (Option.bind_some _ _).symm.trans H; rw [hy169]; with_reducible exact H2_) | (have H2_ := (Option.bind_some _ _).symm.trans H; with_reducible exact H2_) | with_reducible exact H | (rw [hy169]; exact H) | exact H
      have Ny169 := zK hy169
      clear hy169
      replace H := yH.mp H
      obtain ⟨⟨t172, t175, t176, t177, t178⟩, A100, H⟩ := H
      replace H : (if t177 = true then (tollbarref17_All.l0 kj1 t178 t172 0 l0_0 a0_1 l0_2) else (some (([] : List (S50)), false))) = some (r1, r2) := H
      have A10 := zK A100
      clear A100
      by_cases c11 : t177 = true
      ·subst c11
       have H1 : (tollbarref17_All.l0 kj1 t178 t172 0 l0_0 a0_1 l0_2) = some (r1, r2) := by rw [if_pos rfl] at H; exact H
       clear H
       have H := H1
       clear H1
       have H' := zK H
       clear H
       have hcz12_0 : wc.cell? ⟨gb168, 0, none⟩ = some (.slice A0_0 l0_0.length c0_0) := (zQ BK168.out 0).trans rfl
       have hcz12_1 : wc.cell? ⟨gb168, 1, none⟩ = some (.int .i64 a0_1) := (zQ BK168.out 1).trans rfl
       have hcz12_2 : wc.cell? ⟨gb168, 2, none⟩ = some (.slice A0_2 l0_2.length c0_2) := (zQ BK168.out 2).trans rfl
       have hfz12_0 := zR BK168.out 0
       have hfz12_1 := zR BK168.out 1
       have hfz12_2 := zR BK168.out 2
       go_wp2_with (first | ((with_reducible refine gate_dst (N := 29) rfl ?_); (try (refine gate_guard (by rfl) ?_; dsimp only)); refine Kd.R_make Kd.bool _ 4 rfl (N := 29) rfl 86 _ _ rfl (l0_0.length : Int) rfl rfl Try.underlying86 (.bool false) 1 info4 rfl (by decide) (by omega) false (ok := fun _ => True) (okp := fun _ => True) rfl (fun _ hk => hk) trivial (of_decide_eq_true (by first | (with_reducible assumption) | assumption)) (Nat.le_trans (Nat.mul_le_mul_right _ (of_decide_eq_true (by first | (with_reducible assumption) | assumption) : (l0_0.length : Int).toNat ≤ 281474976710656)) (by omega)) (Below.refl _ _) (Nat.le_refl _) ?_; intro v170 w13 ho14 hb hg_ hnew_; clear hg_ hnew_; (first | rw [← Ny169.out] at ho14 | (simp only [Int.reduceToNat] at ho14; rw [← Ny169.out] at ho14)); have n0_ := zK (zV ho14 (yG (zl HB.out))); have n1_ := zK (zP (g := gb168) (o := .cells #[.slice A0_0 l0_0.length c0_0, .int .i64 a0_1, .slice A0_2 l0_2.length c0_2] 25 (0, 0)) (zb BK168.out) hb); have n2_ := zK (yF (zl HB.out) hb); clear BK168; clear HB; have HO171 := n0_; have BK168 := n1_; have HB := n2_; clear n0_ n1_ n2_; clear hb ho14; have hcz15_0 : w13.cell? ⟨gb168, 0, none⟩ = some (.slice A0_0 l0_0.length c0_0) := (zQ BK168.out 0).trans rfl; have hcz15_1 : w13.cell? ⟨gb168, 1, none⟩ = some (.int .i64 a0_1) := (zQ BK168.out 1).trans rfl; have hcz15_2 : w13.cell? ⟨gb168, 2, none⟩ = some (.slice A0_2 l0_2.length c0_2) := (zQ BK168.out 2).trans rfl; have hfz15_0 := zR BK168.out 0; have hfz15_1 := zR BK168.out 1; have hfz15_2 := zR BK168.out 2; obtain ⟨Ao16, co16, eo16⟩ := yE HO171.out; subst eo16) | ((with_reducible refine gate_callee (f := 43) rfl ?_); refine goesL_ (some 35) rfl rfl Try.func43 (by kernel_rfl) rfl #[.agg #[.slice A0_0 l0_0.length c0_0, .int .i64 a0_1, .slice A0_2 l0_2.length c0_2], .int .i64 a0_1, .slice Ao16 y169.length co16] rfl zt ?_; (with_reducible refine (tollbarref17_hung.calls kj1 _ _ l0_0 a0_1 _ _ l0_2 a0_1 (fun k_ => some k_ = (.slice Ao16 y169.length co16 : Value).ownBlock) (.slice Ao16 y169.length co16) y169 t172 t175 t176 true t178 w _ ?side1 ?side2 ?side3 ?side4 ?side5 ?side6 A10.out).mono ?_); (case side1 => repeat (first | (with_reducible first | exact HB.out | apply zG | apply zH | apply zI | refine zL ?_ GE168.out) | exact HB.out)); (case side2 => exact Kd.C_kept_came k64_heap HR0_0.out (zl HB.out) (fun k_ hs_ => (fun e_ => Kd.R_base HO171.out k_ e_.symm) hs_)); (case side3 => exact HC0_0.out); (case side4 => exact Kd.C_kept_came (Kd.heap_int .i64) HR0_2.out (zl HB.out) (fun k_ hs_ => (fun e_ => Kd.R_base HO171.out k_ e_.symm) hs_)); (case side5 => exact HC0_2.out); (case side6 => exact Kd.R_tight rfl HO171.out); rintro e w17 ⟨v173, rfl, ho0, hy0, hb, hkp⟩; refine ⟨_, rfl, ?_⟩; have n0_ := zK (blk_kept (zb BK168.out) hkp (fun hs_ => (fun e_ => (Kd.R_ne HO171.out BK168.out (by decide)) e_) hs_)); have n1_ := zK (Kd.R_reok rfl hy0 (fun k_ e_ => HO171.out.1 k_ e_)); have n2_ := zK (Kd.R_mono (ok' := fun k_ => True) ho0 (fun k_ hk_ => trivial)); have n3_ := zK (hb); clear BK168; clear HO171; clear HB; have BK168 := n0_; have HO171 := n1_; have HO174 := n2_; have HB := n3_; clear n0_ n1_ n2_ n3_; (try clear hb); (try clear hkp); (try clear ho0); (try clear hy0)))
       go_loopg [9] kj1 (fun kq v9 w' => ∃ (x4_2 : List Bool) (x9_2 : Int), v9 = .int .i64 x9_2 ∧ Aside0 (tollbarref17_All.l0 kq x4_2 t172 x9_2 l0_0 a0_1 l0_2 = some (r1, r2)) ∧ Aside0 (kq ≤ kj1) ∧ Aside0 (Kd.R Kd.bool 4 w' w.heap.size (fun _ => True) (.slice Ao16 y169.length co16) x4_2) ∧ Aside0 (Kd.R k50 50 w' w.heap.size (fun _ => True) v173 t172) ∧ Aside0 (w'.heap[gb168]? = some (.cells #[(.slice A0_0 l0_0.length c0_0), .int .i64 a0_1, (.slice A0_2 l0_2.length c0_2)] 25 (0, 0))) ∧ Aside0 (Below w.heap.size w w'))
       case atStart => exact ⟨(t178), (0), zz, H', ⟨Nat.le_refl _⟩, ⟨by (with_reducible repeat (first | apply zA | apply zB | apply zC)); exact HO171.out⟩, ⟨by (with_reducible repeat (first | apply zA | apply zB | apply zC)); exact HO174.out⟩, ⟨by (with_reducible repeat (first | refine zD ?_ _ | refine zE ?_ | refine zF ?_ _)); exact BK168.out⟩, ⟨by repeat (first | (with_reducible first | exact HB.out | apply zG | apply zH | apply zI | refine zL ?_ GE168.out) | exact HB.out)⟩⟩
       case round =>
        clear H'
        try clear c1
        try clear p2
        try clear c4
        try clear c4b0
        try clear c4b1
        try clear c7
        try clear c8
        try clear c8b0
        try clear c8b1
        try clear c9
        try clear c9b0
        try clear c9b1
        try clear c11
        try clear c12
        try clear hcz12_0
        try clear hcz12_1
        try clear hcz12_2
        try clear hcz15_0
        try clear hcz15_1
        try clear hcz15_2
        try clear hcz5_0
        try clear hcz5_1
        try clear hcz5_2
        try clear hcz6_0
        try clear hcz6_1
        try clear hcz6_2
        try clear hfz12_0
        try clear hfz12_1
        try clear hfz12_2
        try clear hfz15_0
        try clear hfz15_1
        try clear hfz15_2
        try clear hfz5_0
        try clear hfz5_1
        try clear hfz5_2
        try clear hfz6_0
        try clear hfz6_1
        try clear hfz6_2
        try clear p2
        obtain ⟨x4_2, x9_2, rfl, HA, HK2, HO_4, HO_5, BK168, HB⟩ := hrel
        have hl4_2 := (zX HO_4.out).1
        rw [hl4_2] at HO_4
        (try simp only [hl4_2])
        (try simp only [hl4_2] at BK168)
        (try simp only [hl4_2] at HO_5)
        cases gk with
        | zero => exact absurd HA.out (by simp [tollbarref17_All.l0])
        | succ k2 =>
         have H := HA.out
         clear HA
         simp only [tollbarref17_All.l0] at H
         by_cases c18 : x9_2 < (l0_2.length : Int)
         ·rw [if_pos c18] at H
          have c18b0 : decide (x9_2 < (l0_2.length : Int)) = true := decide_eq_true c18
          clear c18
          by_cases c19 : 0 ≤ x9_2
          ·rw [if_pos c19] at H
           have c19b0 : decide (0 ≤ x9_2) = true := decide_eq_true c19
           clear c19
           by_cases c20 : (rd l0_2 x9_2) < 0
           ·rw [if_pos c20] at H
            have c20b0 : decide ((rd l0_2 x9_2) < 0) = true := decide_eq_true c20
            clear c20
            simp only [Option.some.injEq, Prod.mk.injEq] at H
            obtain ⟨rfl, rfl⟩ := H
            have hcz21_0 : wr.cell? ⟨gb168, 0, none⟩ = some (.slice A0_0 l0_0.length c0_0) := (zQ BK168.out 0).trans rfl
            have hcz21_1 : wr.cell? ⟨gb168, 1, none⟩ = some (.int .i64 a0_1) := (zQ BK168.out 1).trans rfl
            have hcz21_2 : wr.cell? ⟨gb168, 2, none⟩ = some (.slice A0_2 l0_2.length c0_2) := (zQ BK168.out 2).trans rfl
            have hfz21_0 := zR BK168.out 0
            have hfz21_1 := zR BK168.out 1
            have hfz21_2 := zR BK168.out 2
            have p179 : 0 ≤ (x9_2 : Int) := of_decide_eq_true (by first | (with_reducible assumption) | assumption)
            have q179 : x9_2 < (l0_2.length : Int) := of_decide_eq_true (by first | (with_reducible assumption) | assumption)
            obtain ⟨ad179, e179, hx179_0⟩ := Kd.at_int HR0_2.out x9_2 p179 q179
            cases e179
            replace hx179_0 := (HB.out.cell (zJ w _ hx179_0)).trans hx179_0
            replace p179 := eq_true p179
            replace q179 := eq_true q179
            go_wp2
            go_ret2
            exact ⟨_, by first | rfl | (simp [errW_none, errW_some] <;> rfl) | (simp [*, errW_none, errW_some] <;> rfl), by first | exact Kd.R_nil _ _ _ _ _ | exact Kd.N_nil _ _ _ _ _ | exact Kd.V_nil _ _ _ _ _ | exact Kd.Q_nil _ _ _ _ _ | exact Kd.S_nil _ _ _ _ _, zl HB.out⟩
           ·rw [if_neg c20] at H
            have c20b0 : decide ((rd l0_2 x9_2) < 0) = false := decide_eq_false c20
            clear c20
            by_cases c22 : (rd l0_2 x9_2) ≥ (l0_0.length : Int)
            ·rw [if_pos c22] at H
             have c22b0 : decide ((l0_0.length : Int) ≤ (rd l0_2 x9_2)) = true := decide_eq_true c22
             clear c22
             simp only [Option.some.injEq, Prod.mk.injEq] at H
             obtain ⟨rfl, rfl⟩ := H
             have hcz23_0 : wr.cell? ⟨gb168, 0, none⟩ = some (.slice A0_0 l0_0.length c0_0) := (zQ BK168.out 0).trans rfl
             have hcz23_1 : wr.cell? ⟨gb168, 1, none⟩ = some (.int .i64 a0_1) := (zQ BK168.out 1).trans rfl
             have hcz23_2 : wr.cell? ⟨gb168, 2, none⟩ = some (.slice A0_2 l0_2.length c0_2) := (zQ BK168.out 2).trans rfl
             have hfz23_0 := zR BK168.out 0
             have hfz23_1 := zR BK168.out 1
             have hfz23_2 := zR BK168.out 2
             have p179 : 0 ≤ (x9_2 : Int) := of_decide_eq_true (by first | (with_reducible assumption) | assumption)
             have q179 : x9_2 < (l0_2.length : Int) := of_decide_eq_true (by first | (with_reducible assumption) | assumption)
             obtain ⟨ad179, e179, hx179_0⟩ := Kd.at_int HR0_2.out x9_2 p179 q179
             cases e179
             replace hx179_0 := (HB.out.cell (zJ w _ hx179_0)).trans hx179_0
             replace p179 := eq_true p179
             replace q179 := eq_true q179
             go_wp2
             go_ret2
             exact ⟨_, by first | rfl | (simp [errW_none, errW_some] <;> rfl) | (simp [*, errW_none, errW_some] <;> rfl), by first | exact Kd.R_nil _ _ _ _ _ | exact Kd.N_nil _ _ _ _ _ | exact Kd.V_nil _ _ _ _ _ | exact Kd.Q_nil _ _ _ _ _ | exact Kd.S_nil _ _ _ _ _, zl HB.out⟩
            ·rw [if_neg c22] at H
             have c22b0 : decide ((l0_0.length : Int) ≤ (rd l0_2 x9_2)) = false := decide_eq_false c22
             clear c22
             by_cases c24 : 0 ≤ (rd l0_2 x9_2)
             ·rw [if_pos c24] at H
              have c24b0 : decide (0 ≤ (rd l0_2 x9_2)) = true := decide_eq_true c24
              clear c24
              by_cases c25 : (rd l0_2 x9_2) < (x4_2.length : Int)
              ·rw [if_pos c25] at H
               have c25b0 : decide ((rd l0_2 x9_2) < (x4_2.length : Int)) = true := decide_eq_true c25
               clear c25
               obtain ⟨bq26, hbq26⟩ : ∃ b_ : Bool, b_ = (rdOf false x4_2 (rd l0_2 x9_2)) := ⟨_, rfl⟩
               replace H : (if bq26 = true then (some (([] : List (S50)), false)) else (if (rd l0_2 x9_2) < (l0_0.length : Int) then (if (((!(((rd_T64 l0_0 (rd l0_2 x9_2)).f0.f0.f0) == 0) || (!(((rd_T64 l0_0 (rd l0_2 x9_2)).f0.f0.f1) == 0))) || (!(((rd_T64 l0_0 (rd l0_2 x9_2)).f0.f1) == 0))) || (!(((rd_T64 l0_0 (rd l0_2 x9_2)).f1) == 0) || (!(((rd_T64 l0_0 (rd l0_2 x9_2)).f2) == 0) || (!(((rd_T64 l0_0 (rd l0_2 x9_2)).f3) == 0) || (!(((rd_T64 l0_0 (rd l0_2 x9_2)).f4) == 0)))))) = true then (some (([] : List (S50)), false)) else (tollbarref17_All.l0 k2 (x4_2.set ((rd l0_2 x9_2) : Int).toNat true) t172 (wrap64 (x9_2 + 1)) l0_0 a0_1 l0_2)) else (none))) = some (r1, r2) := by rw [← hbq26] at H; exact H
               have Nbq26 := zK hbq26
               clear hbq26
               by_cases c27 : bq26 = true
               ·subst c27
                have H1 : (some (([] : List (S50)), false)) = some (r1, r2) := by rw [if_pos rfl] at H; exact H
                clear H
                have H := H1
                clear H1
                simp only [Option.some.injEq, Prod.mk.injEq] at H
                obtain ⟨rfl, rfl⟩ := H
                have hcz28_0 : wr.cell? ⟨gb168, 0, none⟩ = some (.slice A0_0 l0_0.length c0_0) := (zQ BK168.out 0).trans rfl
                have hcz28_1 : wr.cell? ⟨gb168, 1, none⟩ = some (.int .i64 a0_1) := (zQ BK168.out 1).trans rfl
                have hcz28_2 : wr.cell? ⟨gb168, 2, none⟩ = some (.slice A0_2 l0_2.length c0_2) := (zQ BK168.out 2).trans rfl
                have hfz28_0 := zR BK168.out 0
                have hfz28_1 := zR BK168.out 1
                have hfz28_2 := zR BK168.out 2
                have p179 : 0 ≤ (x9_2 : Int) := of_decide_eq_true (by first | (with_reducible assumption) | assumption)
                have q179 : x9_2 < (l0_2.length : Int) := of_decide_eq_true (by first | (with_reducible assumption) | assumption)
                obtain ⟨ad179, e179, hx179_0⟩ := Kd.at_int HR0_2.out x9_2 p179 q179
                cases e179
                replace hx179_0 := (HB.out.cell (zJ w _ hx179_0)).trans hx179_0
                replace p179 := eq_true p179
                replace q179 := eq_true q179
                have p180 : 0 ≤ ((rd l0_2 x9_2) : Int) := of_decide_eq_true (by first | (with_reducible assumption) | assumption)
                have q180 : (rd l0_2 x9_2) < (x4_2.length : Int) := of_decide_eq_true (by first | (with_reducible assumption) | assumption)
                obtain ⟨ad180, e180, hx180_0⟩ := Kd.at_bool (zX HO_4.out).2.2 (rd l0_2 x9_2) p180 q180
                (try rw [← Nbq26.out] at hx180_0)
                cases e180
                replace p180 := eq_true p180
                replace q180 := eq_true q180
                go_wp2
                go_ret2
                exact ⟨_, by first | rfl | (simp [errW_none, errW_some] <;> rfl) | (simp [*, errW_none, errW_some] <;> rfl), by first | exact Kd.R_nil _ _ _ _ _ | exact Kd.N_nil _ _ _ _ _ | exact Kd.V_nil _ _ _ _ _ | exact Kd.Q_nil _ _ _ _ _ | exact Kd.S_nil _ _ _ _ _, zl HB.out⟩
               ·replace c27 := Bool.eq_false_iff.mpr c27
                subst c27
                have H1 : (if (rd l0_2 x9_2) < (l0_0.length : Int) then (if (((!(((rd_T64 l0_0 (rd l0_2 x9_2)).f0.f0.f0) == 0) || (!(((rd_T64 l0_0 (rd l0_2 x9_2)).f0.f0.f1) == 0))) || (!(((rd_T64 l0_0 (rd l0_2 x9_2)).f0.f1) == 0))) || (!(((rd_T64 l0_0 (rd l0_2 x9_2)).f1) == 0) || (!(((rd_T64 l0_0 (rd l0_2 x9_2)).f2) == 0) || (!(((rd_T64 l0_0 (rd l0_2 x9_2)).f3) == 0) || (!(((rd_T64 l0_0 (rd l0_2 x9_2)).f4) == 0)))))) = true then (some (([] : List (S50)), false)) else (tollbarref17_All.l0 k2 (x4_2.set ((rd l0_2 x9_2) : Int).toNat true) t172 (wrap64 (x9_2 + 1)) l0_0 a0_1 l0_2)) else (none)) = some (r1, r2) := by rw [if_neg (show ¬ (false = true) by decide)] at H; exact H
                clear H
                have H := H1
                clear H1
                by_cases c29 : (rd l0_2 x9_2) < (l0_0.length : Int)
                ·rw [if_pos c29] at H
                 have c29b0 : decide ((rd l0_2 x9_2) < (l0_0.length : Int)) = true := decide_eq_true c29
                 clear c29
                 by_cases c30 : (((!(((rd_T64 l0_0 (rd l0_2 x9_2)).f0.f0.f0) == 0) || (!(((rd_T64 l0_0 (rd l0_2 x9_2)).f0.f0.f1) == 0))) || (!(((rd_T64 l0_0 (rd l0_2 x9_2)).f0.f1) == 0))) || (!(((rd_T64 l0_0 (rd l0_2 x9_2)).f1) == 0) || (!(((rd_T64 l0_0 (rd l0_2 x9_2)).f2) == 0) || (!(((rd_T64 l0_0 (rd l0_2 x9_2)).f3) == 0) || (!(((rd_T64 l0_0 (rd l0_2 x9_2)).f4) == 0)))))) = true
                 ·rw [if_pos c30] at H
                  have c30b0 : (((!(((rd_T64 l0_0 (rd l0_2 x9_2)).f0.f0.f0) == 0) || (!(((rd_T64 l0_0 (rd l0_2 x9_2)).f0.f0.f1) == 0))) || (!(((rd_T64 l0_0 (rd l0_2 x9_2)).f0.f1) == 0))) || (!(((rd_T64 l0_0 (rd l0_2 x9_2)).f1) == 0) || (!(((rd_T64 l0_0 (rd l0_2 x9_2)).f2) == 0) || (!(((rd_T64 l0_0 (rd l0_2 x9_2)).f3) == 0) || (!(((rd_T64 l0_0 (rd l0_2 x9_2)).f4) == 0)))))) = true := c30
                  clear c30
                  simp only [Option.some.injEq, Prod.mk.injEq] at H
                  obtain ⟨rfl, rfl⟩ := H
                  have hcz31_0 : wr.cell? ⟨gb168, 0, none⟩ = some (.slice A0_0 l0_0.length c0_0) := (zQ BK168.out 0).trans rfl
                  have hcz31_1 : wr.cell? ⟨gb168, 1, none⟩ = some (.int .i64 a0_1) := (zQ BK168.out 1).trans rfl
                  have hcz31_2 : wr.cell? ⟨gb168, 2, none⟩ = some (.slice A0_2 l0_2.length c0_2) := (zQ BK168.out 2).trans rfl
                  have hfz31_0 := zR BK168.out 0
                  have hfz31_1 := zR BK168.out 1
                  have hfz31_2 := zR BK168.out 2
                  have p179 : 0 ≤ (x9_2 : Int) := of_decide_eq_true (by first | (with_reducible assumption) | assumption)
                  have q179 : x9_2 < (l0_2.length : Int) := of_decide_eq_true (by first | (with_reducible assumption) | assumption)
                  obtain ⟨ad179, e179, hx179_0⟩ := Kd.at_int HR0_2.out x9_2 p179 q179
                  cases e179
                  replace hx179_0 := (HB.out.cell (zJ w _ hx179_0)).trans hx179_0
                  replace p179 := eq_true p179
                  replace q179 := eq_true q179
                  have p180 : 0 ≤ ((rd l0_2 x9_2) : Int) := of_decide_eq_true (by first | (with_reducible assumption) | assumption)
                  have q180 : (rd l0_2 x9_2) < (x4_2.length : Int) := of_decide_eq_true (by first | (with_reducible assumption) | assumption)
                  obtain ⟨ad180, e180, hx180_0⟩ := Kd.at_bool (zX HO_4.out).2.2 (rd l0_2 x9_2) p180 q180
                  (try rw [← Nbq26.out] at hx180_0)
                  cases e180
                  replace p180 := eq_true p180
                  replace q180 := eq_true q180
                  have p181 : 0 ≤ ((rd l0_2 x9_2) : Int) := of_decide_eq_true (by first | (with_reducible assumption) | assumption)
                  have q181 : (rd l0_2 x9_2) < (l0_0.length : Int) := of_decide_eq_true (by first | (with_reducible assumption) | assumption)
                  obtain ⟨ad181, e181, hx181_0, hx181_1, hx181_2, hx181_3, hx181_4, hx181_5, hx181_6⟩ := at_T64 HR0_0.out (rd l0_2 x9_2) p181 q181
                  cases e181
                  replace hx181_0 := (HB.out.cell (zJ w _ hx181_0)).trans hx181_0
                  replace hx181_1 := (HB.out.cell (zJ w _ hx181_1)).trans hx181_1
                  replace hx181_2 := (HB.out.cell (zJ w _ hx181_2)).trans hx181_2
                  replace hx181_3 := (HB.out.cell (zJ w _ hx181_3)).trans hx181_3
                  replace hx181_4 := (HB.out.cell (zJ w _ hx181_4)).trans hx181_4
                  replace hx181_5 := (HB.out.cell (zJ w _ hx181_5)).trans hx181_5
                  replace hx181_6 := (HB.out.cell (zJ w _ hx181_6)).trans hx181_6
                  replace p181 := eq_true p181
                  replace q181 := eq_true q181
                  go_wp2
                  go_ret2
                  exact ⟨_, by first | rfl | (simp [errW_none, errW_some] <;> rfl) | (simp [*, errW_none, errW_some] <;> rfl), by first | exact Kd.R_nil _ _ _ _ _ | exact Kd.N_nil _ _ _ _ _ | exact Kd.V_nil _ _ _ _ _ | exact Kd.Q_nil _ _ _ _ _ | exact Kd.S_nil _ _ _ _ _, zl HB.out⟩
                 ·rw [if_neg c30] at H
                  have c30b0 : (((!(((rd_T64 l0_0 (rd l0_2 x9_2)).f0.f0.f0) == 0) || (!(((rd_T64 l0_0 (rd l0_2 x9_2)).f0.f0.f1) == 0))) || (!(((rd_T64 l0_0 (rd l0_2 x9_2)).f0.f1) == 0))) || (!(((rd_T64 l0_0 (rd l0_2 x9_2)).f1) == 0) || (!(((rd_T64 l0_0 (rd l0_2 x9_2)).f2) == 0) || (!(((rd_T64 l0_0 (rd l0_2 x9_2)).f3) == 0) || (!(((rd_T64 l0_0 (rd l0_2 x9_2)).f4) == 0)))))) = false := by simpa using c30
                  clear c30
                  obtain ⟨y182, hy182⟩ : ∃ y_ : List Bool, y_ = (x4_2.set ((rd l0_2 x9_2) : Int).toNat true) := ⟨_, rfl⟩
                  replace H : (tollbarref17_All.l0 k2 y182 t172 (wrap64 (x9_2 + 1)) l0_0 a0_1 l0_2) = some (r1, r2) := by first | (rw [hy182]; with_reducible exact H) | (have H2_ := (Option.bind_some _ _).symm.trans H; rw [hy182]; with_reducible exact H2_) | (have H2_ := (Option.bind_some _ _).symm.trans H; with_reducible exact H2_) | with_reducible exact H | (rw [hy182]; exact H) | exact H
                  have Ny182 := zK hy182
                  clear hy182
                  have H' := zK H
                  clear H
                  have hcz33_0 : wr.cell? ⟨gb168, 0, none⟩ = some (.slice A0_0 l0_0.length c0_0) := (zQ BK168.out 0).trans rfl
                  have hcz33_1 : wr.cell? ⟨gb168, 1, none⟩ = some (.int .i64 a0_1) := (zQ BK168.out 1).trans rfl
                  have hcz33_2 : wr.cell? ⟨gb168, 2, none⟩ = some (.slice A0_2 l0_2.length c0_2) := (zQ BK168.out 2).trans rfl
                  have hfz33_0 := zR BK168.out 0
                  have hfz33_1 := zR BK168.out 1
                  have hfz33_2 := zR BK168.out 2
                  have p179 : 0 ≤ (x9_2 : Int) := of_decide_eq_true (by first | (with_reducible assumption) | assumption)
                  have q179 : x9_2 < (l0_2.length : Int) := of_decide_eq_true (by first | (with_reducible assumption) | assumption)
                  obtain ⟨ad179, e179, hx179_0⟩ := Kd.at_int HR0_2.out x9_2 p179 q179
                  cases e179
                  replace hx179_0 := (HB.out.cell (zJ w _ hx179_0)).trans hx179_0
                  replace p179 := eq_true p179
                  replace q179 := eq_true q179
                  have p180 : 0 ≤ ((rd l0_2 x9_2) : Int) := of_decide_eq_true (by first | (with_reducible assumption) | assumption)
                  have q180 : (rd l0_2 x9_2) < (x4_2.length : Int) := of_decide_eq_true (by first | (with_reducible assumption) | assumption)
                  obtain ⟨ad180, e180, hx180_0⟩ := Kd.at_bool (zX HO_4.out).2.2 (rd l0_2 x9_2) p180 q180
                  (try rw [← Nbq26.out] at hx180_0)
                  cases e180
                  replace p180 := eq_true p180
                  replace q180 := eq_true q180
                  have p181 : 0 ≤ ((rd l0_2 x9_2) : Int) := of_decide_eq_true (by first | (with_reducible assumption) | assumption)
                  have q181 : (rd l0_2 x9_2) < (l0_0.length : Int) := of_decide_eq_true (by first | (with_reducible assumption) | assumption)
                  obtain ⟨ad181, e181, hx181_0, hx181_1, hx181_2, hx181_3, hx181_4, hx181_5, hx181_6⟩ := at_T64 HR0_0.out (rd l0_2 x9_2) p181 q181
                  cases e181
                  replace hx181_0 := (HB.out.cell (zJ w _ hx181_0)).trans hx181_0
                  replace hx181_1 := (HB.out.cell (zJ w _ hx181_1)).trans hx181_1
                  replace hx181_2 := (HB.out.cell (zJ w _ hx181_2)).trans hx181_2
                  replace hx181_3 := (HB.out.cell (zJ w _ hx181_3)).trans hx181_3
                  replace hx181_4 := (HB.out.cell (zJ w _ hx181_4)).trans hx181_4
                  replace hx181_5 := (HB.out.cell (zJ w _ hx181_5)).trans hx181_5
                  replace hx181_6 := (HB.out.cell (zJ w _ hx181_6)).trans hx181_6
                  replace p181 := eq_true p181
                  replace q181 := eq_true q181
                  have p32 : 0 ≤ ((rd l0_2 x9_2) : Int) := of_decide_eq_true (by first | (with_reducible assumption) | assumption)
                  have q32 : ((rd l0_2 x9_2) : Int) < ((x4_2.length : Int) : Int) := of_decide_eq_true (by first | (with_reducible assumption) | assumption)
                  obtain ⟨go32, co32, eo32, gb32, gl32, cl32, HG32⟩ := Kd.R_form HO_4.out (by omega)
                  (first | cases eo32 | (injection eo32 with ea_ en_ ec_; (first | subst ea_ | (injection ea_ with ea_; subst ea_)); subst ec_; clear en_))
                  have GB32 := zK gb32
                  have GG32 := zK HG32
                  clear gb32 gl32 HG32
                  (first | simp only [add_plain] at hx180_0 | skip)
                  obtain ⟨hx32_0, hf32_0⟩ := Kd.R_celln false HO_4.out ((rd l0_2 x9_2) : Int) p32 q32
                  replace p32 := eq_true p32
                  replace q32 := eq_true q32
                  have HP34 := Kd.R_putg HO_4.out ((rd l0_2 x9_2) : Int) true
                  go_wp2_with (first | ((with_reducible refine gate_store (t := 4) (p := 80) rfl ?_); refine store_event (t := 4) (p := 80) (v := ?vo_w35) (w1 := (wr.setCell ⟨go32, ((rd l0_2 x9_2) : Int).toNat, none⟩ (.bool true))) ?hg ?ho ?hn ?hr ?_; (case ho => rfl); (case hg => rfl); (case hn => rfl); (case hr => first | (go_simp; done) | (go_simp; rfl)); intro w35 hw; have hg : wr.grownBy w35 (some go32) := (by rw [hw]; exact HP34.2); have hp_ : Kd.R Kd.bool 4 w35 w.heap.size (fun _ => True) (.slice (some ⟨go32, 0, none⟩) x4_2.length co16) y182 := (by rw [hw, Ny182.out]; exact HP34.1); clear HP34; have n0_ := zK (hp_); have n1_ := zK (Kd.R_over' (v := (.slice (some ⟨go32, 0, none⟩) x4_2.length co16)) (zr HO_5.out) (Kd.R_typed HO_4.out) (by decide) hg); have n2_ := zK (blk_grown (g := gb168) (o := .cells #[.slice (some ad181) l0_0.length c0_0, .int .i64 a0_1, .slice (some ad179) l0_2.length c0_2] 25 (0, 0)) (zb BK168.out) hg (Kd.R_ne HO_4.out BK168.out (by decide))); have n3_ := zK ((by rw [hw]; exact zL (HB.out) GB32.out : Below w.heap.size w w35)); clear HO_4; clear HO_5; clear BK168; clear HB; have HO_4 := n0_; have HO_5 := n1_; have BK168 := n2_; have HB := n3_; clear n0_ n1_ n2_ n3_; clear hg hw hp_))
                  (try simp only [← hl4_2])
                  go_roundg k2
                  case measure => have := HJ1.out; have := HK2.out; omega
                  case rel => exact ⟨(y182), (wrap64 (x9_2 + 1)), zz, H', ⟨by have := HJ1.out; have := HK2.out; omega⟩, ⟨by (try simp only [hl4_2]); (with_reducible repeat (first | apply zA | apply zB | apply zC)); exact HO_4.out⟩, ⟨by (try simp only [hl4_2]); (with_reducible repeat (first | apply zA | apply zB | apply zC)); exact HO_5.out⟩, ⟨by (try simp only [hl4_2]); (with_reducible repeat (first | refine zD ?_ _ | refine zE ?_ | refine zF ?_ _)); exact BK168.out⟩, ⟨by repeat (first | (with_reducible first | exact HB.out | apply zG | apply zH | apply zI | refine zL ?_ GE168.out) | exact HB.out)⟩⟩
                ·rw [if_neg c29] at H
                 exact absurd H (by simp)
              ·rw [if_neg c25] at H
               exact absurd H (by simp)
             ·rw [if_neg c24] at H
              exact absurd H (by simp)
          ·rw [if_neg c19] at H
           exact absurd H (by simp)
         ·rw [if_neg c18] at H
          have c18b0 : decide (x9_2 < (l0_2.length : Int)) = false := decide_eq_false c18
          clear c18
          have H' := zK H
          clear H
          have hcz36_0 : wr.cell? ⟨gb168, 0, none⟩ = some (.slice A0_0 l0_0.length c0_0) := (zQ BK168.out 0).trans rfl
          have hcz36_1 : wr.cell? ⟨gb168, 1, none⟩ = some (.int .i64 a0_1) := (zQ BK168.out 1).trans rfl
          have hcz36_2 : wr.cell? ⟨gb168, 2, none⟩ = some (.slice A0_2 l0_2.length c0_2) := (zQ BK168.out 2).trans rfl
          have hfz36_0 := zR BK168.out 0
          have hfz36_1 := zR BK168.out 1
          have hfz36_2 := zR BK168.out 2
          go_wp2
          go_loopg [11] k2 (fun kq v11 w' => ∃ (x11_3 : Int), v11 = .int .i64 x11_3 ∧ Aside0 (tollbarref17_All.l1 kq x4_2 t172 x11_3 = some (r1, r2)) ∧ Aside0 (kq ≤ k2) ∧ Aside0 (Kd.R Kd.bool 4 w' w.heap.size (fun _ => True) (.slice Ao16 x4_2.length co16) x4_2) ∧ Aside0 (Kd.R k50 50 w' w.heap.size (fun _ => True) v173 t172) ∧ Aside0 (w'.heap[gb168]? = some (.cells #[(.slice A0_0 l0_0.length c0_0), .int .i64 a0_1, (.slice A0_2 l0_2.length c0_2)] 25 (0, 0))) ∧ Aside0 (Below w.heap.size w w'))
          case atStart => exact ⟨(0), zz, H', ⟨Nat.le_refl _⟩, ⟨by (try simp only [hl4_2]); (with_reducible repeat (first | apply zA | apply zB | apply zC)); exact HO_4.out⟩, ⟨by (try simp only [hl4_2]); (with_reducible repeat (first | apply zA | apply zB | apply zC)); exact HO_5.out⟩, ⟨by (try simp only [hl4_2]); (with_reducible repeat (first | refine zD ?_ _ | refine zE ?_ | refine zF ?_ _)); exact BK168.out⟩, ⟨by repeat (first | (with_reducible first | exact HB.out | apply zG | apply zH | apply zI | refine zL ?_ GE168.out) | exact HB.out)⟩⟩
          case round =>
           clear H'
           try clear c1
           try clear p1
           try clear q1
           try clear hx1
           try clear c2
           try clear p2
           try clear q2
           try clear c3
           try clear p3
           try clear q3
           try clear hx3
           try clear hf3
           try clear c4
           try clear c4b0
           try clear c4b1
           try clear p6
           try clear c7
           try clear c8
           try clear c8b0
           try clear c8b1
           try clear c9
           try clear c9b0
           try clear c9b1
           try clear c11
           try clear c12
           try clear p17
           try clear q17
           try clear hx17
           try clear c18
           try clear c18b0
           try clear p18
           try clear q18
           try clear hx18
           try clear c19
           try clear c19b0
           try clear c20
           try clear c20b0
           try clear c22
           try clear c22b0
           try clear c24
           try clear c24b0
           try clear c25
           try clear c25b0
           try clear q26
           try clear c27
           try clear c29
           try clear c29b0
           try clear c30
           try clear c30b0
           try clear p32
           try clear q32
           try clear hx32
           try clear hf32
           try clear hcz12_0
           try clear hcz12_1
           try clear hcz12_2
           try clear hcz15_0
           try clear hcz15_1
           try clear hcz15_2
           try clear hcz21_0
           try clear hcz21_1
           try clear hcz21_2
           try clear hcz23_0
           try clear hcz23_1
           try clear hcz23_2
           try clear hcz28_0
           try clear hcz28_1
           try clear hcz28_2
           try clear hcz31_0
           try clear hcz31_1
           try clear hcz31_2
           try clear hcz33_0
           try clear hcz33_1
           try clear hcz33_2
           try clear hcz36_0
           try clear hcz36_1
           try clear hcz36_2
           try clear hcz5_0
           try clear hcz5_1
           try clear hcz5_2
           try clear hcz6_0
           try clear hcz6_1
           try clear hcz6_2
           try clear hfz12_0
           try clear hfz12_1
           try clear hfz12_2
           try clear hfz15_0
           try clear hfz15_1
           try clear hfz15_2
           try clear hfz21_0
           try clear hfz21_1
           try clear hfz21_2
           try clear hfz23_0
           try clear hfz23_1
           try clear hfz23_2
           try clear hfz28_0
           try clear hfz28_1
           try clear hfz28_2
           try clear hfz31_0
           try clear hfz31_1
           try clear hfz31_2
           try clear hfz33_0
           try clear hfz33_1
           try clear hfz33_2
           try clear hfz36_0
           try clear hfz36_1
           try clear hfz36_2
           try clear hfz5_0
           try clear hfz5_1
           try clear hfz5_2
           try clear hfz6_0
           try clear hfz6_1
           try clear hfz6_2
           try clear hx179_0
           try clear hx180_0
           try clear hx181_0
           try clear hx181_1
           try clear hx181_2
           try clear hx181_3
           try clear hx181_4
           try clear hx181_5
           try clear hx181_6
           try clear hx32_0
           try clear p179
           try clear p180
           try clear p181
           try clear p2
           try clear p32
           try clear q179
           try clear q180
           try clear q181
           try clear q32
           obtain ⟨x11_3, rfl, HA, HK3, HO_4, HO_5, BK168, HB⟩ := hrel
           cases gk with
           | zero => exact absurd HA.out (by simp [tollbarref17_All.l1])
           | succ k3 =>
            have H := HA.out
            clear HA
            simp only [tollbarref17_All.l1] at H
            by_cases c37 : x11_3 < (x4_2.length : Int)
            ·rw [if_pos c37] at H
             have c37b0 : decide (x11_3 < (x4_2.length : Int)) = true := decide_eq_true c37
             clear c37
             by_cases c38 : 0 ≤ x11_3
             ·rw [if_pos c38] at H
              have c38b0 : decide (0 ≤ x11_3) = true := decide_eq_true c38
              clear c38
              obtain ⟨bq39, hbq39⟩ : ∃ b_ : Bool, b_ = (rdOf false x4_2 x11_3) := ⟨_, rfl⟩
              replace H : (if bq39 = true then (tollbarref17_All.l1 k3 x4_2 t172 (wrap64 (x11_3 + 1))) else (some (([] : List (S50)), false))) = some (r1, r2) := by rw [← hbq39] at H; exact H
              have Nbq39 := zK hbq39
              clear hbq39
              by_cases c40 : bq39 = true
              ·subst c40
               have H1 : (tollbarref17_All.l1 k3 x4_2 t172 (wrap64 (x11_3 + 1))) = some (r1, r2) := by rw [if_pos rfl] at H; exact H
               clear H
               have H := H1
               clear H1
               have H' := zK H
               clear H
               have p183 : 0 ≤ (x11_3 : Int) := of_decide_eq_true (by first | (with_reducible assumption) | assumption)
               have q183 : x11_3 < (x4_2.length : Int) := of_decide_eq_true (by first | (with_reducible assumption) | assumption)
               obtain ⟨ad183, e183, hx183_0⟩ := Kd.at_bool (zX HO_4.out).2.2 x11_3 p183 q183
               (try rw [← Nbq39.out] at hx183_0)
               cases e183
               replace p183 := eq_true p183
               replace q183 := eq_true q183
               go_wp2
               go_roundg k3
               case measure => have := HJ1.out; have := HK2.out; have := HK3.out; omega
               case rel => exact ⟨(wrap64 (x11_3 + 1)), zz, H', ⟨by have := HJ1.out; have := HK2.out; have := HK3.out; omega⟩, ⟨by (try simp only [hl4_2]); (with_reducible repeat (first | apply zA | apply zB | apply zC)); exact HO_4.out⟩, ⟨by (try simp only [hl4_2]); (with_reducible repeat (first | apply zA | apply zB | apply zC)); exact HO_5.out⟩, ⟨by (try simp only [hl4_2]); (with_reducible repeat (first | refine zD ?_ _ | refine zE ?_ | refine zF ?_ _)); exact BK168.out⟩, ⟨by repeat (first | (with_reducible first | exact HB.out | apply zG | apply zH | apply zI | refine zL ?_ GE168.out) | exact HB.out)⟩⟩
              ·replace c40 := Bool.eq_false_iff.mpr c40
               subst c40
               have H1 : (some (([] : List (S50)), false)) = some (r1, r2) := by rw [if_neg (show ¬ (false = true) by decide)] at H; exact H
               clear H
               have H := H1
               clear H1
               simp only [Option.some.injEq, Prod.mk.injEq] at H
               obtain ⟨rfl, rfl⟩ := H
               have p183 : 0 ≤ (x11_3 : Int) := of_decide_eq_true (by first | (with_reducible assumption) | assumption)
               have q183 : x11_3 < (x4_2.length : Int) := of_decide_eq_true (by first | (with_reducible assumption) | assumption)
               obtain ⟨ad183, e183, hx183_0⟩ := Kd.at_bool (zX HO_4.out).2.2 x11_3 p183 q183
               (try rw [← Nbq39.out] at hx183_0)
               cases e183
               replace p183 := eq_true p183
               replace q183 := eq_true q183
               go_wp2
               go_ret2
               exact ⟨_, by first | rfl | (simp [errW_none, errW_some] <;> rfl) | (simp [*, errW_none, errW_some] <;> rfl), by first | exact Kd.R_nil _ _ _ _ _ | exact Kd.N_nil _ _ _ _ _ | exact Kd.V_nil _ _ _ _ _ | exact Kd.Q_nil _ _ _ _ _ | exact Kd.S_nil _ _ _ _ _, zl HB.out⟩
             ·rw [if_neg c38] at H
              exact absurd H (by simp)
            ·rw [if_neg c37] at H
             have c37b0 : decide (x11_3 < (x4_2.length : Int)) = false := decide_eq_false c37
             clear c37
             have H' := zK H
             clear H
             go_wp2
             go_loopg [12] k3 (fun kq v12 w' => ∃ (x12_4 : Int), v12 = .int .i64 x12_4 ∧ Aside0 (tollbarref17_All.l2 kq t172 x12_4 = some (r1, r2)) ∧ Aside0 (kq ≤ k3) ∧ Aside0 (Kd.R k50 50 w' w.heap.size (fun _ => True) v173 t172) ∧ Aside0 (w'.heap[gb168]? = some (.cells #[(.slice A0_0 l0_0.length c0_0), .int .i64 a0_1, (.slice A0_2 l0_2.length c0_2)] 25 (0, 0))) ∧ Aside0 (Below w.heap.size w w'))
             case atStart => exact ⟨(1), zz, H', ⟨Nat.le_refl _⟩, ⟨by (try simp only [hl4_2]); (with_reducible repeat (first | apply zA | apply zB | apply zC)); exact HO_5.out⟩, ⟨by (try simp only [hl4_2]); (with_reducible repeat (first | refine zD ?_ _ | refine zE ?_ | refine zF ?_ _)); exact BK168.out⟩, ⟨by repeat (first | (with_reducible first | exact HB.out | apply zG | apply zH | apply zI | refine zL ?_ GE168.out) | exact HB.out)⟩⟩
             case round =>
              clear H'
              try clear c1
              try clear p1
              try clear q1
              try clear hx1
              try clear c2
              try clear p2
              try clear q2
              try clear c3
              try clear p3
              try clear q3
              try clear hx3
              try clear hf3
              try clear c4
              try clear c4b0
              try clear c4b1
              try clear p6
              try clear c7
              try clear c8
              try clear c8b0
              try clear c8b1
              try clear c9
              try clear c9b0
              try clear c9b1
              try clear c11
              try clear c12
              try clear p17
              try clear q17
              try clear hx17
              try clear c18
              try clear c18b0
              try clear p18
              try clear q18
              try clear hx18
              try clear c19
              try clear c19b0
              try clear c20
              try clear c20b0
              try clear c22
              try clear c22b0
              try clear c24
              try clear c24b0
              try clear c25
              try clear c25b0
              try clear q26
              try clear c27
              try clear c29
              try clear c29b0
              try clear c30
              try clear c30b0
              try clear p32
              try clear q32
              try clear hx32
              try clear hf32
              try clear c37
              try clear c37b0
              try clear c38
              try clear c38b0
              try clear q39
              try clear c40
              try clear hcz12_0
              try clear hcz12_1
              try clear hcz12_2
              try clear hcz15_0
              try clear hcz15_1
              try clear hcz15_2
              try clear hcz21_0
              try clear hcz21_1
              try clear hcz21_2
              try clear hcz23_0
              try clear hcz23_1
              try clear hcz23_2
              try clear hcz28_0
              try clear hcz28_1
              try clear hcz28_2
              try clear hcz31_0
              try clear hcz31_1
              try clear hcz31_2
              try clear hcz33_0
              try clear hcz33_1
              try clear hcz33_2
              try clear hcz36_0
              try clear hcz36_1
              try clear hcz36_2
              try clear hcz5_0
              try clear hcz5_1
              try clear hcz5_2
              try clear hcz6_0
              try clear hcz6_1
              try clear hcz6_2
              try clear hfz12_0
              try clear hfz12_1
              try clear hfz12_2
              try clear hfz15_0
              try clear hfz15_1
              try clear hfz15_2
              try clear hfz21_0
              try clear hfz21_1
              try clear hfz21_2
              try clear hfz23_0
              try clear hfz23_1
              try clear hfz23_2
              try clear hfz28_0
              try clear hfz28_1
              try clear hfz28_2
              try clear hfz31_0
              try clear hfz31_1
              try clear hfz31_2
              try clear hfz33_0
              try clear hfz33_1
              try clear hfz33_2
              try clear hfz36_0
              try clear hfz36_1
              try clear hfz36_2
              try clear hfz5_0
              try clear hfz5_1
              try clear hfz5_2
              try clear hfz6_0
              try clear hfz6_1
              try clear hfz6_2
              try clear hx179_0
              try clear hx180_0
              try clear hx181_0
              try clear hx181_1
              try clear hx181_2
              try clear hx181_3
              try clear hx181_4
              try clear hx181_5
              try clear hx181_6
              try clear hx183_0
              try clear hx32_0
              try clear p1
              try clear p17
              try clear p179
              try clear p18
              try clear p180
              try clear p181
              try clear p183
              try clear p2
              try clear p3
              try clear p32
              try clear p6
              try clear q1
              try clear q17
              try clear q179
              try clear q18
              try clear q180
              try clear q181
              try clear q183
              try clear q2
              try clear q26
              try clear q3
              try clear q32
              obtain ⟨x12_4, rfl, HA, HK4, HO_5, BK168, HB⟩ := hrel
              cases gk with
              | zero => exact absurd HA.out (by simp [tollbarref17_All.l2])
              | succ k4 =>
               have H := HA.out
               clear HA
               simp only [tollbarref17_All.l2] at H
               by_cases c41 : x12_4 < (t172.length : Int)
               ·rw [if_pos c41] at H
                have c41b0 : decide (x12_4 < (t172.length : Int)) = true := decide_eq_true c41
                clear c41
                obtain ⟨ji42, hji42⟩ : ∃ j_ : Int, (wrap64 (x12_4 - 1)) = j_ := ⟨_, rfl⟩
                replace H : (if 0 ≤ (ji42) then (if (ji42) < (t172.length : Int) then (if 0 ≤ x12_4 then ((tollbarref17_Less.f ((rd_T50 t172 (ji42)).f0.f0) ((rd_T50 t172 (ji42)).f0.f1) ((rd_T50 t172 (ji42)).f1) ((rd_T50 t172 x12_4).f0.f0) ((rd_T50 t172 x12_4).f0.f1) ((rd_T50 t172 x12_4).f1)).bind fun t186 => (if t186 = true then (tollbarref17_All.l2 k4 t172 (wrap64 (x12_4 + 1))) else (some (([] : List (S50)), false)))) else (none)) else (none)) else (none)) = some (r1, r2) := by first | (rw [hji42] at H; exact H) | (simp only [hji42] at H ⊢; exact H)
                have hji42w : (IntKind.i64.wrap (x12_4 - 1)) = ji42 := (i64_w _).trans hji42
                by_cases c43 : 0 ≤ (ji42)
                ·rw [if_pos c43] at H
                 have c43b0 : decide (0 ≤ (ji42)) = true := decide_eq_true c43
                 clear c43
                 by_cases c44 : (ji42) < (t172.length : Int)
                 ·rw [if_pos c44] at H
                  have c44b0 : decide ((ji42) < (t172.length : Int)) = true := decide_eq_true c44
                  clear c44
                  by_cases c45 : 0 ≤ x12_4
                  ·rw [if_pos c45] at H
                   have c45b0 : decide (0 ≤ x12_4) = true := decide_eq_true c45
                   clear c45
                   replace H := yH.mp H
                   obtain ⟨t186, A460, H⟩ := H
                   replace H : (if t186 = true then (tollbarref17_All.l2 k4 t172 (wrap64 (x12_4 + 1))) else (some (([] : List (S50)), false))) = some (r1, r2) := H
                   have A46 := zK A460
                   clear A460
                   by_cases c47 : t186 = true
                   ·subst c47
                    have H1 : (tollbarref17_All.l2 k4 t172 (wrap64 (x12_4 + 1))) = some (r1, r2) := by rw [if_pos rfl] at H; exact H
                    clear H
                    have H := H1
                    clear H1
                    have H' := zK H
                    clear H
                    obtain ⟨Ao48, co48, eo48⟩ := yE HO_5.out
                    subst eo48
                    try go_wp2
                    have n0_ := zK (zC HO_5.out)
                    have n1_ := zK (zE BK168.out)
                    have n2_ := zK (zI HB.out)
                    clear HO_5
                    clear BK168
                    clear HB
                    have HO_5 := n0_
                    have BK168 := n1_
                    have HB := n2_
                    clear n0_ n1_ n2_
                    have p184 : 0 ≤ ((ji42) : Int) := of_decide_eq_true (by first | (with_reducible assumption) | assumption)
                    have q184 : (ji42) < (t172.length : Int) := of_decide_eq_true (by first | (with_reducible assumption) | assumption)
                    obtain ⟨ad184, e184, hx184_0, hx184_1, hx184_2⟩ := at_T50 (zX HO_5.out).2.2 (ji42) p184 q184
                    cases e184
                    replace p184 := eq_true p184
                    replace q184 := eq_true q184
                    have p185 : 0 ≤ (x12_4 : Int) := of_decide_eq_true (by first | (with_reducible assumption) | assumption)
                    have q185 : x12_4 < (t172.length : Int) := of_decide_eq_true (by first | (with_reducible assumption) | assumption)
                    obtain ⟨ad185, e185, hx185_0, hx185_1, hx185_2⟩ := at_T50 (zX HO_5.out).2.2 x12_4 p185 q185
                    obtain rfl : ad184 = ad185 := (by injection e185)
                    replace p185 := eq_true p185
                    replace q185 := eq_true q185
                    refine start_ (n := 11) (S := fun w' => w'.cell? (ad184.add (((ji42)).toNat * 3)) = some (.int .i64 ((rd_T50 t172 (ji42)).f0.f0)) ∧ w'.cell? ⟨(ad184.add (((ji42)).toNat * 3)).block, (ad184.add (((ji42)).toNat * 3)).off + 1, none⟩ = some (.int .i64 ((rd_T50 t172 (ji42)).f0.f1)) ∧ w'.cell? ⟨(ad184.add (((ji42)).toNat * 3)).block, (ad184.add (((ji42)).toNat * 3)).off + 2, none⟩ = some (.int .i64 ((rd_T50 t172 (ji42)).f1)) ∧ w'.cell? (ad184.add ((x12_4).toNat * 3)) = some (.int .i64 ((rd_T50 t172 x12_4).f0.f0)) ∧ w'.cell? ⟨(ad184.add ((x12_4).toNat * 3)).block, (ad184.add ((x12_4).toNat * 3)).off + 1, none⟩ = some (.int .i64 ((rd_T50 t172 x12_4).f0.f1)) ∧ w'.cell? ⟨(ad184.add ((x12_4).toNat * 3)).block, (ad184.add ((x12_4).toNat * 3)).off + 2, none⟩ = some (.int .i64 ((rd_T50 t172 x12_4).f1))) (ds := []) #[false, false, false, false, false, false, false, false, false, false, false] (by kernel_rfl) rfl rfl ⟨hx184_0, hx184_1, hx184_2, hx185_0, hx185_1, hx185_2⟩ (fun hHeld => ?_); refine with_tabW tollbarref17_All.tab22 tollbarref17_All.bits22 (fun HT_ HW_ => ?_)
                    generalize wr.drew = w49 at HO_5 BK168 HB hx184_0 hx184_1 hx184_2 hx185_0 hx185_1 hx185_2 hHeld ⊢
                    refine pure_ (i := 0) (N := some 98) (v := ?_) (a' := ?_) #[true, false, false, false, false, false, false, false, false, false, false] rfl rfl (any_of HT_.out (by kernel_rfl)) (fun _ _ _ h => h) (Or.inl ⟨by rfl, ?_⟩) ?_ ?_
                    rotate_left
                    ·intro w'
                     go_simp
                     with_reducible rfl
                    rotate_left
                    ·simp only [Act.put, zY, zZ, yA, i64_w, i32_w]
                     rfl
                    refine pure_ (i := 1) (N := some 99) (v := ?_) (a' := ?_) #[true, true, false, false, false, false, false, false, false, false, false] rfl rfl (any_of HT_.out (by kernel_rfl)) (fun _ _ _ h => h) (Or.inl ⟨by rfl, ?_⟩) ?_ ?_
                    rotate_left
                    ·intro w'
                     go_simp
                     with_reducible rfl
                    rotate_left
                    ·simp only [Act.put, zY, zZ, yA, i64_w, i32_w]
                     rfl
                    refine pure_ (i := 2) (N := some 100) (v := ?_) (a' := ?_) #[true, true, true, false, false, false, false, false, false, false, false] rfl rfl (any_of HT_.out (by kernel_rfl)) (fun _ _ _ h => h) (Or.inl ⟨by rfl, ?_⟩) ?_ ?_
                    rotate_left
                    ·intro w'
                     go_simp
                     with_reducible rfl
                    rotate_left
                    ·simp only [Act.put, zY, zZ, yA, i64_w, i32_w]
                     rfl
                    refine pure_ (i := 3) (N := some 101) (v := ?_) (a' := ?_) #[true, true, true, true, false, false, false, false, false, false, false] rfl rfl (any_of HT_.out (by kernel_rfl)) (fun _ _ _ h => h) (Or.inl ⟨by rfl, ?_⟩) ?_ ?_
                    rotate_left
                    ·intro w'
                     go_simp
                     with_reducible rfl
                    rotate_left
                    ·simp only [Act.put, zY, zZ, yA, i64_w, i32_w]
                     rfl
                    refine pure_ (i := 5) (N := some 103) (v := ?_) (a' := ?_) #[true, true, true, true, false, true, false, false, false, false, false] rfl rfl (any_of HT_.out (by kernel_rfl)) (fun _ _ _ h => h) (Or.inl ⟨by rfl, ?_⟩) ?_ ?_
                    rotate_left
                    ·intro w'
                     go_simp
                     with_reducible rfl
                    rotate_left
                    ·simp only [Act.put, zY, zZ, yA, i64_w, i32_w]
                     rfl
                    refine pure_ (i := 6) (N := some 104) (v := ?_) (a' := ?_) #[true, true, true, true, false, true, true, false, false, false, false] rfl rfl (any_of HT_.out (by kernel_rfl)) (fun _ _ _ h => h) (Or.inl ⟨by rfl, ?_⟩) ?_ ?_
                    rotate_left
                    ·intro w'
                     go_simp
                     with_reducible rfl
                    rotate_left
                    ·simp only [Act.put, zY, zZ, yA, i64_w, i32_w]
                     rfl
                    refine pure_ (i := 7) (N := some 105) (v := ?_) (a' := ?_) #[true, true, true, true, false, true, true, true, false, false, false] rfl rfl (any_of HT_.out (by kernel_rfl)) (fun _ _ _ h => h) (Or.inl ⟨by rfl, ?_⟩) ?_ ?_
                    rotate_left
                    ·intro w'
                     go_simp
                     with_reducible rfl
                    rotate_left
                    ·simp only [Act.put, zY, zZ, yA, i64_w, i32_w]
                     rfl
                    refine take_ (i := 4) (N := some 102) (v := ?_) (a' := ?_) #[true, true, true, true, true, true, true, true, false, false, false] rfl rfl (take_ofW HT_.out HW_.out (by kernel_rfl)) (fun _ _ _ h => h) (Or.inl ⟨by rfl, ?_⟩) hHeld ?_ ?_
                    rotate_left
                    ·rintro w' ⟨s0, s1, s2, s3, s4, s5⟩
                     go_simp
                     with_reducible rfl
                    rotate_left
                    ·simp only [Act.put, zY, zZ, yA, i64_w, i32_w]
                     rfl
                    refine take_ (i := 8) (N := some 106) (v := ?_) (a' := ?_) #[true, true, true, true, true, true, true, true, true, false, false] rfl rfl (take_ofW HT_.out HW_.out (by kernel_rfl)) (fun _ _ _ h => h) (Or.inl ⟨by rfl, ?_⟩) hHeld ?_ ?_
                    rotate_left
                    ·rintro w' ⟨s0, s1, s2, s3, s4, s5⟩
                     go_simp
                     with_reducible rfl
                    rotate_left
                    ·simp only [Act.put, zY, zZ, yA, i64_w, i32_w]
                     rfl
                    refine one_ (i := 9) (N := some 107) #[true, true, true, true, true, true, true, true, true, true, false] rfl rfl (one_of HT_.out (by kernel_rfl)) (by decide) (fun K hK => ?_)
                    refine goes_ Try.func44 (by kernel_rfl) rfl #[.agg #[.int .i64 ((rd_T50 t172 (ji42)).f0.f0), .int .i64 ((rd_T50 t172 (ji42)).f0.f1), .int .i64 ((rd_T50 t172 (ji42)).f1)], .agg #[.int .i64 ((rd_T50 t172 x12_4).f0.f0), .int .i64 ((rd_T50 t172 x12_4).f0.f1), .int .i64 ((rd_T50 t172 x12_4).f1)]] (by rfl) rfl rfl (by (try simp only [List.map_toArray, List.map_cons, List.map_nil]); first | done | (simp only [hji42]; rfl) | rfl | (simp only [List.length_drop, List.length_take]; rfl)) ?_
                    with_reducible refine (tollbarref17_Less.calls ((rd_T50 t172 (ji42)).f0.f0) ((rd_T50 t172 (ji42)).f0.f1) ((rd_T50 t172 (ji42)).f1) ((rd_T50 t172 x12_4).f0.f0) ((rd_T50 t172 x12_4).f0.f1) ((rd_T50 t172 x12_4).f1) true _ A46.out).mono ?_
                    rintro e w50 ⟨rfl, hb⟩
                    have HS0_ := (hb.cell (zJ _ _ (hHeld.1))).trans (hHeld.1)
                    have HS1_ := (hb.cell (zJ _ _ (hHeld.2.1))).trans (hHeld.2.1)
                    have HS2_ := (hb.cell (zJ _ _ (hHeld.2.2.1))).trans (hHeld.2.2.1)
                    have HS3_ := (hb.cell (zJ _ _ (hHeld.2.2.2.1))).trans (hHeld.2.2.2.1)
                    have HS4_ := (hb.cell (zJ _ _ (hHeld.2.2.2.2.1))).trans (hHeld.2.2.2.2.1)
                    have HS5_ := (hb.cell (zJ _ _ (hHeld.2.2.2.2.2))).trans (hHeld.2.2.2.2.2)
                    refine ⟨_, rfl, ?_⟩
                    have n0_ := zK (zO (zr HO_5.out) hb)
                    have n1_ := zK (zP (g := gb168) (o := .cells #[.slice A0_0 l0_0.length c0_0, .int .i64 a0_1, .slice A0_2 l0_2.length c0_2] 25 (0, 0)) (zb BK168.out) hb)
                    have n2_ := zK (yF (zl HB.out) hb)
                    clear HO_5
                    clear BK168
                    clear HB
                    have HO_5 := n0_
                    have BK168 := n1_
                    have HB := n2_
                    clear n0_ n1_ n2_
                    (try clear hb)
                    (try clear hb2)
                    (try clear hk)
                    (try clear hi)
                    refine hK.out _ _ ⟨HS0_, HS1_, HS2_, HS3_, HS4_, HS5_⟩ (fun hHeld => ?_)
                    clear hK K
                    refine norm_ (a' := ?_) ?_ ?_
                    rotate_left
                    ·show Act.put _ (some 107) _ = _
                     simp only [Act.put, zY, zZ, yA, i64_w, i32_w]
                     rfl
                    refine pure_ (i := 10) (N := some 108) (v := ?_) (a' := ?_) #[true, true, true, true, true, true, true, true, true, true, true] rfl rfl (any_of HT_.out (by kernel_rfl)) (fun _ _ _ h => h) (Or.inl ⟨by rfl, ?_⟩) ?_ ?_
                    rotate_left
                    ·intro w'
                     go_simp
                     with_reducible rfl
                    rotate_left
                    ·simp only [Act.put, zY, zZ, yA, i64_w, i32_w]
                     rfl
                    refine done_ (done_of HT_.out (by kernel_rfl)) ?_
                    try go_wp2
                    go_roundg k4
                    case measure => have := HJ1.out; have := HK2.out; have := HK3.out; have := HK4.out; omega
                    case rel => exact ⟨(wrap64 (x12_4 + 1)), zz, H', ⟨by have := HJ1.out; have := HK2.out; have := HK3.out; have := HK4.out; omega⟩, ⟨by (try simp only [hl4_2]); (with_reducible repeat (first | apply zA | apply zB | apply zC)); exact HO_5.out⟩, ⟨by (try simp only [hl4_2]); (with_reducible repeat (first | refine zD ?_ _ | refine zE ?_ | refine zF ?_ _)); exact BK168.out⟩, ⟨by repeat (first | (with_reducible first | exact HB.out | apply zG | apply zH | apply zI | refine zL ?_ GE168.out) | exact HB.out)⟩⟩
                   ·replace c47 := Bool.eq_false_iff.mpr c47
                    subst c47
                    have H1 : (some (([] : List (S50)), false)) = some (r1, r2) := by rw [if_neg (show ¬ (false = true) by decide)] at H; exact H
                    clear H
                    have H := H1
                    clear H1
                    simp only [Option.some.injEq, Prod.mk.injEq] at H
                    obtain ⟨rfl, rfl⟩ := H
                    obtain ⟨Ao51, co51, eo51⟩ := yE HO_5.out
                    subst eo51
                    try go_wp2
                    have n0_ := zK (zC HO_5.out)
                    have n1_ := zK (zE BK168.out)
                    have n2_ := zK (zI HB.out)
                    clear HO_5
                    clear BK168
                    clear HB
                    have HO_5 := n0_
                    have BK168 := n1_
                    have HB := n2_
                    clear n0_ n1_ n2_
                    have p184 : 0 ≤ ((ji42) : Int) := of_decide_eq_true (by first | (with_reducible assumption) | assumption)
                    have q184 : (ji42) < (t172.length : Int) := of_decide_eq_true (by first | (with_reducible assumption) | assumption)
                    obtain ⟨ad184, e184, hx184_0, hx184_1, hx184_2⟩ := at_T50 (zX HO_5.out).2.2 (ji42) p184 q184
                    cases e184
                    replace p184 := eq_true p184
                    replace q184 := eq_true q184
                    have p185 : 0 ≤ (x12_4 : Int) := of_decide_eq_true (by first | (with_reducible assumption) | assumption)
                    have q185 : x12_4 < (t172.length : Int) := of_decide_eq_true (by first | (with_reducible assumption) | assumption)
                    obtain ⟨ad185, e185, hx185_0, hx185_1, hx185_2⟩ := at_T50 (zX HO_5.out).2.2 x12_4 p185 q185
                    obtain rfl : ad184 = ad185 := (by injection e185)
                    replace p185 := eq_true p185
                    replace q185 := eq_true q185
                    refine start_ (n := 11) (S := fun w' => w'.cell? (ad184.add (((ji42)).toNat * 3)) = some (.int .i64 ((rd_T50 t172 (ji42)).f0.f0)) ∧ w'.cell? ⟨(ad184.add (((ji42)).toNat * 3)).block, (ad184.add (((ji42)).toNat * 3)).off + 1, none⟩ = some (.int .i64 ((rd_T50 t172 (ji42)).f0.f1)) ∧ w'.cell? ⟨(ad184.add (((ji42)).toNat * 3)).block, (ad184.add (((ji42)).toNat * 3)).off + 2, none⟩ = some (.int .i64 ((rd_T50 t172 (ji42)).f1)) ∧ w'.cell? (ad184.add ((x12_4).toNat * 3)) = some (.int .i64 ((rd_T50 t172 x12_4).f0.f0)) ∧ w'.cell? ⟨(ad184.add ((x12_4).toNat * 3)).block, (ad184.add ((x12_4).toNat * 3)).off + 1, none⟩ = some (.int .i64 ((rd_T50 t172 x12_4).f0.f1)) ∧ w'.cell? ⟨(ad184.add ((x12_4).toNat * 3)).block, (ad184.add ((x12_4).toNat * 3)).off + 2, none⟩ = some (.int .i64 ((rd_T50 t172 x12_4).f1))) (ds := []) #[false, false, false, false, false, false, false, false, false, false, false] (by kernel_rfl) rfl rfl ⟨hx184_0, hx184_1, hx184_2, hx185_0, hx185_1, hx185_2⟩ (fun hHeld => ?_); refine with_tabW tollbarref17_All.tab22 tollbarref17_All.bits22 (fun HT_ HW_ => ?_)
                    generalize wr.drew = w52 at HO_5 BK168 HB hx184_0 hx184_1 hx184_2 hx185_0 hx185_1 hx185_2 hHeld ⊢
                    refine pure_ (i := 0) (N := some 98) (v := ?_) (a' := ?_) #[true, false, false, false, false, false, false, false, false, false, false] rfl rfl (any_of HT_.out (by kernel_rfl)) (fun _ _ _ h => h) (Or.inl ⟨by rfl, ?_⟩) ?_ ?_
                    rotate_left
                    ·intro w'
                     go_simp
                     with_reducible rfl
                    rotate_left
                    ·simp only [Act.put, zY, zZ, yA, i64_w, i32_w]
                     rfl
                    refine pure_ (i := 1) (N := some 99) (v := ?_) (a' := ?_) #[true, true, false, false, false, false, false, false, false, false, false] rfl rfl (any_of HT_.out (by kernel_rfl)) (fun _ _ _ h => h) (Or.inl ⟨by rfl, ?_⟩) ?_ ?_
                    rotate_left
                    ·intro w'
                     go_simp
                     with_reducible rfl
                    rotate_left
                    ·simp only [Act.put, zY, zZ, yA, i64_w, i32_w]
                     rfl
                    refine pure_ (i := 2) (N := some 100) (v := ?_) (a' := ?_) #[true, true, true, false, false, false, false, false, false, false, false] rfl rfl (any_of HT_.out (by kernel_rfl)) (fun _ _ _ h => h) (Or.inl ⟨by rfl, ?_⟩) ?_ ?_
                    rotate_left
                    ·intro w'
                     go_simp
                     with_reducible rfl
                    rotate_left
                    ·simp only [Act.put, zY, zZ, yA, i64_w, i32_w]
                     rfl
                    refine pure_ (i := 3) (N := some 101) (v := ?_) (a' := ?_) #[true, true, true, true, false, false, false, false, false, false, false] rfl rfl (any_of HT_.out (by kernel_rfl)) (fun _ _ _ h => h) (Or.inl ⟨by rfl, ?_⟩) ?_ ?_
                    rotate_left
                    ·intro w'
                     go_simp
                     with_reducible rfl
                    rotate_left
                    ·simp only [Act.put, zY, zZ, yA, i64_w, i32_w]
                     rfl
                    refine pure_ (i := 5) (N := some 103) (v := ?_) (a' := ?_) #[true, true, true, true, false, true, false, false, false, false, false] rfl rfl (any_of HT_.out (by kernel_rfl)) (fun _ _ _ h => h) (Or.inl ⟨by rfl, ?_⟩) ?_ ?_
                    rotate_left
                    ·intro w'
                     go_simp
                     with_reducible rfl
                    rotate_left
                    ·simp only [Act.put, zY, zZ, yA, i64_w, i32_w]
                     rfl
                    refine pure_ (i := 6) (N := some 104) (v := ?_) (a' := ?_) #[true, true, true, true, false, true, true, false, false, false, false] rfl rfl (any_of HT_.out (by kernel_rfl)) (fun _ _ _ h => h) (Or.inl ⟨by rfl, ?_⟩) ?_ ?_
                    rotate_left
                    ·intro w'
                     go_simp
                     with_reducible rfl
                    rotate_left
                    ·simp only [Act.put, zY, zZ, yA, i64_w, i32_w]
                     rfl
                    refine pure_ (i := 7) (N := some 105) (v := ?_) (a' := ?_) #[true, true, true, true, false, true, true, true, false, false, false] rfl rfl (any_of HT_.out (by kernel_rfl)) (fun _ _ _ h => h) (Or.inl ⟨by rfl, ?_⟩) ?_ ?_
                    rotate_left
                    ·intro w'
                     go_simp
                     with_reducible rfl
                    rotate_left
                    ·simp only [Act.put, zY, zZ, yA, i64_w, i32_w]
                     rfl
                    refine take_ (i := 4) (N := some 102) (v := ?_) (a' := ?_) #[true, true, true, true, true, true, true, true, false, false, false] rfl rfl (take_ofW HT_.out HW_.out (by kernel_rfl)) (fun _ _ _ h => h) (Or.inl ⟨by rfl, ?_⟩) hHeld ?_ ?_
                    rotate_left
                    ·rintro w' ⟨s0, s1, s2, s3, s4, s5⟩
                     go_simp
                     with_reducible rfl
                    rotate_left
                    ·simp only [Act.put, zY, zZ, yA, i64_w, i32_w]
                     rfl
                    refine take_ (i := 8) (N := some 106) (v := ?_) (a' := ?_) #[true, true, true, true, true, true, true, true, true, false, false] rfl rfl (take_ofW HT_.out HW_.out (by kernel_rfl)) (fun _ _ _ h => h) (Or.inl ⟨by rfl, ?_⟩) hHeld ?_ ?_
                    rotate_left
                    ·rintro w' ⟨s0, s1, s2, s3, s4, s5⟩
                     go_simp
                     with_reducible rfl
                    rotate_left
                    ·simp only [Act.put, zY, zZ, yA, i64_w, i32_w]
                     rfl
                    refine one_ (i := 9) (N := some 107) #[true, true, true, true, true, true, true, true, true, true, false] rfl rfl (one_of HT_.out (by kernel_rfl)) (by decide) (fun K hK => ?_)
                    refine goes_ Try.func44 (by kernel_rfl) rfl #[.agg #[.int .i64 ((rd_T50 t172 (ji42)).f0.f0), .int .i64 ((rd_T50 t172 (ji42)).f0.f1), .int .i64 ((rd_T50 t172 (ji42)).f1)], .agg #[.int .i64 ((rd_T50 t172 x12_4).f0.f0), .int .i64 ((rd_T50 t172 x12_4).f0.f1), .int .i64 ((rd_T50 t172 x12_4).f1)]] (by rfl) rfl rfl (by (try simp only [List.map_toArray, List.map_cons, List.map_nil]); first | done | (simp only [hji42]; rfl) | rfl | (simp only [List.length_drop, List.length_take]; rfl)) ?_
                    with_reducible refine (tollbarref17_Less.calls ((rd_T50 t172 (ji42)).f0.f0) ((rd_T50 t172 (ji42)).f0.f1) ((rd_T50 t172 (ji42)).f1) ((rd_T50 t172 x12_4).f0.f0) ((rd_T50 t172 x12_4).f0.f1) ((rd_T50 t172 x12_4).f1) false _ A46.out).mono ?_
                    rintro e w53 ⟨rfl, hb⟩
                    have HS0_ := (hb.cell (zJ _ _ (hHeld.1))).trans (hHeld.1)
                    have HS1_ := (hb.cell (zJ _ _ (hHeld.2.1))).trans (hHeld.2.1)
                    have HS2_ := (hb.cell (zJ _ _ (hHeld.2.2.1))).trans (hHeld.2.2.1)
                    have HS3_ := (hb.cell (zJ _ _ (hHeld.2.2.2.1))).trans (hHeld.2.2.2.1)
                    have HS4_ := (hb.cell (zJ _ _ (hHeld.2.2.2.2.1))).trans (hHeld.2.2.2.2.1)
                    have HS5_ := (hb.cell (zJ _ _ (hHeld.2.2.2.2.2))).trans (hHeld.2.2.2.2.2)
                    refine ⟨_, rfl, ?_⟩
                    have n0_ := zK (zO (zr HO_5.out) hb)
                    have n1_ := zK (zP (g := gb168) (o := .cells #[.slice A0_0 l0_0.length c0_0, .int .i64 a0_1, .slice A0_2 l0_2.length c0_2] 25 (0, 0)) (zb BK168.out) hb)
                    have n2_ := zK (yF (zl HB.out) hb)
                    clear HO_5
                    clear BK168
                    clear HB
                    have HO_5 := n0_
                    have BK168 := n1_
                    have HB := n2_
                    clear n0_ n1_ n2_
                    (try clear hb)
                    (try clear hb2)
                    (try clear hk)
                    (try clear hi)
                    refine hK.out _ _ ⟨HS0_, HS1_, HS2_, HS3_, HS4_, HS5_⟩ (fun hHeld => ?_)
                    clear hK K
                    refine norm_ (a' := ?_) ?_ ?_
                    rotate_left
                    ·show Act.put _ (some 107) _ = _
                     simp only [Act.put, zY, zZ, yA, i64_w, i32_w]
                     rfl
                    refine pure_ (i := 10) (N := some 108) (v := ?_) (a' := ?_) #[true, true, true, true, true, true, true, true, true, true, true] rfl rfl (any_of HT_.out (by kernel_rfl)) (fun _ _ _ h => h) (Or.inl ⟨by rfl, ?_⟩) ?_ ?_
                    rotate_left
                    ·intro w'
                     go_simp
                     with_reducible rfl
                    rotate_left
                    ·simp only [Act.put, zY, zZ, yA, i64_w, i32_w]
                     rfl
                    refine done_ (done_of HT_.out (by kernel_rfl)) ?_
                    try go_wp2
                    go_ret2
                    exact ⟨_, by first | rfl | (simp [errW_none, errW_some] <;> rfl) | (simp only [← hji42]; first | rfl | (simp [errW_none, errW_some] <;> rfl)) | (simp [*, errW_none, errW_some] <;> rfl), by first | exact Kd.R_nil _ _ _ _ _ | exact Kd.N_nil _ _ _ _ _ | exact Kd.V_nil _ _ _ _ _ | exact Kd.Q_nil _ _ _ _ _ | exact Kd.S_nil _ _ _ _ _, zl HB.out⟩
                  ·rw [if_neg c45] at H
                   exact absurd H (by simp)
                 ·rw [if_neg c44] at H
                  exact absurd H (by simp)
                ·rw [if_neg c43] at H
                 exact absurd H (by simp)
               ·rw [if_neg c41] at H
                have c41b0 : decide (x12_4 < (t172.length : Int)) = false := decide_eq_false c41
                clear c41
                simp only [Option.some.injEq, Prod.mk.injEq] at H
                obtain ⟨rfl, rfl⟩ := H
                obtain ⟨Ao54, co54, eo54⟩ := yE HO_5.out
                subst eo54
                go_wp2
                go_ret2
                exact ⟨_, by first | rfl | (simp [errW_none, errW_some] <;> rfl) | (simp [*, errW_none, errW_some] <;> rfl), by (with_reducible repeat (first | apply zA | apply zB | apply zC)); exact HO_5.out, zl HB.out⟩
      ·replace c11 := Bool.eq_false_iff.mpr c11
       subst c11
       have H1 : (some (([] : List (S50)), false)) = some (r1, r2) := by rw [if_neg (show ¬ (false = true) by decide)] at H; exact H
       clear H
       have H := H1
       clear H1
       simp only [Option.some.injEq, Prod.mk.injEq] at H
       obtain ⟨rfl, rfl⟩ := H
       have hcz55_0 : wc.cell? ⟨gb168, 0, none⟩ = some (.slice A0_0 l0_0.length c0_0) := (zQ BK168.out 0).trans rfl
       have hcz55_1 : wc.cell? ⟨gb168, 1, none⟩ = some (.int .i64 a0_1) := (zQ BK168.out 1).trans rfl
       have hcz55_2 : wc.cell? ⟨gb168, 2, none⟩ = some (.slice A0_2 l0_2.length c0_2) := (zQ BK168.out 2).trans rfl
       have hfz55_0 := zR BK168.out 0
       have hfz55_1 := zR BK168.out 1
       have hfz55_2 := zR BK168.out 2
       go_wp2_with (first | ((with_reducible refine gate_dst (N := 29) rfl ?_); (try (refine gate_guard (by rfl) ?_; dsimp only)); refine Kd.R_make Kd.bool _ 4 rfl (N := 29) rfl 86 _ _ rfl (l0_0.length : Int) rfl rfl Try.underlying86 (.bool false) 1 info4 rfl (by decide) (by omega) false (ok := fun _ => True) (okp := fun _ => True) rfl (fun _ hk => hk) trivial (of_decide_eq_true (by first | (with_reducible assumption) | assumption)) (Nat.le_trans (Nat.mul_le_mul_right _ (of_decide_eq_true (by first | (with_reducible assumption) | assumption) : (l0_0.length : Int).toNat ≤ 281474976710656)) (by omega)) (Below.refl _ _) (Nat.le_refl _) ?_; intro v170 w56 ho57 hb hg_ hnew_; clear hg_ hnew_; (first | rw [← Ny169.out] at ho57 | (simp only [Int.reduceToNat] at ho57; rw [← Ny169.out] at ho57)); have n0_ := zK (zV ho57 (yG (zl HB.out))); have n1_ := zK (zP (g := gb168) (o := .cells #[.slice A0_0 l0_0.length c0_0, .int .i64 a0_1, .slice A0_2 l0_2.length c0_2] 25 (0, 0)) (zb BK168.out) hb); have n2_ := zK (yF (zl HB.out) hb); clear BK168; clear HB; have HO171 := n0_; have BK168 := n1_; have HB := n2_; clear n0_ n1_ n2_; clear hb ho57; have hcz58_0 : w56.cell? ⟨gb168, 0, none⟩ = some (.slice A0_0 l0_0.length c0_0) := (zQ BK168.out 0).trans rfl; have hcz58_1 : w56.cell? ⟨gb168, 1, none⟩ = some (.int .i64 a0_1) := (zQ BK168.out 1).trans rfl; have hcz58_2 : w56.cell? ⟨gb168, 2, none⟩ = some (.slice A0_2 l0_2.length c0_2) := (zQ BK168.out 2).trans rfl; have hfz58_0 := zR BK168.out 0; have hfz58_1 := zR BK168.out 1; have hfz58_2 := zR BK168.out 2; obtain ⟨Ao59, co59, eo59⟩ := yE HO171.out; subst eo59) | ((with_reducible refine gate_callee (f := 43) rfl ?_); refine goesL_ (some 35) rfl rfl Try.func43 (by kernel_rfl) rfl #[.agg #[.slice A0_0 l0_0.length c0_0, .int .i64 a0_1, .slice A0_2 l0_2.length c0_2], .int .i64 a0_1, .slice Ao59 y169.length co59] rfl zt ?_; (with_reducible refine (tollbarref17_hung.calls kj1 _ _ l0_0 a0_1 _ _ l0_2 a0_1 (fun k_ => some k_ = (.slice Ao59 y169.length co59 : Value).ownBlock) (.slice Ao59 y169.length co59) y169 t172 t175 t176 false t178 w _ ?side1 ?side2 ?side3 ?side4 ?side5 ?side6 A10.out).mono ?_); (case side1 => repeat (first | (with_reducible first | exact HB.out | apply zG | apply zH | apply zI | refine zL ?_ GE168.out) | exact HB.out)); (case side2 => exact Kd.C_kept_came k64_heap HR0_0.out (zl HB.out) (fun k_ hs_ => (fun e_ => Kd.R_base HO171.out k_ e_.symm) hs_)); (case side3 => exact HC0_0.out); (case side4 => exact Kd.C_kept_came (Kd.heap_int .i64) HR0_2.out (zl HB.out) (fun k_ hs_ => (fun e_ => Kd.R_base HO171.out k_ e_.symm) hs_)); (case side5 => exact HC0_2.out); (case side6 => exact Kd.R_tight rfl HO171.out); rintro e w60 ⟨v173, rfl, ho0, hy0, hb, hkp⟩; refine ⟨_, rfl, ?_⟩; have n0_ := zK (blk_kept (zb BK168.out) hkp (fun hs_ => (fun e_ => (Kd.R_ne HO171.out BK168.out (by decide)) e_) hs_)); have n1_ := zK (Kd.R_reok rfl hy0 (fun k_ e_ => HO171.out.1 k_ e_)); have n2_ := zK (Kd.R_mono (ok' := fun k_ => True) ho0 (fun k_ hk_ => trivial)); have n3_ := zK (hb); clear BK168; clear HO171; clear HB; have BK168 := n0_; have HO171 := n1_; have HO174 := n2_; have HB := n3_; clear n0_ n1_ n2_ n3_; (try clear hb); (try clear hkp); (try clear ho0); (try clear hy0)))
       go_ret2
       exact ⟨_, by first | rfl | (simp [errW_none, errW_some] <;> rfl) | (simp [*, errW_none, errW_some] <;> rfl), by first | exact Kd.R_nil _ _ _ _ _ | exact Kd.N_nil _ _ _ _ _ | exact Kd.V_nil _ _ _ _ _ | exact Kd.Q_nil _ _ _ _ _ | exact Kd.S_nil _ _ _ _ _, zl HB.out⟩
     ·rw [if_neg c9] at H
      exact absurd H (by simp)
    ·rw [if_neg c8] at H
     exact absurd H (by simp)
end Go.Proofs.Ytgkjpffbgnljeaa.QA
-- written by this session's program mprint.py: functions of the Go program, and their contracts
namespace Go.Proofs.Ytgkjpffbgnljeaa.QA
open Go.RowKit Go.Proofs.Ytgkjpffbgnljeaa.Au Go.Proofs.Ytgkjpffbgnljeaa.QT  Go.Proofs.YtgkjpffbgnljeaaW.PrintWords Go.Proofs.YtgkjpffbgnljeaaW.PrintLast Go.Proofs.YtgkjpffbgnljeaaW.PrintMore
attribute [local go_sem] max2_int min2_int max_two min_two max_three min_three max_four min_four
set_option linter.unusedVariables false
set_option linter.unusedSimpArgs false
attribute [local go_sem high] eqA50
def tollbarref17_There.l0 : Nat → List (S50) → Int → Int → Int → Int → Option (Bool)
 | 0, _, _, _, _, _ => none
 | k + 1, x0, x5, xqc, xqd, xqe => if x5 < (x0.length : Int) then (if 0 ≤ x5 then (if ((((rd_T50 x0 x5).f0.f0) == xqc && (((rd_T50 x0 x5).f0.f1) == xqd)) && (((rd_T50 x0 x5).f1) == xqe)) = true then (some true) else (tollbarref17_There.l0 k x0 (wrap64 (x5 + 1)) xqc xqd xqe)) else (none)) else (some false)
def tollbarref17_There.f (k : Nat) (l0 : List (S50)) (a1_0 : Int) (a1_1 : Int) (a1_2 : Int) : Option (Bool) := tollbarref17_There.l0 k l0 0 a1_0 a1_1 a1_2
set_option maxHeartbeats 8000000 in
set_option maxRecDepth 100000 in
theorem tollbarref17_There.calls (k : Nat) (A0 : Option Addr) (c0 : Nat) (l0 : List (S50)) (a1_0 : Int) (a1_1 : Int) (a1_2 : Int) (r : Bool) (w : World) (hr0 : Kd.C k50 w A0 l0.length l0) (hc0 : l0.length ≤ c0) (h : tollbarref17_There.f k l0 a1_0 a1_1 a1_2 = some r) :
  Calls Try.prog 31 #[.slice A0 l0.length c0, .agg #[.int .i64 a1_0, .int .i64 a1_1, .int .i64 a1_2]] w fun e w' => e = .returned (.bool r) ∧ Below w.heap.size w w' := by
 have hu50 := Try.underlying50
 have HR0 := zK hr0
 have HC0 := zK hc0
 clear hr0 hc0
 have HB := zK (Below.refl w.heap.size w)
 have H : (tollbarref17_There.l0 k l0 0 a1_0 a1_1 a1_2) = some r := h
 clear h
 have H' := zK H
 clear H
 go_enter Try.func31, Try.ntmps31
 go_wp2_with (first | ((with_reducible refine gate_dst (N := 3) rfl ?_); refine box_event ?hg (N := 3) ?hd (cs := #[.int .i64 a1_0, .int .i64 a1_1, .int .i64 a1_2]) (t := 50) ?hr ?_; (case hd => rfl); (case hg => rfl); (case hr => first | (go_simp; done) | (go_simp; rfl)); intro gb267 hg w3 hbox hb; have n0_ := zK (yF (zl HB.out) hb); have n1_ := zK (hbox); have n2_ := zK ((by rw [hg]; exact (yG (zl HB.out)) : w.heap.size ≤ gb267)); have n3_ := zK ((by rw [hg]; exact (yG (zl HB.out)) : w.heap.size ≤ gb267)); clear HB; have HB := n0_; have BK267 := n1_; have GW267 := n2_; have GE267 := n3_; clear n0_ n1_ n2_ n3_; clear hb hbox hg))
 repeat (go_quiet (first | ((with_reducible refine gate_dst (N := 3) rfl ?_); refine box_event ?hg (N := 3) ?hd (cs := #[.int .i64 a1_0, .int .i64 a1_1, .int .i64 a1_2]) (t := 50) ?hr ?_; (case hd => rfl); (case hg => rfl); (case hr => first | (go_simp; done) | (go_simp; rfl)); intro gb267 hg w3 hbox hb; have n0_ := zK (yF (zl HB.out) hb); have n1_ := zK (hbox); have n2_ := zK ((by rw [hg]; exact (yG (zl HB.out)) : w.heap.size ≤ gb267)); have n3_ := zK ((by rw [hg]; exact (yG (zl HB.out)) : w.heap.size ≤ gb267)); clear HB; have HB := n0_; have BK267 := n1_; have GW267 := n2_; have GE267 := n3_; clear n0_ n1_ n2_ n3_; clear hb hbox hg)); try go_wp2_with (first | ((with_reducible refine gate_dst (N := 3) rfl ?_); refine box_event ?hg (N := 3) ?hd (cs := #[.int .i64 a1_0, .int .i64 a1_1, .int .i64 a1_2]) (t := 50) ?hr ?_; (case hd => rfl); (case hg => rfl); (case hr => first | (go_simp; done) | (go_simp; rfl)); intro gb267 hg w3 hbox hb; have n0_ := zK (yF (zl HB.out) hb); have n1_ := zK (hbox); have n2_ := zK ((by rw [hg]; exact (yG (zl HB.out)) : w.heap.size ≤ gb267)); have n3_ := zK ((by rw [hg]; exact (yG (zl HB.out)) : w.heap.size ≤ gb267)); clear HB; have HB := n0_; have BK267 := n1_; have GW267 := n2_; have GE267 := n3_; clear n0_ n1_ n2_ n3_; clear hb hbox hg)))
 go_loopg [5] k (fun kq v5 w' => ∃ (x5_1 : Int), v5 = .int .i64 x5_1 ∧ Aside0 (tollbarref17_There.l0 kq l0 x5_1 a1_0 a1_1 a1_2 = some r) ∧ Aside0 (kq ≤ k) ∧ Aside0 (w'.heap[gb267]? = some (.cells #[.int .i64 a1_0, .int .i64 a1_1, .int .i64 a1_2] 50 (0, 0))) ∧ Aside0 (Below w.heap.size w w'))
 case atStart => exact ⟨(0), zz, H', ⟨Nat.le_refl _⟩, ⟨by (with_reducible repeat (first | refine zD ?_ _ | refine zE ?_ | refine zF ?_ _)); exact BK267.out⟩, ⟨by repeat (first | (with_reducible first | exact HB.out | apply zG | apply zH | apply zI | refine zL ?_ GE267.out) | exact HB.out)⟩⟩
 case round =>
  clear H'
  try clear p2
  try clear c3
  obtain ⟨x5_1, rfl, HA, HK1, BK267, HB⟩ := hrel
  cases gk with
  | zero => exact absurd HA.out (by simp [tollbarref17_There.l0])
  | succ k1 =>
   have H := HA.out
   clear HA
   simp only [tollbarref17_There.l0] at H
   by_cases c4 : x5_1 < (l0.length : Int)
   ·rw [if_pos c4] at H
    have c4b0 : decide (x5_1 < (l0.length : Int)) = true := decide_eq_true c4
    clear c4
    by_cases c5 : 0 ≤ x5_1
    ·rw [if_pos c5] at H
     have c5b0 : decide (0 ≤ x5_1) = true := decide_eq_true c5
     clear c5
     by_cases c6 : ((((rd_T50 l0 x5_1).f0.f0) == a1_0 && (((rd_T50 l0 x5_1).f0.f1) == a1_1)) && (((rd_T50 l0 x5_1).f1) == a1_2)) = true
     ·rw [if_pos c6] at H
      have c6b0 : ((((rd_T50 l0 x5_1).f0.f0) == a1_0 && (((rd_T50 l0 x5_1).f0.f1) == a1_1)) && (((rd_T50 l0 x5_1).f1) == a1_2)) = true := c6
      clear c6
      obtain rfl := Option.some.inj H
      have p268 : 0 ≤ (x5_1 : Int) := of_decide_eq_true (by first | (with_reducible assumption) | assumption)
      have q268 : x5_1 < (l0.length : Int) := of_decide_eq_true (by first | (with_reducible assumption) | assumption)
      obtain ⟨ad268, e268, hx268_0, hx268_1, hx268_2⟩ := at_T50 HR0.out x5_1 p268 q268
      cases e268
      replace hx268_0 := (HB.out.cell (zJ w _ hx268_0)).trans hx268_0
      replace hx268_1 := (HB.out.cell (zJ w _ hx268_1)).trans hx268_1
      replace hx268_2 := (HB.out.cell (zJ w _ hx268_2)).trans hx268_2
      replace p268 := eq_true p268
      replace q268 := eq_true q268
      have hcz7_0 : wr.cell? ⟨gb267, 0, none⟩ = some (.int .i64 a1_0) := (zQ BK267.out 0).trans rfl
      have hcz7_1 : wr.cell? ⟨gb267, 1, none⟩ = some (.int .i64 a1_1) := (zQ BK267.out 1).trans rfl
      have hcz7_2 : wr.cell? ⟨gb267, 2, none⟩ = some (.int .i64 a1_2) := (zQ BK267.out 2).trans rfl
      have hfz7_0 := zR BK267.out 0
      have hfz7_1 := zR BK267.out 1
      have hfz7_2 := zR BK267.out 2
      go_wp2
      repeat (go_quiet (fail); try go_wp2)
      go_ret
      exact ⟨ze, zl HB.out⟩
     ·rw [if_neg c6] at H
      have c6b0 : ((((rd_T50 l0 x5_1).f0.f0) == a1_0 && (((rd_T50 l0 x5_1).f0.f1) == a1_1)) && (((rd_T50 l0 x5_1).f1) == a1_2)) = false := by simpa using c6
      clear c6
      have H' := zK H
      clear H
      have p268 : 0 ≤ (x5_1 : Int) := of_decide_eq_true (by first | (with_reducible assumption) | assumption)
      have q268 : x5_1 < (l0.length : Int) := of_decide_eq_true (by first | (with_reducible assumption) | assumption)
      obtain ⟨ad268, e268, hx268_0, hx268_1, hx268_2⟩ := at_T50 HR0.out x5_1 p268 q268
      cases e268
      replace hx268_0 := (HB.out.cell (zJ w _ hx268_0)).trans hx268_0
      replace hx268_1 := (HB.out.cell (zJ w _ hx268_1)).trans hx268_1
      replace hx268_2 := (HB.out.cell (zJ w _ hx268_2)).trans hx268_2
      replace p268 := eq_true p268
      replace q268 := eq_true q268
      have hcz8_0 : wr.cell? ⟨gb267, 0, none⟩ = some (.int .i64 a1_0) := (zQ BK267.out 0).trans rfl
      have hcz8_1 : wr.cell? ⟨gb267, 1, none⟩ = some (.int .i64 a1_1) := (zQ BK267.out 1).trans rfl
      have hcz8_2 : wr.cell? ⟨gb267, 2, none⟩ = some (.int .i64 a1_2) := (zQ BK267.out 2).trans rfl
      have hfz8_0 := zR BK267.out 0
      have hfz8_1 := zR BK267.out 1
      have hfz8_2 := zR BK267.out 2
      go_wp2
      repeat (go_quiet (fail); try go_wp2)
      go_roundg k1
      case measure => have := HK1.out; omega
      case rel => exact ⟨(wrap64 (x5_1 + 1)), zz, H', ⟨by have := HK1.out; omega⟩, ⟨by (with_reducible repeat (first | refine zD ?_ _ | refine zE ?_ | refine zF ?_ _)); exact BK267.out⟩, ⟨by repeat (first | (with_reducible first | exact HB.out | apply zG | apply zH | apply zI | refine zL ?_ GE267.out) | exact HB.out)⟩⟩
    ·rw [if_neg c5] at H
     exact absurd H (by simp)
   ·rw [if_neg c4] at H
    have c4b0 : decide (x5_1 < (l0.length : Int)) = false := decide_eq_false c4
    clear c4
    obtain rfl := Option.some.inj H
    go_wp2
    repeat (go_quiet (fail); try go_wp2)
    go_ret
    exact ⟨ze, zl HB.out⟩
end Go.Proofs.Ytgkjpffbgnljeaa.QA
