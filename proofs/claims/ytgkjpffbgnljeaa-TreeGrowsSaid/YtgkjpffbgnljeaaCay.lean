/- Texts of this claim laid together: QA1, QA2, QA3, QA5, QA7, TreeA, TreeM, TreeB, Shelf, Later, TreeC, TreeD, TreeE, TreeF, TreeG, TreeH, TreeI, TreeJ, TreeK. -/
import Derived.Test.YtgkjpffbgnljeaaCax
import Derived.Lib.Hide
import Derived.Shelf.Sort.Plain
import Derived.Shelf.Slices.SearchI
import Derived.Shelf.Slices.Cells
import Derived.Shelf.Slices.In.SortNone
import Derived.WalkSmall
import Derived.StillTailTactics
-- written by this session's program mprint.py: functions of the Go program, and their contracts
namespace Go.Proofs.Ytgkjpffbgnljeaa.QA
open Go.RowKit Go.Proofs.Ytgkjpffbgnljeaa.QT  Go.Proofs.YtgkjpffbgnljeaaW.PrintWords Go.Proofs.YtgkjpffbgnljeaaW.PrintLast Go.Proofs.YtgkjpffbgnljeaaW.PrintMore
attribute [local go_sem] max2_int min2_int max_two min_two max_three min_three max_four min_four
set_option linter.unusedVariables false
set_option linter.unusedSimpArgs false
theorem eqA50 (d : Nat) (w : World) (x0 y0 : Int) (x1 y1 : Int) (x2 y2 : Int) :
  (Op.equalIn (d + 3) 50 (.agg #[.int .i64 x0, .int .i64 x1, .int .i64 x2]) (.agg #[.int .i64 y0, .int .i64 y1, .int .i64 y2])).run Try.prog w = .ok ((x0 == y0 && (x1 == y1)) && (x2 == y2)) w := by
 refine eqA_of Try.underlying50 (by kernel_rfl) ?_
 refine eqf_cons (by rfl) (by go_simp) (by go_simp) (eqA27 (d + 0) w _ _ _ _) ?_
 exact eqf_last (by rfl) (by go_simp; rfl) (by go_simp; rfl) (by go_simp)
end Go.Proofs.Ytgkjpffbgnljeaa.QA
-- written by this session's program mprint.py: functions of the Go program, and their contracts
namespace Go.Proofs.Ytgkjpffbgnljeaa.QA
open Go.RowKit Go.Proofs.Ytgkjpffbgnljeaa.QT  Go.Proofs.YtgkjpffbgnljeaaW.PrintWords Go.Proofs.YtgkjpffbgnljeaaW.PrintLast Go.Proofs.YtgkjpffbgnljeaaW.PrintMore
attribute [local go_sem] max2_int min2_int max_two min_two max_three min_three max_four min_four
set_option linter.unusedVariables false
set_option linter.unusedSimpArgs false
theorem eqA64 (d : Nat) (w : World) (x0 y0 : Int) (x1 y1 : Int) (x2 y2 : Int) (x3 y3 : Int) (x4 y4 : Int) (x5 y5 : Int) (x6 y6 : Int) :
  (Op.equalIn (d + 4) 64 (.agg #[.int .i64 x0, .int .i64 x1, .int .i64 x2, .int .i64 x3, .int .i64 x4, .int .i64 x5, .int .i64 x6]) (.agg #[.int .i64 y0, .int .i64 y1, .int .i64 y2, .int .i64 y3, .int .i64 y4, .int .i64 y5, .int .i64 y6])).run Try.prog w = .ok (((x0 == y0 && (x1 == y1)) && (x2 == y2)) && (x3 == y3 && (x4 == y4 && (x5 == y5 && (x6 == y6))))) w := by
 refine eqA_of Try.underlying64 (by kernel_rfl) ?_
 refine eqf_cons (by rfl) (by go_simp) (by go_simp) (eqA50 (d + 0) w _ _ _ _ _ _) ?_
 refine eqf_cons (by rfl) (by go_simp; rfl) (by go_simp; rfl) (by go_simp) ?_
 refine eqf_cons (by rfl) (by go_simp; rfl) (by go_simp; rfl) (by go_simp) ?_
 refine eqf_cons (by rfl) (by go_simp; rfl) (by go_simp; rfl) (by go_simp) ?_
 exact eqf_last (by rfl) (by go_simp; rfl) (by go_simp; rfl) (by go_simp)
end Go.Proofs.Ytgkjpffbgnljeaa.QA
-- written by this session's program mprint.py: functions of the Go program, and their contracts
namespace Go.Proofs.Ytgkjpffbgnljeaa.QA
open Go.RowKit Go.Proofs.Ytgkjpffbgnljeaa.Au Go.Proofs.Ytgkjpffbgnljeaa.QT  Go.Proofs.YtgkjpffbgnljeaaW.PrintWords Go.Proofs.YtgkjpffbgnljeaaW.PrintLast Go.Proofs.YtgkjpffbgnljeaaW.PrintMore
attribute [local go_sem] max2_int min2_int max_two min_two max_three min_three max_four min_four
set_option linter.unusedVariables false
set_option linter.unusedSimpArgs false
def tollbarref1_SpanMay.f (a0_0 : Int) (a0_1 : Int) : Option (Bool) := if a0_0 ≥ 0 then (if a0_0 < a0_1 then (some (decide (a0_1 ≤ 4096))) else (some false)) else (some false)
set_option maxHeartbeats 8000000 in
set_option maxRecDepth 100000 in
theorem tollbarref1_SpanMay.calls (a0_0 : Int) (a0_1 : Int) (r : Bool) (w : World) (h : tollbarref1_SpanMay.f a0_0 a0_1 = some r) :
  Calls Try.prog 22 #[.agg #[.int .i64 a0_0, .int .i64 a0_1]] w fun e w' => e = .returned (.bool r) ∧ Below w.heap.size w w' := by
 have hu27 := Try.underlying27
 have HB := zK (Below.refl w.heap.size w)
 have H : (if a0_0 ≥ 0 then (if a0_0 < a0_1 then (some (decide (a0_1 ≤ 4096))) else (some false)) else (some false)) = some r := h
 clear h
 by_cases c2 : a0_0 ≥ 0
 ·rw [if_pos c2] at H
  have c2b0 : decide (0 ≤ a0_0) = true := decide_eq_true c2
  clear c2
  by_cases c3 : a0_0 < a0_1
  ·rw [if_pos c3] at H
   have c3b0 : decide (a0_0 < a0_1) = true := decide_eq_true c3
   clear c3
   obtain rfl := Option.some.inj H
   go_enter Try.func22, Try.ntmps22
   go_wp2_with (first | ((with_reducible refine gate_dst (N := 1) rfl ?_); refine box_event ?hg (N := 1) ?hd (cs := #[.int .i64 a0_0, .int .i64 a0_1]) (t := 27) ?hr ?_; (case hd => rfl); (case hg => rfl); (case hr => first | (go_simp; done) | (go_simp; rfl)); intro gb118 hg w4 hbox hb; have n0_ := zK (yF (zl HB.out) hb); have n1_ := zK (hbox); have n2_ := zK ((by rw [hg]; exact (yG (zl HB.out)) : w.heap.size ≤ gb118)); have n3_ := zK ((by rw [hg]; exact (yG (zl HB.out)) : w.heap.size ≤ gb118)); clear HB; have HB := n0_; have BK118 := n1_; have GW118 := n2_; have GE118 := n3_; clear n0_ n1_ n2_ n3_; clear hb hbox hg; have hcz5_0 : w4.cell? ⟨gb118, 0, none⟩ = some (.int .i64 a0_0) := (zQ BK118.out 0).trans rfl; have hcz5_1 : w4.cell? ⟨gb118, 1, none⟩ = some (.int .i64 a0_1) := (zQ BK118.out 1).trans rfl; have hfz5_0 := zR BK118.out 0; have hfz5_1 := zR BK118.out 1))
   go_ret
   exact ⟨ze, zl HB.out⟩
  ·rw [if_neg c3] at H
   have c3b0 : decide (a0_0 < a0_1) = false := decide_eq_false c3
   clear c3
   obtain rfl := Option.some.inj H
   go_enter Try.func22, Try.ntmps22
   go_wp2_with (first | ((with_reducible refine gate_dst (N := 1) rfl ?_); refine box_event ?hg (N := 1) ?hd (cs := #[.int .i64 a0_0, .int .i64 a0_1]) (t := 27) ?hr ?_; (case hd => rfl); (case hg => rfl); (case hr => first | (go_simp; done) | (go_simp; rfl)); intro gb118 hg w6 hbox hb; have n0_ := zK (yF (zl HB.out) hb); have n1_ := zK (hbox); have n2_ := zK ((by rw [hg]; exact (yG (zl HB.out)) : w.heap.size ≤ gb118)); have n3_ := zK ((by rw [hg]; exact (yG (zl HB.out)) : w.heap.size ≤ gb118)); clear HB; have HB := n0_; have BK118 := n1_; have GW118 := n2_; have GE118 := n3_; clear n0_ n1_ n2_ n3_; clear hb hbox hg; have hcz7_0 : w6.cell? ⟨gb118, 0, none⟩ = some (.int .i64 a0_0) := (zQ BK118.out 0).trans rfl; have hcz7_1 : w6.cell? ⟨gb118, 1, none⟩ = some (.int .i64 a0_1) := (zQ BK118.out 1).trans rfl; have hfz7_0 := zR BK118.out 0; have hfz7_1 := zR BK118.out 1))
   go_ret
   exact ⟨ze, zl HB.out⟩
 ·rw [if_neg c2] at H
  have c2b0 : decide (0 ≤ a0_0) = false := decide_eq_false c2
  clear c2
  obtain rfl := Option.some.inj H
  go_enter Try.func22, Try.ntmps22
  go_wp2_with (first | ((with_reducible refine gate_dst (N := 1) rfl ?_); refine box_event ?hg (N := 1) ?hd (cs := #[.int .i64 a0_0, .int .i64 a0_1]) (t := 27) ?hr ?_; (case hd => rfl); (case hg => rfl); (case hr => first | (go_simp; done) | (go_simp; rfl)); intro gb118 hg w8 hbox hb; have n0_ := zK (yF (zl HB.out) hb); have n1_ := zK (hbox); have n2_ := zK ((by rw [hg]; exact (yG (zl HB.out)) : w.heap.size ≤ gb118)); have n3_ := zK ((by rw [hg]; exact (yG (zl HB.out)) : w.heap.size ≤ gb118)); clear HB; have HB := n0_; have BK118 := n1_; have GW118 := n2_; have GE118 := n3_; clear n0_ n1_ n2_ n3_; clear hb hbox hg; have hcz9_0 : w8.cell? ⟨gb118, 0, none⟩ = some (.int .i64 a0_0) := (zQ BK118.out 0).trans rfl; have hcz9_1 : w8.cell? ⟨gb118, 1, none⟩ = some (.int .i64 a0_1) := (zQ BK118.out 1).trans rfl; have hfz9_0 := zR BK118.out 0; have hfz9_1 := zR BK118.out 1))
  go_ret
  exact ⟨ze, zl HB.out⟩
def tollbarref1_Rate.f (a0 : Int) : Option (Bool) := if a0 ≥ 0 then (some (decide (a0 ≤ 4611686018427387904))) else (some false)
set_option maxHeartbeats 8000000 in
set_option maxRecDepth 100000 in
theorem tollbarref1_Rate.calls (a0 : Int) (r : Bool) (w : World) (h : tollbarref1_Rate.f a0 = some r) :
  Calls Try.prog 63 #[.int .i64 a0] w fun e w' => e = .returned (.bool r) ∧ Drawn0 w w' := by
 have H : (if a0 ≥ 0 then (some (decide (a0 ≤ 4611686018427387904))) else (some false)) = some r := h
 clear h
 by_cases c2 : a0 ≥ 0
 ·rw [if_pos c2] at H
  have c2b0 : decide (0 ≤ a0) = true := decide_eq_true c2
  clear c2
  obtain rfl := Option.some.inj H
  go_enter Try.func63, Try.ntmps63
  go_wp2
  go_ret
  exact ⟨by first | rfl | (simp; done) | (simp [*]; done), by repeat (first | exact Drawn0.refl _ | apply Drawn0.step)⟩
 ·rw [if_neg c2] at H
  have c2b0 : decide (0 ≤ a0) = false := decide_eq_false c2
  clear c2
  obtain rfl := Option.some.inj H
  go_enter Try.func63, Try.ntmps63
  go_wp2
  go_ret
  exact ⟨by first | rfl | (simp; done) | (simp [*]; done), by repeat (first | exact Drawn0.refl _ | apply Drawn0.step)⟩
def tollbarref17_ItemMay.f (a0_0 : Int) (a0_1 : Int) (a0_2 : Int) : Option (Bool) := (tollbarref1_SpanMay.f a0_0 a0_1).bind fun t120 => (if t120 = true then ((tollbarref1_Rate.f a0_2).bind fun t121 => (some t121)) else (some false))
set_option maxHeartbeats 8000000 in
set_option maxRecDepth 100000 in
theorem tollbarref17_ItemMay.calls (a0_0 : Int) (a0_1 : Int) (a0_2 : Int) (r : Bool) (w : World) (h : tollbarref17_ItemMay.f a0_0 a0_1 a0_2 = some r) :
  Calls Try.prog 34 #[.agg #[.int .i64 a0_0, .int .i64 a0_1, .int .i64 a0_2]] w fun e w' => e = .returned (.bool r) ∧ Below w.heap.size w w' := by
 have hu50 := Try.underlying50
 have hu27 := Try.underlying27
 have HB := zK (Below.refl w.heap.size w)
 have H : ((tollbarref1_SpanMay.f a0_0 a0_1).bind fun t120 => (if t120 = true then ((tollbarref1_Rate.f a0_2).bind fun t121 => (some t121)) else (some false))) = some r := h
 clear h
 replace H := yH.mp H
 obtain ⟨t120, A20, H⟩ := H
 replace H : (if t120 = true then ((tollbarref1_Rate.f a0_2).bind fun t121 => (some t121)) else (some false)) = some r := H
 have A2 := zK A20
 clear A20
 by_cases c3 : t120 = true
 ·subst c3
  have H1 : ((tollbarref1_Rate.f a0_2).bind fun t121 => (some t121)) = some r := by rw [if_pos rfl] at H; exact H
  clear H
  have H := H1
  clear H1
  replace H := yH.mp H
  obtain ⟨t121, A40, H⟩ := H
  replace H : (some t121) = some r := H
  have A4 := zK A40
  clear A40
  obtain rfl := Option.some.inj H
  go_enter Try.func34, Try.ntmps34
  go_wp2_with (first | ((with_reducible refine gate_dst (N := 1) rfl ?_); refine box_event ?hg (N := 1) ?hd (cs := #[.int .i64 a0_0, .int .i64 a0_1, .int .i64 a0_2]) (t := 50) ?hr ?_; (case hd => rfl); (case hg => rfl); (case hr => first | (go_simp; done) | (go_simp; rfl)); intro gb119 hg w5 hbox hb; have n0_ := zK (yF (zl HB.out) hb); have n1_ := zK (hbox); have n2_ := zK ((by rw [hg]; exact (yG (zl HB.out)) : w.heap.size ≤ gb119)); have n3_ := zK ((by rw [hg]; exact (yG (zl HB.out)) : w.heap.size ≤ gb119)); clear HB; have HB := n0_; have BK119 := n1_; have GW119 := n2_; have GE119 := n3_; clear n0_ n1_ n2_ n3_; clear hb hbox hg; have hcz6_0 : w5.cell? ⟨gb119, 0, none⟩ = some (.int .i64 a0_0) := (zQ BK119.out 0).trans rfl; have hcz6_1 : w5.cell? ⟨gb119, 1, none⟩ = some (.int .i64 a0_1) := (zQ BK119.out 1).trans rfl; have hcz6_2 : w5.cell? ⟨gb119, 2, none⟩ = some (.int .i64 a0_2) := (zQ BK119.out 2).trans rfl; have hfz6_0 := zR BK119.out 0; have hfz6_1 := zR BK119.out 1; have hfz6_2 := zR BK119.out 2) | ((with_reducible refine gate_callee (f := 22) rfl ?_); refine goesL_ (some 5) rfl rfl Try.func22 (by kernel_rfl) rfl #[.agg #[.int .i64 a0_0, .int .i64 a0_1]] rfl zt ?_; (with_reducible refine (tollbarref1_SpanMay.calls a0_0 a0_1 true _ A2.out).mono ?_); rintro e w7 ⟨rfl, hb⟩; refine ⟨_, rfl, ?_⟩; have n0_ := zK (zP (g := gb119) (o := .cells #[.int .i64 a0_0, .int .i64 a0_1, .int .i64 a0_2] 50 (0, 0)) (zb BK119.out) hb); have n1_ := zK (yF (zl HB.out) hb); clear BK119; clear HB; have BK119 := n0_; have HB := n1_; clear n0_ n1_; (try clear hb); (try clear hb2); (try clear hk); (try clear hi); have hcz8_0 : w7.cell? ⟨gb119, 0, none⟩ = some (.int .i64 a0_0) := (zQ BK119.out 0).trans rfl; have hcz8_1 : w7.cell? ⟨gb119, 1, none⟩ = some (.int .i64 a0_1) := (zQ BK119.out 1).trans rfl; have hcz8_2 : w7.cell? ⟨gb119, 2, none⟩ = some (.int .i64 a0_2) := (zQ BK119.out 2).trans rfl; have hfz8_0 := zR BK119.out 0; have hfz8_1 := zR BK119.out 1; have hfz8_2 := zR BK119.out 2) | (go_at_call 63; (with_reducible refine (tollbarref1_Rate.calls a0_2 t121 _ A4.out).mono ?_); rintro e w' ⟨rfl, ⟨nd, rfl⟩⟩))
  go_ret
  exact ⟨ze, zl HB.out⟩
 ·replace c3 := Bool.eq_false_iff.mpr c3
  subst c3
  have H1 : (some false) = some r := by rw [if_neg (show ¬ (false = true) by decide)] at H; exact H
  clear H
  have H := H1
  clear H1
  obtain rfl := Option.some.inj H
  go_enter Try.func34, Try.ntmps34
  go_wp2_with (first | ((with_reducible refine gate_dst (N := 1) rfl ?_); refine box_event ?hg (N := 1) ?hd (cs := #[.int .i64 a0_0, .int .i64 a0_1, .int .i64 a0_2]) (t := 50) ?hr ?_; (case hd => rfl); (case hg => rfl); (case hr => first | (go_simp; done) | (go_simp; rfl)); intro gb119 hg w9 hbox hb; have n0_ := zK (yF (zl HB.out) hb); have n1_ := zK (hbox); have n2_ := zK ((by rw [hg]; exact (yG (zl HB.out)) : w.heap.size ≤ gb119)); have n3_ := zK ((by rw [hg]; exact (yG (zl HB.out)) : w.heap.size ≤ gb119)); clear HB; have HB := n0_; have BK119 := n1_; have GW119 := n2_; have GE119 := n3_; clear n0_ n1_ n2_ n3_; clear hb hbox hg; have hcz10_0 : w9.cell? ⟨gb119, 0, none⟩ = some (.int .i64 a0_0) := (zQ BK119.out 0).trans rfl; have hcz10_1 : w9.cell? ⟨gb119, 1, none⟩ = some (.int .i64 a0_1) := (zQ BK119.out 1).trans rfl; have hcz10_2 : w9.cell? ⟨gb119, 2, none⟩ = some (.int .i64 a0_2) := (zQ BK119.out 2).trans rfl; have hfz10_0 := zR BK119.out 0; have hfz10_1 := zR BK119.out 1; have hfz10_2 := zR BK119.out 2) | ((with_reducible refine gate_callee (f := 22) rfl ?_); refine goesL_ (some 5) rfl rfl Try.func22 (by kernel_rfl) rfl #[.agg #[.int .i64 a0_0, .int .i64 a0_1]] rfl zt ?_; (with_reducible refine (tollbarref1_SpanMay.calls a0_0 a0_1 false _ A2.out).mono ?_); rintro e w11 ⟨rfl, hb⟩; refine ⟨_, rfl, ?_⟩; have n0_ := zK (zP (g := gb119) (o := .cells #[.int .i64 a0_0, .int .i64 a0_1, .int .i64 a0_2] 50 (0, 0)) (zb BK119.out) hb); have n1_ := zK (yF (zl HB.out) hb); clear BK119; clear HB; have BK119 := n0_; have HB := n1_; clear n0_ n1_; (try clear hb); (try clear hb2); (try clear hk); (try clear hi)))
  go_ret
  exact ⟨ze, zl HB.out⟩
end Go.Proofs.Ytgkjpffbgnljeaa.QA
-- written by this session's program mprint.py: functions of the Go program, and their contracts
namespace Go.Proofs.Ytgkjpffbgnljeaa.QA
open Go.RowKit Go.Proofs.Ytgkjpffbgnljeaa.QT  Go.Proofs.YtgkjpffbgnljeaaW.PrintWords Go.Proofs.YtgkjpffbgnljeaaW.PrintLast Go.Proofs.YtgkjpffbgnljeaaW.PrintMore
attribute [local go_sem] max2_int min2_int max_two min_two max_three min_three max_four min_four
set_option linter.unusedVariables false
set_option linter.unusedSimpArgs false
def tollbarref17_Less.f (a0_0 : Int) (a0_1 : Int) (a0_2 : Int) (a1_0 : Int) (a1_1 : Int) (a1_2 : Int) : Option (Bool) := if a0_0 = a1_0 then (if a0_1 = a1_1 then (some (decide (a0_2 < a1_2))) else (some (decide (a0_1 < a1_1)))) else (some (decide (a0_0 < a1_0)))
set_option maxHeartbeats 8000000 in
set_option maxRecDepth 100000 in
theorem tollbarref17_Less.calls (a0_0 : Int) (a0_1 : Int) (a0_2 : Int) (a1_0 : Int) (a1_1 : Int) (a1_2 : Int) (r : Bool) (w : World) (h : tollbarref17_Less.f a0_0 a0_1 a0_2 a1_0 a1_1 a1_2 = some r) :
  Calls Try.prog 44 #[.agg #[.int .i64 a0_0, .int .i64 a0_1, .int .i64 a0_2], .agg #[.int .i64 a1_0, .int .i64 a1_1, .int .i64 a1_2]] w fun e w' => e = .returned (.bool r) ∧ Below w.heap.size w w' := by
 have hu50 := Try.underlying50
 have HB := Aside0.mk (Below.refl w.heap.size w)
 have H : (if a0_0 = a1_0 then (if a0_1 = a1_1 then (some (decide (a0_2 < a1_2))) else (some (decide (a0_1 < a1_1)))) else (some (decide (a0_0 < a1_0)))) = some r := h
 clear h
 by_cases c3 : a0_0 = a1_0
 ·rw [if_pos c3] at H
  have c3b0 : (a0_0 == a1_0) = true := beq_iff_eq.mpr c3
  have c3b1 : (a0_0 != a1_0) = false := bne_eq_false_iff_eq.mpr c3
  clear c3
  by_cases c4 : a0_1 = a1_1
  ·rw [if_pos c4] at H
   have c4b0 : (a0_1 == a1_1) = true := beq_iff_eq.mpr c4
   have c4b1 : (a0_1 != a1_1) = false := bne_eq_false_iff_eq.mpr c4
   clear c4
   obtain rfl := Option.some.inj H
   go_enter Try.func44, Try.ntmps44
   go_wp2_with (first | ((with_reducible refine gate_dst (N := 2) rfl ?_); refine box_event ?hg (N := 2) ?hd (cs := #[.int .i64 a0_0, .int .i64 a0_1, .int .i64 a0_2]) (t := 50) ?hr ?_; (case hd => rfl); (case hg => rfl); (case hr => first | (go_simp; done) | (go_simp; rfl)); intro gb166 hg w5 hbox hb; have n0_ := Aside0.mk (below_step (by repeat (first | (with_reducible first | exact HB.out | apply below_alloc | apply pw_below_drewN | apply below_drew1) | exact HB.out)) hb); have n1_ := Aside0.mk (hbox); have n2_ := Aside0.mk ((by rw [hg]; exact (below_size (by repeat (first | (with_reducible first | exact HB.out | apply below_alloc | apply pw_below_drewN | apply below_drew1) | exact HB.out))) : w.heap.size ≤ gb166)); have n3_ := Aside0.mk ((by rw [hg]; exact (below_size (by repeat (first | (with_reducible first | exact HB.out | apply below_alloc | apply pw_below_drewN | apply below_drew1) | exact HB.out))) : w.heap.size ≤ gb166)); clear HB; have HB := n0_; have BK166 := n1_; have GW166 := n2_; have GE166 := n3_; clear n0_ n1_ n2_ n3_; clear hb hbox hg) | ((with_reducible refine gate_dst (N := 3) rfl ?_); refine box_event ?hg (N := 3) ?hd (cs := #[.int .i64 a1_0, .int .i64 a1_1, .int .i64 a1_2]) (t := 50) ?hr ?_; (case hd => rfl); (case hg => rfl); (case hr => first | (go_simp; done) | (go_simp; rfl)); intro gb167 hg w6 hbox hb; have n0_ := Aside0.mk (blk_below (g := gb166) (o := .cells #[.int .i64 a0_0, .int .i64 a0_1, .int .i64 a0_2] 50 (0, 0)) (by (with_reducible repeat (first | refine blk_drewN ?_ _ | refine blk_drew ?_ | refine blk_alloc ?_ _)); exact BK166.out) hb); have n1_ := Aside0.mk (below_step (by repeat (first | (with_reducible first | exact HB.out | apply below_alloc | apply pw_below_drewN | apply below_drew1 | refine below_set ?_ GE166.out) | exact HB.out)) hb); have n2_ := Aside0.mk (hbox); have n3_ := Aside0.mk ((by rw [hg]; exact (below_size (by repeat (first | (with_reducible first | exact HB.out | apply below_alloc | apply pw_below_drewN | apply below_drew1 | refine below_set ?_ GE166.out) | exact HB.out))) : w.heap.size ≤ gb167)); have n4_ := Aside0.mk ((by rw [hg]; exact (below_size (by repeat (first | (with_reducible first | exact HB.out | apply below_alloc | apply pw_below_drewN | apply below_drew1 | refine below_set ?_ GE166.out) | exact HB.out))) : w.heap.size ≤ gb167)); have n5_ := Aside0.mk ((by rw [hg]; exact Nat.ne_of_lt (blk_lt (g := gb166) (o := .cells #[.int .i64 a0_0, .int .i64 a0_1, .int .i64 a0_2] 50 (0, 0)) (by (with_reducible repeat (first | refine blk_drewN ?_ _ | refine blk_drew ?_ | refine blk_alloc ?_ _)); exact BK166.out)) : gb166 ≠ gb167)); have n6_ := Aside0.mk ((by rw [hg]; exact Nat.ne_of_gt (blk_lt (g := gb166) (o := .cells #[.int .i64 a0_0, .int .i64 a0_1, .int .i64 a0_2] 50 (0, 0)) (by (with_reducible repeat (first | refine blk_drewN ?_ _ | refine blk_drew ?_ | refine blk_alloc ?_ _)); exact BK166.out)) : gb167 ≠ gb166)); clear BK166; clear HB; have BK166 := n0_; have HB := n1_; have BK167 := n2_; have GW167 := n3_; have GE167 := n4_; have NB166_167 := n5_; have NB167_166 := n6_; clear n0_ n1_ n2_ n3_ n4_ n5_ n6_; clear hb hbox hg; have hnb7 := NB166_167.out; have hnc7 := NB167_166.out; have hcz8_0 : w6.cell? ⟨gb166, 0, none⟩ = some (.int .i64 a0_0) := (blk_cell BK166.out 0).trans rfl; have hcz8_1 : w6.cell? ⟨gb166, 1, none⟩ = some (.int .i64 a0_1) := (blk_cell BK166.out 1).trans rfl; have hcz8_2 : w6.cell? ⟨gb166, 2, none⟩ = some (.int .i64 a0_2) := (blk_cell BK166.out 2).trans rfl; have hfz8_0 := blk_frozen BK166.out 0; have hfz8_1 := blk_frozen BK166.out 1; have hfz8_2 := blk_frozen BK166.out 2; have hcz9_0 : w6.cell? ⟨gb167, 0, none⟩ = some (.int .i64 a1_0) := (blk_cell BK167.out 0).trans rfl; have hcz9_1 : w6.cell? ⟨gb167, 1, none⟩ = some (.int .i64 a1_1) := (blk_cell BK167.out 1).trans rfl; have hcz9_2 : w6.cell? ⟨gb167, 2, none⟩ = some (.int .i64 a1_2) := (blk_cell BK167.out 2).trans rfl; have hfz9_0 := blk_frozen BK167.out 0; have hfz9_1 := blk_frozen BK167.out 1; have hfz9_2 := blk_frozen BK167.out 2))
   go_ret
   exact ⟨by first | rfl | (simp [errW_none, errW_some] <;> rfl) | (simp [*, errW_none, errW_some] <;> rfl), by repeat (first | (with_reducible first | exact HB.out | apply below_alloc | apply pw_below_drewN | apply below_drew1 | refine below_set ?_ GE166.out | refine below_set ?_ GE167.out) | exact HB.out)⟩
  ·rw [if_neg c4] at H
   have c4b0 : (a0_1 == a1_1) = false := beq_eq_false_iff_ne.mpr c4
   have c4b1 : (a0_1 != a1_1) = true := bne_iff_ne.mpr c4
   obtain rfl := Option.some.inj H
   go_enter Try.func44, Try.ntmps44
   go_wp2_with (first | ((with_reducible refine gate_dst (N := 2) rfl ?_); refine box_event ?hg (N := 2) ?hd (cs := #[.int .i64 a0_0, .int .i64 a0_1, .int .i64 a0_2]) (t := 50) ?hr ?_; (case hd => rfl); (case hg => rfl); (case hr => first | (go_simp; done) | (go_simp; rfl)); intro gb166 hg w10 hbox hb; have n0_ := Aside0.mk (below_step (by repeat (first | (with_reducible first | exact HB.out | apply below_alloc | apply pw_below_drewN | apply below_drew1) | exact HB.out)) hb); have n1_ := Aside0.mk (hbox); have n2_ := Aside0.mk ((by rw [hg]; exact (below_size (by repeat (first | (with_reducible first | exact HB.out | apply below_alloc | apply pw_below_drewN | apply below_drew1) | exact HB.out))) : w.heap.size ≤ gb166)); have n3_ := Aside0.mk ((by rw [hg]; exact (below_size (by repeat (first | (with_reducible first | exact HB.out | apply below_alloc | apply pw_below_drewN | apply below_drew1) | exact HB.out))) : w.heap.size ≤ gb166)); clear HB; have HB := n0_; have BK166 := n1_; have GW166 := n2_; have GE166 := n3_; clear n0_ n1_ n2_ n3_; clear hb hbox hg) | ((with_reducible refine gate_dst (N := 3) rfl ?_); refine box_event ?hg (N := 3) ?hd (cs := #[.int .i64 a1_0, .int .i64 a1_1, .int .i64 a1_2]) (t := 50) ?hr ?_; (case hd => rfl); (case hg => rfl); (case hr => first | (go_simp; done) | (go_simp; rfl)); intro gb167 hg w11 hbox hb; have n0_ := Aside0.mk (blk_below (g := gb166) (o := .cells #[.int .i64 a0_0, .int .i64 a0_1, .int .i64 a0_2] 50 (0, 0)) (by (with_reducible repeat (first | refine blk_drewN ?_ _ | refine blk_drew ?_ | refine blk_alloc ?_ _)); exact BK166.out) hb); have n1_ := Aside0.mk (below_step (by repeat (first | (with_reducible first | exact HB.out | apply below_alloc | apply pw_below_drewN | apply below_drew1 | refine below_set ?_ GE166.out) | exact HB.out)) hb); have n2_ := Aside0.mk (hbox); have n3_ := Aside0.mk ((by rw [hg]; exact (below_size (by repeat (first | (with_reducible first | exact HB.out | apply below_alloc | apply pw_below_drewN | apply below_drew1 | refine below_set ?_ GE166.out) | exact HB.out))) : w.heap.size ≤ gb167)); have n4_ := Aside0.mk ((by rw [hg]; exact (below_size (by repeat (first | (with_reducible first | exact HB.out | apply below_alloc | apply pw_below_drewN | apply below_drew1 | refine below_set ?_ GE166.out) | exact HB.out))) : w.heap.size ≤ gb167)); have n5_ := Aside0.mk ((by rw [hg]; exact Nat.ne_of_lt (blk_lt (g := gb166) (o := .cells #[.int .i64 a0_0, .int .i64 a0_1, .int .i64 a0_2] 50 (0, 0)) (by (with_reducible repeat (first | refine blk_drewN ?_ _ | refine blk_drew ?_ | refine blk_alloc ?_ _)); exact BK166.out)) : gb166 ≠ gb167)); have n6_ := Aside0.mk ((by rw [hg]; exact Nat.ne_of_gt (blk_lt (g := gb166) (o := .cells #[.int .i64 a0_0, .int .i64 a0_1, .int .i64 a0_2] 50 (0, 0)) (by (with_reducible repeat (first | refine blk_drewN ?_ _ | refine blk_drew ?_ | refine blk_alloc ?_ _)); exact BK166.out)) : gb167 ≠ gb166)); clear BK166; clear HB; have BK166 := n0_; have HB := n1_; have BK167 := n2_; have GW167 := n3_; have GE167 := n4_; have NB166_167 := n5_; have NB167_166 := n6_; clear n0_ n1_ n2_ n3_ n4_ n5_ n6_; clear hb hbox hg; have hnb12 := NB166_167.out; have hnc12 := NB167_166.out; have hcz13_0 : w11.cell? ⟨gb166, 0, none⟩ = some (.int .i64 a0_0) := (blk_cell BK166.out 0).trans rfl; have hcz13_1 : w11.cell? ⟨gb166, 1, none⟩ = some (.int .i64 a0_1) := (blk_cell BK166.out 1).trans rfl; have hcz13_2 : w11.cell? ⟨gb166, 2, none⟩ = some (.int .i64 a0_2) := (blk_cell BK166.out 2).trans rfl; have hfz13_0 := blk_frozen BK166.out 0; have hfz13_1 := blk_frozen BK166.out 1; have hfz13_2 := blk_frozen BK166.out 2; have hcz14_0 : w11.cell? ⟨gb167, 0, none⟩ = some (.int .i64 a1_0) := (blk_cell BK167.out 0).trans rfl; have hcz14_1 : w11.cell? ⟨gb167, 1, none⟩ = some (.int .i64 a1_1) := (blk_cell BK167.out 1).trans rfl; have hcz14_2 : w11.cell? ⟨gb167, 2, none⟩ = some (.int .i64 a1_2) := (blk_cell BK167.out 2).trans rfl; have hfz14_0 := blk_frozen BK167.out 0; have hfz14_1 := blk_frozen BK167.out 1; have hfz14_2 := blk_frozen BK167.out 2))
   go_ret
   exact ⟨by first | rfl | (simp [errW_none, errW_some] <;> rfl) | (simp [*, errW_none, errW_some] <;> rfl), by repeat (first | (with_reducible first | exact HB.out | apply below_alloc | apply pw_below_drewN | apply below_drew1 | refine below_set ?_ GE166.out | refine below_set ?_ GE167.out) | exact HB.out)⟩
 ·rw [if_neg c3] at H
  have c3b0 : (a0_0 == a1_0) = false := beq_eq_false_iff_ne.mpr c3
  have c3b1 : (a0_0 != a1_0) = true := bne_iff_ne.mpr c3
  obtain rfl := Option.some.inj H
  go_enter Try.func44, Try.ntmps44
  go_wp2_with (first | ((with_reducible refine gate_dst (N := 2) rfl ?_); refine box_event ?hg (N := 2) ?hd (cs := #[.int .i64 a0_0, .int .i64 a0_1, .int .i64 a0_2]) (t := 50) ?hr ?_; (case hd => rfl); (case hg => rfl); (case hr => first | (go_simp; done) | (go_simp; rfl)); intro gb166 hg w15 hbox hb; have n0_ := Aside0.mk (below_step (by repeat (first | (with_reducible first | exact HB.out | apply below_alloc | apply pw_below_drewN | apply below_drew1) | exact HB.out)) hb); have n1_ := Aside0.mk (hbox); have n2_ := Aside0.mk ((by rw [hg]; exact (below_size (by repeat (first | (with_reducible first | exact HB.out | apply below_alloc | apply pw_below_drewN | apply below_drew1) | exact HB.out))) : w.heap.size ≤ gb166)); have n3_ := Aside0.mk ((by rw [hg]; exact (below_size (by repeat (first | (with_reducible first | exact HB.out | apply below_alloc | apply pw_below_drewN | apply below_drew1) | exact HB.out))) : w.heap.size ≤ gb166)); clear HB; have HB := n0_; have BK166 := n1_; have GW166 := n2_; have GE166 := n3_; clear n0_ n1_ n2_ n3_; clear hb hbox hg) | ((with_reducible refine gate_dst (N := 3) rfl ?_); refine box_event ?hg (N := 3) ?hd (cs := #[.int .i64 a1_0, .int .i64 a1_1, .int .i64 a1_2]) (t := 50) ?hr ?_; (case hd => rfl); (case hg => rfl); (case hr => first | (go_simp; done) | (go_simp; rfl)); intro gb167 hg w16 hbox hb; have n0_ := Aside0.mk (blk_below (g := gb166) (o := .cells #[.int .i64 a0_0, .int .i64 a0_1, .int .i64 a0_2] 50 (0, 0)) (by (with_reducible repeat (first | refine blk_drewN ?_ _ | refine blk_drew ?_ | refine blk_alloc ?_ _)); exact BK166.out) hb); have n1_ := Aside0.mk (below_step (by repeat (first | (with_reducible first | exact HB.out | apply below_alloc | apply pw_below_drewN | apply below_drew1 | refine below_set ?_ GE166.out) | exact HB.out)) hb); have n2_ := Aside0.mk (hbox); have n3_ := Aside0.mk ((by rw [hg]; exact (below_size (by repeat (first | (with_reducible first | exact HB.out | apply below_alloc | apply pw_below_drewN | apply below_drew1 | refine below_set ?_ GE166.out) | exact HB.out))) : w.heap.size ≤ gb167)); have n4_ := Aside0.mk ((by rw [hg]; exact (below_size (by repeat (first | (with_reducible first | exact HB.out | apply below_alloc | apply pw_below_drewN | apply below_drew1 | refine below_set ?_ GE166.out) | exact HB.out))) : w.heap.size ≤ gb167)); have n5_ := Aside0.mk ((by rw [hg]; exact Nat.ne_of_lt (blk_lt (g := gb166) (o := .cells #[.int .i64 a0_0, .int .i64 a0_1, .int .i64 a0_2] 50 (0, 0)) (by (with_reducible repeat (first | refine blk_drewN ?_ _ | refine blk_drew ?_ | refine blk_alloc ?_ _)); exact BK166.out)) : gb166 ≠ gb167)); have n6_ := Aside0.mk ((by rw [hg]; exact Nat.ne_of_gt (blk_lt (g := gb166) (o := .cells #[.int .i64 a0_0, .int .i64 a0_1, .int .i64 a0_2] 50 (0, 0)) (by (with_reducible repeat (first | refine blk_drewN ?_ _ | refine blk_drew ?_ | refine blk_alloc ?_ _)); exact BK166.out)) : gb167 ≠ gb166)); clear BK166; clear HB; have BK166 := n0_; have HB := n1_; have BK167 := n2_; have GW167 := n3_; have GE167 := n4_; have NB166_167 := n5_; have NB167_166 := n6_; clear n0_ n1_ n2_ n3_ n4_ n5_ n6_; clear hb hbox hg; have hnb17 := NB166_167.out; have hnc17 := NB167_166.out; have hcz18_0 : w16.cell? ⟨gb166, 0, none⟩ = some (.int .i64 a0_0) := (blk_cell BK166.out 0).trans rfl; have hcz18_1 : w16.cell? ⟨gb166, 1, none⟩ = some (.int .i64 a0_1) := (blk_cell BK166.out 1).trans rfl; have hcz18_2 : w16.cell? ⟨gb166, 2, none⟩ = some (.int .i64 a0_2) := (blk_cell BK166.out 2).trans rfl; have hfz18_0 := blk_frozen BK166.out 0; have hfz18_1 := blk_frozen BK166.out 1; have hfz18_2 := blk_frozen BK166.out 2; have hcz19_0 : w16.cell? ⟨gb167, 0, none⟩ = some (.int .i64 a1_0) := (blk_cell BK167.out 0).trans rfl; have hcz19_1 : w16.cell? ⟨gb167, 1, none⟩ = some (.int .i64 a1_1) := (blk_cell BK167.out 1).trans rfl; have hcz19_2 : w16.cell? ⟨gb167, 2, none⟩ = some (.int .i64 a1_2) := (blk_cell BK167.out 2).trans rfl; have hfz19_0 := blk_frozen BK167.out 0; have hfz19_1 := blk_frozen BK167.out 1; have hfz19_2 := blk_frozen BK167.out 2))
  go_ret
  exact ⟨by first | rfl | (simp [errW_none, errW_some] <;> rfl) | (simp [*, errW_none, errW_some] <;> rfl), by repeat (first | (with_reducible first | exact HB.out | apply below_alloc | apply pw_below_drewN | apply below_drew1 | refine below_set ?_ GE166.out | refine below_set ?_ GE167.out) | exact HB.out)⟩
end Go.Proofs.Ytgkjpffbgnljeaa.QA
-- written by this session's program mprint.py: functions of the Go program, and their contracts
namespace Go.Proofs.Ytgkjpffbgnljeaa.QA
open Go.RowKit Go.Proofs.Ytgkjpffbgnljeaa.Au Go.Proofs.Ytgkjpffbgnljeaa.QT  Go.Proofs.YtgkjpffbgnljeaaW.PrintWords Go.Proofs.YtgkjpffbgnljeaaW.PrintLast Go.Proofs.YtgkjpffbgnljeaaW.PrintMore
attribute [local go_sem] max2_int min2_int max_two min_two max_three min_three max_four min_four
set_option linter.unusedVariables false
set_option linter.unusedSimpArgs false
def span_May.f (a0_0 : Int) (a0_1 : Int) : Option (Bool) := if a0_0 ≥ 0 then (if a0_0 < a0_1 then (some (decide (a0_1 ≤ 4096))) else (some false)) else (some false)
set_option maxHeartbeats 8000000 in
set_option maxRecDepth 100000 in
theorem span_May.calls (a0_0 : Int) (a0_1 : Int) (r : Bool) (w : World) (h : span_May.f a0_0 a0_1 = some r) :
  Calls Try.prog 47 #[.agg #[.int .i64 a0_0, .int .i64 a0_1]] w fun e w' => e = .returned (.bool r) ∧ Below w.heap.size w w' := by
 have hu27 := Try.underlying27
 have HB := zK (Below.refl w.heap.size w)
 have H : (if a0_0 ≥ 0 then (if a0_0 < a0_1 then (some (decide (a0_1 ≤ 4096))) else (some false)) else (some false)) = some r := h
 clear h
 by_cases c2 : a0_0 ≥ 0
 ·rw [if_pos c2] at H
  have c2b0 : decide (0 ≤ a0_0) = true := decide_eq_true c2
  clear c2
  by_cases c3 : a0_0 < a0_1
  ·rw [if_pos c3] at H
   have c3b0 : decide (a0_0 < a0_1) = true := decide_eq_true c3
   clear c3
   obtain rfl := Option.some.inj H
   go_enter Try.func47, Try.ntmps47
   go_wp2_with (first | ((with_reducible refine gate_dst (N := 1) rfl ?_); refine box_event ?hg (N := 1) ?hd (cs := #[.int .i64 a0_0, .int .i64 a0_1]) (t := 27) ?hr ?_; (case hd => rfl); (case hg => rfl); (case hr => first | (go_simp; done) | (go_simp; rfl)); intro gb187 hg w4 hbox hb; have n0_ := zK (yF (zl HB.out) hb); have n1_ := zK (hbox); have n2_ := zK ((by rw [hg]; exact (yG (zl HB.out)) : w.heap.size ≤ gb187)); have n3_ := zK ((by rw [hg]; exact (yG (zl HB.out)) : w.heap.size ≤ gb187)); clear HB; have HB := n0_; have BK187 := n1_; have GW187 := n2_; have GE187 := n3_; clear n0_ n1_ n2_ n3_; clear hb hbox hg; have hcz5_0 : w4.cell? ⟨gb187, 0, none⟩ = some (.int .i64 a0_0) := (zQ BK187.out 0).trans rfl; have hcz5_1 : w4.cell? ⟨gb187, 1, none⟩ = some (.int .i64 a0_1) := (zQ BK187.out 1).trans rfl; have hfz5_0 := zR BK187.out 0; have hfz5_1 := zR BK187.out 1))
   go_ret
   exact ⟨ze, zl HB.out⟩
  ·rw [if_neg c3] at H
   have c3b0 : decide (a0_0 < a0_1) = false := decide_eq_false c3
   clear c3
   obtain rfl := Option.some.inj H
   go_enter Try.func47, Try.ntmps47
   go_wp2_with (first | ((with_reducible refine gate_dst (N := 1) rfl ?_); refine box_event ?hg (N := 1) ?hd (cs := #[.int .i64 a0_0, .int .i64 a0_1]) (t := 27) ?hr ?_; (case hd => rfl); (case hg => rfl); (case hr => first | (go_simp; done) | (go_simp; rfl)); intro gb187 hg w6 hbox hb; have n0_ := zK (yF (zl HB.out) hb); have n1_ := zK (hbox); have n2_ := zK ((by rw [hg]; exact (yG (zl HB.out)) : w.heap.size ≤ gb187)); have n3_ := zK ((by rw [hg]; exact (yG (zl HB.out)) : w.heap.size ≤ gb187)); clear HB; have HB := n0_; have BK187 := n1_; have GW187 := n2_; have GE187 := n3_; clear n0_ n1_ n2_ n3_; clear hb hbox hg; have hcz7_0 : w6.cell? ⟨gb187, 0, none⟩ = some (.int .i64 a0_0) := (zQ BK187.out 0).trans rfl; have hcz7_1 : w6.cell? ⟨gb187, 1, none⟩ = some (.int .i64 a0_1) := (zQ BK187.out 1).trans rfl; have hfz7_0 := zR BK187.out 0; have hfz7_1 := zR BK187.out 1))
   go_ret
   exact ⟨ze, zl HB.out⟩
 ·rw [if_neg c2] at H
  have c2b0 : decide (0 ≤ a0_0) = false := decide_eq_false c2
  clear c2
  obtain rfl := Option.some.inj H
  go_enter Try.func47, Try.ntmps47
  go_wp2_with (first | ((with_reducible refine gate_dst (N := 1) rfl ?_); refine box_event ?hg (N := 1) ?hd (cs := #[.int .i64 a0_0, .int .i64 a0_1]) (t := 27) ?hr ?_; (case hd => rfl); (case hg => rfl); (case hr => first | (go_simp; done) | (go_simp; rfl)); intro gb187 hg w8 hbox hb; have n0_ := zK (yF (zl HB.out) hb); have n1_ := zK (hbox); have n2_ := zK ((by rw [hg]; exact (yG (zl HB.out)) : w.heap.size ≤ gb187)); have n3_ := zK ((by rw [hg]; exact (yG (zl HB.out)) : w.heap.size ≤ gb187)); clear HB; have HB := n0_; have BK187 := n1_; have GW187 := n2_; have GE187 := n3_; clear n0_ n1_ n2_ n3_; clear hb hbox hg; have hcz9_0 : w8.cell? ⟨gb187, 0, none⟩ = some (.int .i64 a0_0) := (zQ BK187.out 0).trans rfl; have hcz9_1 : w8.cell? ⟨gb187, 1, none⟩ = some (.int .i64 a0_1) := (zQ BK187.out 1).trans rfl; have hfz9_0 := zR BK187.out 0; have hfz9_1 := zR BK187.out 1))
  go_ret
  exact ⟨ze, zl HB.out⟩
def rate_Is.f (a0 : Int) : Option (Bool) := if a0 ≥ 0 then (some (decide (a0 ≤ 4611686018427387904))) else (some false)
set_option maxHeartbeats 8000000 in
set_option maxRecDepth 100000 in
theorem rate_Is.calls (a0 : Int) (r : Bool) (w : World) (h : rate_Is.f a0 = some r) :
  Calls Try.prog 87 #[.int .i64 a0] w fun e w' => e = .returned (.bool r) ∧ Drawn0 w w' := by
 have H : (if a0 ≥ 0 then (some (decide (a0 ≤ 4611686018427387904))) else (some false)) = some r := h
 clear h
 by_cases c2 : a0 ≥ 0
 ·rw [if_pos c2] at H
  have c2b0 : decide (0 ≤ a0) = true := decide_eq_true c2
  clear c2
  obtain rfl := Option.some.inj H
  go_enter Try.func87, Try.ntmps87
  go_wp2
  go_ret
  exact ⟨by first | rfl | (simp; done) | (simp [*]; done), by repeat (first | exact Drawn0.refl _ | apply Drawn0.step)⟩
 ·rw [if_neg c2] at H
  have c2b0 : decide (0 ≤ a0) = false := decide_eq_false c2
  clear c2
  obtain rfl := Option.some.inj H
  go_enter Try.func87, Try.ntmps87
  go_wp2
  go_ret
  exact ⟨by first | rfl | (simp; done) | (simp [*]; done), by repeat (first | exact Drawn0.refl _ | apply Drawn0.step)⟩
def tree_itemMay.f (a0_0 : Int) (a0_1 : Int) (a0_2 : Int) : Option (Bool) := (span_May.f a0_0 a0_1).bind fun t189 => (if t189 = true then ((rate_Is.f a0_2).bind fun t190 => (some t190)) else (some false))
set_option maxHeartbeats 8000000 in
set_option maxRecDepth 100000 in
theorem tree_itemMay.calls (a0_0 : Int) (a0_1 : Int) (a0_2 : Int) (r : Bool) (w : World) (h : tree_itemMay.f a0_0 a0_1 a0_2 = some r) :
  Calls Try.prog 58 #[.agg #[.int .i64 a0_0, .int .i64 a0_1, .int .i64 a0_2]] w fun e w' => e = .returned (.bool r) ∧ Below w.heap.size w w' := by
 have hu50 := Try.underlying50
 have hu27 := Try.underlying27
 have HB := zK (Below.refl w.heap.size w)
 have H : ((span_May.f a0_0 a0_1).bind fun t189 => (if t189 = true then ((rate_Is.f a0_2).bind fun t190 => (some t190)) else (some false))) = some r := h
 clear h
 replace H := yH.mp H
 obtain ⟨t189, A20, H⟩ := H
 replace H : (if t189 = true then ((rate_Is.f a0_2).bind fun t190 => (some t190)) else (some false)) = some r := H
 have A2 := zK A20
 clear A20
 by_cases c3 : t189 = true
 ·subst c3
  have H1 : ((rate_Is.f a0_2).bind fun t190 => (some t190)) = some r := by rw [if_pos rfl] at H; exact H
  clear H
  have H := H1
  clear H1
  replace H := yH.mp H
  obtain ⟨t190, A40, H⟩ := H
  replace H : (some t190) = some r := H
  have A4 := zK A40
  clear A40
  obtain rfl := Option.some.inj H
  go_enter Try.func58, Try.ntmps58
  go_wp2_with (first | ((with_reducible refine gate_dst (N := 1) rfl ?_); refine box_event ?hg (N := 1) ?hd (cs := #[.int .i64 a0_0, .int .i64 a0_1, .int .i64 a0_2]) (t := 50) ?hr ?_; (case hd => rfl); (case hg => rfl); (case hr => first | (go_simp; done) | (go_simp; rfl)); intro gb188 hg w5 hbox hb; have n0_ := zK (yF (zl HB.out) hb); have n1_ := zK (hbox); have n2_ := zK ((by rw [hg]; exact (yG (zl HB.out)) : w.heap.size ≤ gb188)); have n3_ := zK ((by rw [hg]; exact (yG (zl HB.out)) : w.heap.size ≤ gb188)); clear HB; have HB := n0_; have BK188 := n1_; have GW188 := n2_; have GE188 := n3_; clear n0_ n1_ n2_ n3_; clear hb hbox hg; have hcz6_0 : w5.cell? ⟨gb188, 0, none⟩ = some (.int .i64 a0_0) := (zQ BK188.out 0).trans rfl; have hcz6_1 : w5.cell? ⟨gb188, 1, none⟩ = some (.int .i64 a0_1) := (zQ BK188.out 1).trans rfl; have hcz6_2 : w5.cell? ⟨gb188, 2, none⟩ = some (.int .i64 a0_2) := (zQ BK188.out 2).trans rfl; have hfz6_0 := zR BK188.out 0; have hfz6_1 := zR BK188.out 1; have hfz6_2 := zR BK188.out 2) | ((with_reducible refine gate_callee (f := 47) rfl ?_); refine goesL_ (some 5) rfl rfl Try.func47 (by kernel_rfl) rfl #[.agg #[.int .i64 a0_0, .int .i64 a0_1]] rfl zt ?_; (with_reducible refine (span_May.calls a0_0 a0_1 true _ A2.out).mono ?_); rintro e w7 ⟨rfl, hb⟩; refine ⟨_, rfl, ?_⟩; have n0_ := zK (zP (g := gb188) (o := .cells #[.int .i64 a0_0, .int .i64 a0_1, .int .i64 a0_2] 50 (0, 0)) (zb BK188.out) hb); have n1_ := zK (yF (zl HB.out) hb); clear BK188; clear HB; have BK188 := n0_; have HB := n1_; clear n0_ n1_; (try clear hb); (try clear hb2); (try clear hk); (try clear hi); have hcz8_0 : w7.cell? ⟨gb188, 0, none⟩ = some (.int .i64 a0_0) := (zQ BK188.out 0).trans rfl; have hcz8_1 : w7.cell? ⟨gb188, 1, none⟩ = some (.int .i64 a0_1) := (zQ BK188.out 1).trans rfl; have hcz8_2 : w7.cell? ⟨gb188, 2, none⟩ = some (.int .i64 a0_2) := (zQ BK188.out 2).trans rfl; have hfz8_0 := zR BK188.out 0; have hfz8_1 := zR BK188.out 1; have hfz8_2 := zR BK188.out 2) | (go_at_call 87; (with_reducible refine (rate_Is.calls a0_2 t190 _ A4.out).mono ?_); rintro e w' ⟨rfl, ⟨nd, rfl⟩⟩))
  go_ret
  exact ⟨ze, zl HB.out⟩
 ·replace c3 := Bool.eq_false_iff.mpr c3
  subst c3
  have H1 : (some false) = some r := by rw [if_neg (show ¬ (false = true) by decide)] at H; exact H
  clear H
  have H := H1
  clear H1
  obtain rfl := Option.some.inj H
  go_enter Try.func58, Try.ntmps58
  go_wp2_with (first | ((with_reducible refine gate_dst (N := 1) rfl ?_); refine box_event ?hg (N := 1) ?hd (cs := #[.int .i64 a0_0, .int .i64 a0_1, .int .i64 a0_2]) (t := 50) ?hr ?_; (case hd => rfl); (case hg => rfl); (case hr => first | (go_simp; done) | (go_simp; rfl)); intro gb188 hg w9 hbox hb; have n0_ := zK (yF (zl HB.out) hb); have n1_ := zK (hbox); have n2_ := zK ((by rw [hg]; exact (yG (zl HB.out)) : w.heap.size ≤ gb188)); have n3_ := zK ((by rw [hg]; exact (yG (zl HB.out)) : w.heap.size ≤ gb188)); clear HB; have HB := n0_; have BK188 := n1_; have GW188 := n2_; have GE188 := n3_; clear n0_ n1_ n2_ n3_; clear hb hbox hg; have hcz10_0 : w9.cell? ⟨gb188, 0, none⟩ = some (.int .i64 a0_0) := (zQ BK188.out 0).trans rfl; have hcz10_1 : w9.cell? ⟨gb188, 1, none⟩ = some (.int .i64 a0_1) := (zQ BK188.out 1).trans rfl; have hcz10_2 : w9.cell? ⟨gb188, 2, none⟩ = some (.int .i64 a0_2) := (zQ BK188.out 2).trans rfl; have hfz10_0 := zR BK188.out 0; have hfz10_1 := zR BK188.out 1; have hfz10_2 := zR BK188.out 2) | ((with_reducible refine gate_callee (f := 47) rfl ?_); refine goesL_ (some 5) rfl rfl Try.func47 (by kernel_rfl) rfl #[.agg #[.int .i64 a0_0, .int .i64 a0_1]] rfl zt ?_; (with_reducible refine (span_May.calls a0_0 a0_1 false _ A2.out).mono ?_); rintro e w11 ⟨rfl, hb⟩; refine ⟨_, rfl, ?_⟩; have n0_ := zK (zP (g := gb188) (o := .cells #[.int .i64 a0_0, .int .i64 a0_1, .int .i64 a0_2] 50 (0, 0)) (zb BK188.out) hb); have n1_ := zK (yF (zl HB.out) hb); clear BK188; clear HB; have BK188 := n0_; have HB := n1_; clear n0_ n1_; (try clear hb); (try clear hb2); (try clear hk); (try clear hi)))
  go_ret
  exact ⟨ze, zl HB.out⟩
def slices_Index_int_int.l0 : Nat → List Int → Int → Int → Int → Option (Int)
 | 0, _, _, _, _ => none
 | k + 1, x0, x1, x7, x8 => if x8 < x7 then (if 0 ≤ x8 then (if x8 < (x0.length : Int) then (if x1 = (rd x0 x8) then (some x8) else (slices_Index_int_int.l0 k x0 x1 x7 (wrap64 (x8 + 1)))) else (none)) else (none)) else (some (-1))
def slices_Index_int_int.f (k : Nat) (l0 : List Int) (a1 : Int) : Option (Int) := slices_Index_int_int.l0 k l0 a1 (l0.length : Int) 0
set_option maxHeartbeats 8000000 in
set_option maxRecDepth 100000 in
theorem slices_Index_int_int.calls (k : Nat) (A0 : Option Addr) (c0 : Nat) (l0 : List Int) (a1 : Int) (r : Int) (w : World) (hr0 : Kd.C (Kd.int .i64) w A0 l0.length l0) (hc0 : l0.length ≤ c0) (h : slices_Index_int_int.f k l0 a1 = some r) :
  Calls Try.prog 83 #[.slice A0 l0.length c0, .int .i64 a1] w fun e w' => e = .returned (.int .i64 r) ∧ Drawn0 w w' := by
 have HR0 := zK hr0
 have HC0 := zK hc0
 clear hr0 hc0
 have H : (slices_Index_int_int.l0 k l0 a1 (l0.length : Int) 0) = some r := h
 clear h
 have H' := zK H
 clear H
 go_enter Try.func83, Try.ntmps83
 go_wp2
 go_loopg [8] k (fun kq v8 w' => ∃ (x8_1 : Int), v8 = .int .i64 x8_1 ∧ Aside0 (slices_Index_int_int.l0 kq l0 a1 (l0.length : Int) x8_1 = some r) ∧ Aside0 (kq ≤ k) ∧ Drawn0 w w')
 case atStart => exact ⟨(0), zz, H', ⟨Nat.le_refl _⟩, by repeat (first | exact Drawn0.refl _ | apply Drawn0.step)⟩
 case round =>
  clear H'
  try clear p2
  obtain ⟨x8_1, rfl, HA, HK1, ⟨m1, rfl⟩⟩ := hrel
  cases gk with
  | zero => exact absurd HA.out (by simp [slices_Index_int_int.l0])
  | succ k1 =>
   have H := HA.out
   clear HA
   simp only [slices_Index_int_int.l0] at H
   by_cases c3 : x8_1 < (l0.length : Int)
   ·rw [if_pos c3] at H
    have c3b0 : decide (x8_1 < (l0.length : Int)) = true := decide_eq_true c3
    clear c3
    by_cases c4 : 0 ≤ x8_1
    ·rw [if_pos c4] at H
     have c4b0 : decide (0 ≤ x8_1) = true := decide_eq_true c4
     clear c4
     by_cases c5 : x8_1 < (l0.length : Int)
     ·rw [if_pos c5] at H
      have c5b0 : decide (x8_1 < (l0.length : Int)) = true := decide_eq_true c5
      clear c5
      by_cases c6 : a1 = (rd l0 x8_1)
      ·rw [if_pos c6] at H
       have c6b0 : (a1 == (rd l0 x8_1)) = true := yI.mpr c6
       have c6b1 : (a1 != (rd l0 x8_1)) = false := yJ.mpr c6
       clear c6
       obtain rfl := Option.some.inj H
       have p191 : 0 ≤ (x8_1 : Int) := of_decide_eq_true (by first | (with_reducible assumption) | assumption)
       have q191 : x8_1 < (l0.length : Int) := of_decide_eq_true (by first | (with_reducible assumption) | assumption)
       obtain ⟨ad191, e191, hx191_0⟩ := Kd.at_int HR0.out x8_1 p191 q191
       cases e191
       replace p191 := eq_true p191
       replace q191 := eq_true q191
       go_wp2
       go_ret
       exact ⟨by first | rfl | (simp; done) | (simp [*]; done), by repeat (first | exact Drawn0.refl _ | apply Drawn0.step)⟩
      ·rw [if_neg c6] at H
       have c6b0 : (a1 == (rd l0 x8_1)) = false := yK.mpr c6
       have c6b1 : (a1 != (rd l0 x8_1)) = true := yL.mpr c6
       have H' := zK H
       clear H
       have p191 : 0 ≤ (x8_1 : Int) := of_decide_eq_true (by first | (with_reducible assumption) | assumption)
       have q191 : x8_1 < (l0.length : Int) := of_decide_eq_true (by first | (with_reducible assumption) | assumption)
       obtain ⟨ad191, e191, hx191_0⟩ := Kd.at_int HR0.out x8_1 p191 q191
       cases e191
       replace p191 := eq_true p191
       replace q191 := eq_true q191
       go_wp2
       go_roundg k1
       case measure => have := HK1.out; omega
       case rel => exact ⟨(wrap64 (x8_1 + 1)), zz, H', ⟨by have := HK1.out; omega⟩, by repeat (first | exact Drawn0.refl _ | apply Drawn0.step)⟩
     ·rw [if_neg c5] at H
      exact absurd H (by simp)
    ·rw [if_neg c4] at H
     exact absurd H (by simp)
   ·rw [if_neg c3] at H
    have c3b0 : decide (x8_1 < (l0.length : Int)) = false := decide_eq_false c3
    clear c3
    obtain rfl := Option.some.inj H
    go_wp2
    go_ret
    exact ⟨by first | rfl | (simp; done) | (simp [*]; done), by repeat (first | exact Drawn0.refl _ | apply Drawn0.step)⟩
def slices_Contains_int_int.f (k : Nat) (l0 : List Int) (a1 : Int) : Option (Bool) := (slices_Index_int_int.f k l0 a1).bind fun t192 => (some (decide (t192 ≥ 0)))
set_option maxHeartbeats 8000000 in
set_option maxRecDepth 100000 in
theorem slices_Contains_int_int.calls (k : Nat) (A0 : Option Addr) (c0 : Nat) (l0 : List Int) (a1 : Int) (r : Bool) (w : World) (hr0 : Kd.C (Kd.int .i64) w A0 l0.length l0) (hc0 : l0.length ≤ c0) (h : slices_Contains_int_int.f k l0 a1 = some r) :
  Calls Try.prog 54 #[.slice A0 l0.length c0, .int .i64 a1] w fun e w' => e = .returned (.bool r) ∧ Drawn0 w w' := by
 have HR0 := zK hr0
 have HC0 := zK hc0
 clear hr0 hc0
 have H : ((slices_Index_int_int.f k l0 a1).bind fun t192 => (some (decide (t192 ≥ 0)))) = some r := h
 clear h
 replace H := yH.mp H
 obtain ⟨t192, A30, H⟩ := H
 replace H : (some (decide (t192 ≥ 0))) = some r := H
 have A3 := zK A30
 clear A30
 obtain rfl := Option.some.inj H
 go_enter Try.func54, Try.ntmps54
 go_wp2_with (first | ((with_reducible refine gate_callee (f := 83) rfl ?_); refine goesL_ (some 7) rfl rfl Try.func83 (by kernel_rfl) rfl #[.slice A0 l0.length c0, .int .i64 a1] rfl zt ?_; (with_reducible refine (slices_Index_int_int.calls k _ _ l0 a1 t192 _ ?side1 ?side2 A3.out).mono ?_); (case side1 => repeat (first | exact HR0.out | (with_reducible refine zS ?_ _) | (with_reducible refine zT ?_ _) | (with_reducible refine zU ?_))); (case side2 => exact HC0.out); rintro e w' ⟨rfl, ⟨nd, rfl⟩⟩; refine ⟨_, rfl, ?_⟩))
 go_ret
 exact ⟨by first | rfl | (simp; done) | (simp [*]; done), by repeat (first | exact Drawn0.refl _ | apply Drawn0.step)⟩
def cmp_Or_int.l0 : Nat → Int → List Int → Int → Int → Option (Int)
 | 0, _, _, _, _ => none
 | k + 1, x3, x6, x7, x8 => if x8 < x7 then (if 0 ≤ x8 then (if x8 < (x6.length : Int) then (if (rd x6 x8) = x3 then (cmp_Or_int.l0 k x3 x6 x7 (wrap64 (x8 + 1))) else (some (rd x6 x8))) else (none)) else (none)) else (some x3)
def cmp_Or_int.f (k : Nat) (l0 : List Int) : Option (Int) := cmp_Or_int.l0 k 0 l0 (l0.length : Int) 0
set_option maxHeartbeats 8000000 in
set_option maxRecDepth 100000 in
theorem cmp_Or_int.calls (k : Nat) (A0 : Option Addr) (c0 : Nat) (l0 : List Int) (r : Int) (w : World) (hr0 : Kd.C (Kd.int .i64) w A0 l0.length l0) (hc0 : l0.length ≤ c0) (h : cmp_Or_int.f k l0 = some r) :
  Calls Try.prog 84 #[.slice A0 l0.length c0] w fun e w' => e = .returned (.int .i64 r) ∧ Drawn0 w w' := by
 have HR0 := zK hr0
 have HC0 := zK hc0
 clear hr0 hc0
 have H : (cmp_Or_int.l0 k 0 l0 (l0.length : Int) 0) = some r := h
 clear h
 have H' := zK H
 clear H
 go_enter Try.func84, Try.ntmps84
 go_wp2
 go_loopg [8] k (fun kq v8 w' => ∃ (x8_1 : Int), v8 = .int .i64 x8_1 ∧ Aside0 (cmp_Or_int.l0 kq 0 l0 (l0.length : Int) x8_1 = some r) ∧ Aside0 (kq ≤ k) ∧ Drawn0 w w')
 case atStart => exact ⟨(0), zz, H', ⟨Nat.le_refl _⟩, by repeat (first | exact Drawn0.refl _ | apply Drawn0.step)⟩
 case round =>
  clear H'
  obtain ⟨x8_1, rfl, HA, HK1, ⟨m1, rfl⟩⟩ := hrel
  cases gk with
  | zero => exact absurd HA.out (by simp [cmp_Or_int.l0])
  | succ k1 =>
   have H := HA.out
   clear HA
   simp only [cmp_Or_int.l0] at H
   by_cases c2 : x8_1 < (l0.length : Int)
   ·rw [if_pos c2] at H
    have c2b0 : decide (x8_1 < (l0.length : Int)) = true := decide_eq_true c2
    clear c2
    by_cases c3 : 0 ≤ x8_1
    ·rw [if_pos c3] at H
     have c3b0 : decide (0 ≤ x8_1) = true := decide_eq_true c3
     clear c3
     by_cases c4 : x8_1 < (l0.length : Int)
     ·rw [if_pos c4] at H
      have c4b0 : decide (x8_1 < (l0.length : Int)) = true := decide_eq_true c4
      clear c4
      by_cases c5 : (rd l0 x8_1) = 0
      ·rw [if_pos c5] at H
       have c5b0 : ((rd l0 x8_1) == 0) = true := yI.mpr c5
       have c5b1 : ((rd l0 x8_1) != 0) = false := yJ.mpr c5
       clear c5
       have H' := zK H
       clear H
       have p193 : 0 ≤ (x8_1 : Int) := of_decide_eq_true (by first | (with_reducible assumption) | assumption)
       have q193 : x8_1 < (l0.length : Int) := of_decide_eq_true (by first | (with_reducible assumption) | assumption)
       obtain ⟨ad193, e193, hx193_0⟩ := Kd.at_int HR0.out x8_1 p193 q193
       cases e193
       replace p193 := eq_true p193
       replace q193 := eq_true q193
       go_wp2
       go_roundg k1
       case measure => have := HK1.out; omega
       case rel => exact ⟨(wrap64 (x8_1 + 1)), zz, H', ⟨by have := HK1.out; omega⟩, by repeat (first | exact Drawn0.refl _ | apply Drawn0.step)⟩
      ·rw [if_neg c5] at H
       have c5b0 : ((rd l0 x8_1) == 0) = false := yK.mpr c5
       have c5b1 : ((rd l0 x8_1) != 0) = true := yL.mpr c5
       obtain rfl := Option.some.inj H
       have p193 : 0 ≤ (x8_1 : Int) := of_decide_eq_true (by first | (with_reducible assumption) | assumption)
       have q193 : x8_1 < (l0.length : Int) := of_decide_eq_true (by first | (with_reducible assumption) | assumption)
       obtain ⟨ad193, e193, hx193_0⟩ := Kd.at_int HR0.out x8_1 p193 q193
       cases e193
       replace p193 := eq_true p193
       replace q193 := eq_true q193
       go_wp2
       go_ret
       exact ⟨by first | rfl | (simp; done) | (simp [*]; done), by repeat (first | exact Drawn0.refl _ | apply Drawn0.step)⟩
     ·rw [if_neg c4] at H
      exact absurd H (by simp)
    ·rw [if_neg c3] at H
     exact absurd H (by simp)
   ·rw [if_neg c2] at H
    have c2b0 : decide (x8_1 < (l0.length : Int)) = false := decide_eq_false c2
    clear c2
    obtain rfl := Option.some.inj H
    go_wp2
    go_ret
    exact ⟨by first | rfl | (simp; done) | (simp [*]; done), by repeat (first | exact Drawn0.refl _ | apply Drawn0.step)⟩
def cmp_isNaN_int.f (a0 : Int) : Option (Bool) := some (a0 != a0)
set_option maxHeartbeats 8000000 in
set_option maxRecDepth 100000 in
theorem cmp_isNaN_int.calls (a0 : Int) (r : Bool) (w : World) (h : cmp_isNaN_int.f a0 = some r) :
  Calls Try.prog 119 #[.int .i64 a0] w fun e w' => e = .returned (.bool r) ∧ Drawn0 w w' := by
 have H : (some (a0 != a0)) = some r := h
 clear h
 obtain rfl := Option.some.inj H
 go_enter Try.func119, Try.ntmps119
 go_wp2
 go_ret
 exact ⟨by first | rfl | (simp; done) | (simp [*]; done), by repeat (first | exact Drawn0.refl _ | apply Drawn0.step)⟩
def cmp_Compare_int.f (a0 : Int) (a1 : Int) : Option (Int) := (cmp_isNaN_int.f a0).bind fun t194 => ((cmp_isNaN_int.f a1).bind fun t195 => (if t194 = true then (if t195 = true then (some 0) else (some (-1))) else (if t195 = true then (some 1) else (if a0 < a1 then (some (-1)) else (if a0 > a1 then (some 1) else (some 0))))))
set_option maxHeartbeats 8000000 in
set_option maxRecDepth 100000 in
theorem cmp_Compare_int.calls (a0 : Int) (a1 : Int) (r : Int) (w : World) (h : cmp_Compare_int.f a0 a1 = some r) :
  Calls Try.prog 85 #[.int .i64 a0, .int .i64 a1] w fun e w' => e = .returned (.int .i64 r) ∧ Drawn0 w w' := by
 have H : ((cmp_isNaN_int.f a0).bind fun t194 => ((cmp_isNaN_int.f a1).bind fun t195 => (if t194 = true then (if t195 = true then (some 0) else (some (-1))) else (if t195 = true then (some 1) else (if a0 < a1 then (some (-1)) else (if a0 > a1 then (some 1) else (some 0))))))) = some r := h
 clear h
 replace H := yH.mp H
 obtain ⟨t194, A30, H⟩ := H
 replace H : ((cmp_isNaN_int.f a1).bind fun t195 => (if t194 = true then (if t195 = true then (some 0) else (some (-1))) else (if t195 = true then (some 1) else (if a0 < a1 then (some (-1)) else (if a0 > a1 then (some 1) else (some 0)))))) = some r := H
 have A3 := zK A30
 clear A30
 replace H := yH.mp H
 obtain ⟨t195, A40, H⟩ := H
 replace H : (if t194 = true then (if t195 = true then (some 0) else (some (-1))) else (if t195 = true then (some 1) else (if a0 < a1 then (some (-1)) else (if a0 > a1 then (some 1) else (some 0))))) = some r := H
 have A4 := zK A40
 clear A40
 by_cases c5 : t194 = true
 ·subst c5
  have H1 : (if t195 = true then (some 0) else (some (-1))) = some r := by rw [if_pos rfl] at H; exact H
  clear H
  have H := H1
  clear H1
  by_cases c6 : t195 = true
  ·subst c6
   have H1 : (some 0) = some r := by rw [if_pos rfl] at H; exact H
   clear H
   have H := H1
   clear H1
   obtain rfl := Option.some.inj H
   go_enter Try.func85, Try.ntmps85
   go_wp2_with (first | ((with_reducible refine gate_callee (f := 119) rfl ?_); refine goesL_ (some 8) rfl rfl Try.func119 (by kernel_rfl) rfl #[.int .i64 a0] rfl zt ?_; (with_reducible refine (cmp_isNaN_int.calls a0 true _ A3.out).mono ?_); rintro e w' ⟨rfl, ⟨nd, rfl⟩⟩; refine ⟨_, rfl, ?_⟩) | ((with_reducible refine gate_callee (f := 119) rfl ?_); refine goesL_ (some 10) rfl rfl Try.func119 (by kernel_rfl) rfl #[.int .i64 a1] rfl zt ?_; (with_reducible refine (cmp_isNaN_int.calls a1 true _ A4.out).mono ?_); rintro e w' ⟨rfl, ⟨nd, rfl⟩⟩; refine ⟨_, rfl, ?_⟩))
   go_ret
   exact ⟨by first | rfl | (simp; done) | (simp [*]; done), by repeat (first | exact Drawn0.refl _ | apply Drawn0.step)⟩
  ·replace c6 := Bool.eq_false_iff.mpr c6
   subst c6
   have H1 : (some (-1)) = some r := by rw [if_neg (show ¬ (false = true) by decide)] at H; exact H
   clear H
   have H := H1
   clear H1
   obtain rfl := Option.some.inj H
   go_enter Try.func85, Try.ntmps85
   go_wp2_with (first | ((with_reducible refine gate_callee (f := 119) rfl ?_); refine goesL_ (some 8) rfl rfl Try.func119 (by kernel_rfl) rfl #[.int .i64 a0] rfl zt ?_; (with_reducible refine (cmp_isNaN_int.calls a0 true _ A3.out).mono ?_); rintro e w' ⟨rfl, ⟨nd, rfl⟩⟩; refine ⟨_, rfl, ?_⟩) | ((with_reducible refine gate_callee (f := 119) rfl ?_); refine goesL_ (some 10) rfl rfl Try.func119 (by kernel_rfl) rfl #[.int .i64 a1] rfl zt ?_; (with_reducible refine (cmp_isNaN_int.calls a1 false _ A4.out).mono ?_); rintro e w' ⟨rfl, ⟨nd, rfl⟩⟩; refine ⟨_, rfl, ?_⟩))
   go_ret
   exact ⟨by first | rfl | (simp; done) | (simp [*]; done), by repeat (first | exact Drawn0.refl _ | apply Drawn0.step)⟩
 ·replace c5 := Bool.eq_false_iff.mpr c5
  subst c5
  have H1 : (if t195 = true then (some 1) else (if a0 < a1 then (some (-1)) else (if a0 > a1 then (some 1) else (some 0)))) = some r := by rw [if_neg (show ¬ (false = true) by decide)] at H; exact H
  clear H
  have H := H1
  clear H1
  by_cases c7 : t195 = true
  ·subst c7
   have H1 : (some 1) = some r := by rw [if_pos rfl] at H; exact H
   clear H
   have H := H1
   clear H1
   obtain rfl := Option.some.inj H
   go_enter Try.func85, Try.ntmps85
   go_wp2_with (first | ((with_reducible refine gate_callee (f := 119) rfl ?_); refine goesL_ (some 8) rfl rfl Try.func119 (by kernel_rfl) rfl #[.int .i64 a0] rfl zt ?_; (with_reducible refine (cmp_isNaN_int.calls a0 false _ A3.out).mono ?_); rintro e w' ⟨rfl, ⟨nd, rfl⟩⟩; refine ⟨_, rfl, ?_⟩) | ((with_reducible refine gate_callee (f := 119) rfl ?_); refine goesL_ (some 10) rfl rfl Try.func119 (by kernel_rfl) rfl #[.int .i64 a1] rfl zt ?_; (with_reducible refine (cmp_isNaN_int.calls a1 true _ A4.out).mono ?_); rintro e w' ⟨rfl, ⟨nd, rfl⟩⟩; refine ⟨_, rfl, ?_⟩))
   go_ret
   exact ⟨by first | rfl | (simp; done) | (simp [*]; done), by repeat (first | exact Drawn0.refl _ | apply Drawn0.step)⟩
  ·replace c7 := Bool.eq_false_iff.mpr c7
   subst c7
   have H1 : (if a0 < a1 then (some (-1)) else (if a0 > a1 then (some 1) else (some 0))) = some r := by rw [if_neg (show ¬ (false = true) by decide)] at H; exact H
   clear H
   have H := H1
   clear H1
   by_cases c8 : a0 < a1
   ·rw [if_pos c8] at H
    have c8b0 : decide (a0 < a1) = true := decide_eq_true c8
    clear c8
    obtain rfl := Option.some.inj H
    go_enter Try.func85, Try.ntmps85
    go_wp2_with (first | ((with_reducible refine gate_callee (f := 119) rfl ?_); refine goesL_ (some 8) rfl rfl Try.func119 (by kernel_rfl) rfl #[.int .i64 a0] rfl zt ?_; (with_reducible refine (cmp_isNaN_int.calls a0 false _ A3.out).mono ?_); rintro e w' ⟨rfl, ⟨nd, rfl⟩⟩; refine ⟨_, rfl, ?_⟩) | ((with_reducible refine gate_callee (f := 119) rfl ?_); refine goesL_ (some 10) rfl rfl Try.func119 (by kernel_rfl) rfl #[.int .i64 a1] rfl zt ?_; (with_reducible refine (cmp_isNaN_int.calls a1 false _ A4.out).mono ?_); rintro e w' ⟨rfl, ⟨nd, rfl⟩⟩; refine ⟨_, rfl, ?_⟩))
    go_ret
    exact ⟨by first | rfl | (simp; done) | (simp [*]; done), by repeat (first | exact Drawn0.refl _ | apply Drawn0.step)⟩
   ·rw [if_neg c8] at H
    have c8b0 : decide (a0 < a1) = false := decide_eq_false c8
    clear c8
    by_cases c9 : a0 > a1
    ·rw [if_pos c9] at H
     have c9b0 : decide (a1 < a0) = true := decide_eq_true c9
     clear c9
     obtain rfl := Option.some.inj H
     go_enter Try.func85, Try.ntmps85
     go_wp2_with (first | ((with_reducible refine gate_callee (f := 119) rfl ?_); refine goesL_ (some 8) rfl rfl Try.func119 (by kernel_rfl) rfl #[.int .i64 a0] rfl zt ?_; (with_reducible refine (cmp_isNaN_int.calls a0 false _ A3.out).mono ?_); rintro e w' ⟨rfl, ⟨nd, rfl⟩⟩; refine ⟨_, rfl, ?_⟩) | ((with_reducible refine gate_callee (f := 119) rfl ?_); refine goesL_ (some 10) rfl rfl Try.func119 (by kernel_rfl) rfl #[.int .i64 a1] rfl zt ?_; (with_reducible refine (cmp_isNaN_int.calls a1 false _ A4.out).mono ?_); rintro e w' ⟨rfl, ⟨nd, rfl⟩⟩; refine ⟨_, rfl, ?_⟩))
     go_ret
     exact ⟨by first | rfl | (simp; done) | (simp [*]; done), by repeat (first | exact Drawn0.refl _ | apply Drawn0.step)⟩
    ·rw [if_neg c9] at H
     have c9b0 : decide (a1 < a0) = false := decide_eq_false c9
     clear c9
     obtain rfl := Option.some.inj H
     go_enter Try.func85, Try.ntmps85
     go_wp2_with (first | ((with_reducible refine gate_callee (f := 119) rfl ?_); refine goesL_ (some 8) rfl rfl Try.func119 (by kernel_rfl) rfl #[.int .i64 a0] rfl zt ?_; (with_reducible refine (cmp_isNaN_int.calls a0 false _ A3.out).mono ?_); rintro e w' ⟨rfl, ⟨nd, rfl⟩⟩; refine ⟨_, rfl, ?_⟩) | ((with_reducible refine gate_callee (f := 119) rfl ?_); refine goesL_ (some 10) rfl rfl Try.func119 (by kernel_rfl) rfl #[.int .i64 a1] rfl zt ?_; (with_reducible refine (cmp_isNaN_int.calls a1 false _ A4.out).mono ?_); rintro e w' ⟨rfl, ⟨nd, rfl⟩⟩; refine ⟨_, rfl, ?_⟩))
     go_ret
     exact ⟨by first | rfl | (simp; done) | (simp [*]; done), by repeat (first | exact Drawn0.refl _ | apply Drawn0.step)⟩
def tree_compare.f (k : Nat) (a0_0 : Int) (a0_1 : Int) (a0_2 : Int) (a1_0 : Int) (a1_1 : Int) (a1_2 : Int) : Option (Int) := (cmp_Compare_int.f a0_0 a1_0).bind fun t198 => ((cmp_Compare_int.f a0_1 a1_1).bind fun t199 => ((cmp_Compare_int.f a0_2 a1_2).bind fun t200 => ((cmp_Or_int.f k (([t198, t199, t200] : List Int))).bind fun t204 => (some t204))))
def tree_compare.T1 : Bool × List (List Nat × List Nat) := (true, [([], []), ([0], [0]), ([1], [1]), ([], []), ([3], [3]), ([4], [4]), ([2, 5], [2, 5]), ([], []), ([7], [7]), ([8], [8]), ([], []), ([10], [10]), ([11], [11]), ([9, 12, 6], [9, 12]), ([], []), ([14], [14]), ([], []), ([16], [16]), ([15, 17, 13], [15, 17]), ([6, 13, 18], [6, 13, 18]), ([19, 18], [19]), ([20, 20, 0, 1, 2, 3, 4, 5, 6, 7, 8, 9, 10, 11, 12, 13, 14, 15, 16, 17, 18, 19, 20], [20])])
def tree_compare.B1 : List Nat := [0, 1, 3, 0, 8, 24, 63, 0, 128, 384, 0, 1024, 3072, 8191, 0, 16384, 0, 65536, 262143, 524287, 1048575, 2097151]
theorem tree_compare.tab1 : rtab .any (opsOf Try.f55 1) = tree_compare.T1 := by kernel_rfl
theorem tree_compare.bits1 : waitsOk tree_compare.T1.2 tree_compare.B1 = true := by kernel_rfl
set_option maxHeartbeats 8000000 in
set_option maxRecDepth 100000 in
theorem tree_compare.calls (k : Nat) (a0_0 : Int) (a0_1 : Int) (a0_2 : Int) (a1_0 : Int) (a1_1 : Int) (a1_2 : Int) (r : Int) (w : World) (h : tree_compare.f k a0_0 a0_1 a0_2 a1_0 a1_1 a1_2 = some r) :
  Calls Try.prog 55 #[.agg #[.int .i64 a0_0, .int .i64 a0_1, .int .i64 a0_2], .agg #[.int .i64 a1_0, .int .i64 a1_1, .int .i64 a1_2]] w fun e w' => e = .returned (.int .i64 r) ∧ Below w.heap.size w w' := by
 have hu50 := Try.underlying50
 have HB := zK (Below.refl w.heap.size w)
 have H : ((cmp_Compare_int.f a0_0 a1_0).bind fun t198 => ((cmp_Compare_int.f a0_1 a1_1).bind fun t199 => ((cmp_Compare_int.f a0_2 a1_2).bind fun t200 => ((cmp_Or_int.f k (([t198, t199, t200] : List Int))).bind fun t204 => (some t204))))) = some r := h
 clear h
 replace H := yH.mp H
 obtain ⟨t198, A30, H⟩ := H
 replace H : ((cmp_Compare_int.f a0_1 a1_1).bind fun t199 => ((cmp_Compare_int.f a0_2 a1_2).bind fun t200 => ((cmp_Or_int.f k (([t198, t199, t200] : List Int))).bind fun t204 => (some t204)))) = some r := H
 have A3 := zK A30
 clear A30
 replace H := yH.mp H
 obtain ⟨t199, A40, H⟩ := H
 replace H : ((cmp_Compare_int.f a0_2 a1_2).bind fun t200 => ((cmp_Or_int.f k (([t198, t199, t200] : List Int))).bind fun t204 => (some t204))) = some r := H
 have A4 := zK A40
 clear A40
 replace H := yH.mp H
 obtain ⟨t200, A50, H⟩ := H
 replace H : ((cmp_Or_int.f k (([t198, t199, t200] : List Int))).bind fun t204 => (some t204)) = some r := H
 have A5 := zK A50
 clear A50
 obtain ⟨y201, hy201⟩ : ∃ y_ : List Int, y_ = (([t198, t199, t200] : List Int)) := ⟨_, rfl⟩
 replace H : ((cmp_Or_int.f k y201).bind fun t204 => (some t204)) = some r := by first | (rw [hy201]; with_reducible exact H) | (have H2_ := (Option.bind_some _ _).symm.trans H; rw [hy201]; with_reducible exact H2_) | (have H2_ := (Option.bind_some _ _).symm.trans H; with_reducible exact H2_) | with_reducible exact H | (rw [hy201]; exact H) | exact H
 have Ny201 := zK hy201
 clear hy201
 replace H := yH.mp H
 obtain ⟨t204, A60, H⟩ := H
 replace H : (some t204) = some r := H
 have A6 := zK A60
 clear A60
 obtain rfl := Option.some.inj H
 go_enter Try.func55, Try.ntmps55
 try go_wp2_with (first | ((with_reducible refine gate_dst (N := 2) rfl ?_); refine box_event ?hg (N := 2) ?hd (cs := #[.int .i64 a0_0, .int .i64 a0_1, .int .i64 a0_2]) (t := 50) ?hr ?_; (case hd => rfl); (case hg => rfl); (case hr => first | (go_simp; done) | (go_simp; rfl)); intro gb196 hg w7 hbox hb; have n0_ := zK (yF (zl HB.out) hb); have n1_ := zK (hbox); have n2_ := zK ((by rw [hg]; exact (yG (zl HB.out)) : w.heap.size ≤ gb196)); have n3_ := zK ((by rw [hg]; exact (yG (zl HB.out)) : w.heap.size ≤ gb196)); clear HB; have HB := n0_; have BK196 := n1_; have GW196 := n2_; have GE196 := n3_; clear n0_ n1_ n2_ n3_; clear hb hbox hg) | ((with_reducible refine gate_dst (N := 3) rfl ?_); refine box_event ?hg (N := 3) ?hd (cs := #[.int .i64 a1_0, .int .i64 a1_1, .int .i64 a1_2]) (t := 50) ?hr ?_; (case hd => rfl); (case hg => rfl); (case hr => first | (go_simp; done) | (go_simp; rfl)); intro gb197 hg w8 hbox hb; have n0_ := zK (zP (g := gb196) (o := .cells #[.int .i64 a0_0, .int .i64 a0_1, .int .i64 a0_2] 50 (0, 0)) (zb BK196.out) hb); have n1_ := zK (yF (zl HB.out) hb); have n2_ := zK (hbox); have n3_ := zK ((by rw [hg]; exact (yG (zl HB.out)) : w.heap.size ≤ gb197)); have n4_ := zK ((by rw [hg]; exact (yG (zl HB.out)) : w.heap.size ≤ gb197)); have n5_ := zK ((by rw [hg]; exact zN (blk_lt (g := gb196) (o := .cells #[.int .i64 a0_0, .int .i64 a0_1, .int .i64 a0_2] 50 (0, 0)) (zb BK196.out)) : gb196 ≠ gb197)); have n6_ := zK ((by rw [hg]; exact Nat.ne_of_gt (blk_lt (g := gb196) (o := .cells #[.int .i64 a0_0, .int .i64 a0_1, .int .i64 a0_2] 50 (0, 0)) (zb BK196.out)) : gb197 ≠ gb196)); clear BK196; clear HB; have BK196 := n0_; have HB := n1_; have BK197 := n2_; have GW197 := n3_; have GE197 := n4_; have NB196_197 := n5_; have NB197_196 := n6_; clear n0_ n1_ n2_ n3_ n4_ n5_ n6_; clear hb hbox hg))
 have n0_ := zK (zE BK196.out)
 have n1_ := zK (zE BK197.out)
 have n2_ := zK (zI HB.out)
 clear BK196
 clear BK197
 clear HB
 have BK196 := n0_
 have BK197 := n1_
 have HB := n2_
 clear n0_ n1_ n2_
 refine start_ (n := 22) (S := fun w' => w'.cell? ⟨gb196, 0, none⟩ = some (.int .i64 a0_0) ∧ w'.cell? ⟨gb196, 1, none⟩ = some (.int .i64 a0_1) ∧ w'.cell? ⟨gb196, 2, none⟩ = some (.int .i64 a0_2) ∧ w'.cell? ⟨gb197, 0, none⟩ = some (.int .i64 a1_0) ∧ w'.cell? ⟨gb197, 1, none⟩ = some (.int .i64 a1_1) ∧ w'.cell? ⟨gb197, 2, none⟩ = some (.int .i64 a1_2)) (ds := []) #[false, false, false, false, false, false, false, false, false, false, false, false, false, false, false, false, false, false, false, false, false, false] (by kernel_rfl) rfl rfl ⟨(zQ BK196.out 0).trans rfl, (zQ BK196.out 1).trans rfl, (zQ BK196.out 2).trans rfl, (zQ BK197.out 0).trans rfl, (zQ BK197.out 1).trans rfl, (zQ BK197.out 2).trans rfl⟩ (fun hHeld => ?_); refine with_tabW tree_compare.tab1 tree_compare.bits1 (fun HT_ HW_ => ?_)
 generalize w8.drew = w9 at BK196 BK197 HB hHeld ⊢
 refine pure_ (i := 0) (N := some 5) (v := ?_) (a' := ?_) #[true, false, false, false, false, false, false, false, false, false, false, false, false, false, false, false, false, false, false, false, false, false] rfl rfl (any_of HT_.out (by kernel_rfl)) (fun _ _ _ h => h) (Or.inl ⟨by rfl, ?_⟩) ?_ ?_
 rotate_left
 ·intro w'
  go_simp
  with_reducible rfl
 rotate_left
 ·simp only [Act.put, zY, zZ, yA, i64_w, i32_w]
  rfl
 refine pure_ (i := 1) (N := some 6) (v := ?_) (a' := ?_) #[true, true, false, false, false, false, false, false, false, false, false, false, false, false, false, false, false, false, false, false, false, false] rfl rfl (any_of HT_.out (by kernel_rfl)) (fun _ _ _ h => h) (Or.inl ⟨by rfl, ?_⟩) ?_ ?_
 rotate_left
 ·intro w'
  go_simp
  with_reducible rfl
 rotate_left
 ·simp only [Act.put, zY, zZ, yA, i64_w, i32_w]
  rfl
 refine pure_ (i := 3) (N := some 8) (v := ?_) (a' := ?_) #[true, true, false, true, false, false, false, false, false, false, false, false, false, false, false, false, false, false, false, false, false, false] rfl rfl (any_of HT_.out (by kernel_rfl)) (fun _ _ _ h => h) (Or.inl ⟨by rfl, ?_⟩) ?_ ?_
 rotate_left
 ·intro w'
  go_simp
  with_reducible rfl
 rotate_left
 ·simp only [Act.put, zY, zZ, yA, i64_w, i32_w]
  rfl
 refine pure_ (i := 4) (N := some 9) (v := ?_) (a' := ?_) #[true, true, false, true, true, false, false, false, false, false, false, false, false, false, false, false, false, false, false, false, false, false] rfl rfl (any_of HT_.out (by kernel_rfl)) (fun _ _ _ h => h) (Or.inl ⟨by rfl, ?_⟩) ?_ ?_
 rotate_left
 ·intro w'
  go_simp
  with_reducible rfl
 rotate_left
 ·simp only [Act.put, zY, zZ, yA, i64_w, i32_w]
  rfl
 refine pure_ (i := 7) (N := some 12) (v := ?_) (a' := ?_) #[true, true, false, true, true, false, false, true, false, false, false, false, false, false, false, false, false, false, false, false, false, false] rfl rfl (any_of HT_.out (by kernel_rfl)) (fun _ _ _ h => h) (Or.inl ⟨by rfl, ?_⟩) ?_ ?_
 rotate_left
 ·intro w'
  go_simp
  with_reducible rfl
 rotate_left
 ·simp only [Act.put, zY, zZ, yA, i64_w, i32_w]
  rfl
 refine pure_ (i := 8) (N := some 13) (v := ?_) (a' := ?_) #[true, true, false, true, true, false, false, true, true, false, false, false, false, false, false, false, false, false, false, false, false, false] rfl rfl (any_of HT_.out (by kernel_rfl)) (fun _ _ _ h => h) (Or.inl ⟨by rfl, ?_⟩) ?_ ?_
 rotate_left
 ·intro w'
  go_simp
  with_reducible rfl
 rotate_left
 ·simp only [Act.put, zY, zZ, yA, i64_w, i32_w]
  rfl
 refine pure_ (i := 10) (N := some 15) (v := ?_) (a' := ?_) #[true, true, false, true, true, false, false, true, true, false, true, false, false, false, false, false, false, false, false, false, false, false] rfl rfl (any_of HT_.out (by kernel_rfl)) (fun _ _ _ h => h) (Or.inl ⟨by rfl, ?_⟩) ?_ ?_
 rotate_left
 ·intro w'
  go_simp
  with_reducible rfl
 rotate_left
 ·simp only [Act.put, zY, zZ, yA, i64_w, i32_w]
  rfl
 refine pure_ (i := 11) (N := some 16) (v := ?_) (a' := ?_) #[true, true, false, true, true, false, false, true, true, false, true, true, false, false, false, false, false, false, false, false, false, false] rfl rfl (any_of HT_.out (by kernel_rfl)) (fun _ _ _ h => h) (Or.inl ⟨by rfl, ?_⟩) ?_ ?_
 rotate_left
 ·intro w'
  go_simp
  with_reducible rfl
 rotate_left
 ·simp only [Act.put, zY, zZ, yA, i64_w, i32_w]
  rfl
 refine pure_ (i := 14) (N := some 19) (v := ?_) (a' := ?_) #[true, true, false, true, true, false, false, true, true, false, true, true, false, false, true, false, false, false, false, false, false, false] rfl rfl (any_of HT_.out (by kernel_rfl)) (fun _ _ _ h => h) (Or.inl ⟨by rfl, ?_⟩) ?_ ?_
 rotate_left
 ·intro w'
  go_simp
  with_reducible rfl
 rotate_left
 ·simp only [Act.put, zY, zZ, yA, i64_w, i32_w]
  rfl
 refine pure_ (i := 16) (N := some 21) (v := ?_) (a' := ?_) #[true, true, false, true, true, false, false, true, true, false, true, true, false, false, true, false, true, false, false, false, false, false] rfl rfl (any_of HT_.out (by kernel_rfl)) (fun _ _ _ h => h) (Or.inl ⟨by rfl, ?_⟩) ?_ ?_
 rotate_left
 ·intro w'
  go_simp
  with_reducible rfl
 rotate_left
 ·simp only [Act.put, zY, zZ, yA, i64_w, i32_w]
  rfl
 refine take_ (i := 2) (N := some 7) (v := ?_) (a' := ?_) #[true, true, true, true, true, false, false, true, true, false, true, true, false, false, true, false, true, false, false, false, false, false] rfl rfl (take_ofW HT_.out HW_.out (by kernel_rfl)) (fun _ _ _ h => h) (Or.inl ⟨by rfl, ?_⟩) hHeld ?_ ?_
 rotate_left
 ·rintro w' ⟨s0, s1, s2, s3, s4, s5⟩
  go_simp
  with_reducible rfl
 rotate_left
 ·simp only [Act.put, zY, zZ, yA, i64_w, i32_w]
  rfl
 refine take_ (i := 5) (N := some 10) (v := ?_) (a' := ?_) #[true, true, true, true, true, true, false, true, true, false, true, true, false, false, true, false, true, false, false, false, false, false] rfl rfl (take_ofW HT_.out HW_.out (by kernel_rfl)) (fun _ _ _ h => h) (Or.inl ⟨by rfl, ?_⟩) hHeld ?_ ?_
 rotate_left
 ·rintro w' ⟨s0, s1, s2, s3, s4, s5⟩
  go_simp
  with_reducible rfl
 rotate_left
 ·simp only [Act.put, zY, zZ, yA, i64_w, i32_w]
  rfl
 refine take_ (i := 9) (N := some 14) (v := ?_) (a' := ?_) #[true, true, true, true, true, true, false, true, true, true, true, true, false, false, true, false, true, false, false, false, false, false] rfl rfl (take_ofW HT_.out HW_.out (by kernel_rfl)) (fun _ _ _ h => h) (Or.inl ⟨by rfl, ?_⟩) hHeld ?_ ?_
 rotate_left
 ·rintro w' ⟨s0, s1, s2, s3, s4, s5⟩
  go_simp
  with_reducible rfl
 rotate_left
 ·simp only [Act.put, zY, zZ, yA, i64_w, i32_w]
  rfl
 refine take_ (i := 12) (N := some 17) (v := ?_) (a' := ?_) #[true, true, true, true, true, true, false, true, true, true, true, true, true, false, true, false, true, false, false, false, false, false] rfl rfl (take_ofW HT_.out HW_.out (by kernel_rfl)) (fun _ _ _ h => h) (Or.inl ⟨by rfl, ?_⟩) hHeld ?_ ?_
 rotate_left
 ·rintro w' ⟨s0, s1, s2, s3, s4, s5⟩
  go_simp
  with_reducible rfl
 rotate_left
 ·simp only [Act.put, zY, zZ, yA, i64_w, i32_w]
  rfl
 refine take_ (i := 15) (N := some 20) (v := ?_) (a' := ?_) #[true, true, true, true, true, true, false, true, true, true, true, true, true, false, true, true, true, false, false, false, false, false] rfl rfl (take_ofW HT_.out HW_.out (by kernel_rfl)) (fun _ _ _ h => h) (Or.inl ⟨by rfl, ?_⟩) hHeld ?_ ?_
 rotate_left
 ·rintro w' ⟨s0, s1, s2, s3, s4, s5⟩
  go_simp
  with_reducible rfl
 rotate_left
 ·simp only [Act.put, zY, zZ, yA, i64_w, i32_w]
  rfl
 refine take_ (i := 17) (N := some 22) (v := ?_) (a' := ?_) #[true, true, true, true, true, true, false, true, true, true, true, true, true, false, true, true, true, true, false, false, false, false] rfl rfl (take_ofW HT_.out HW_.out (by kernel_rfl)) (fun _ _ _ h => h) (Or.inl ⟨by rfl, ?_⟩) hHeld ?_ ?_
 rotate_left
 ·rintro w' ⟨s0, s1, s2, s3, s4, s5⟩
  go_simp
  with_reducible rfl
 rotate_left
 ·simp only [Act.put, zY, zZ, yA, i64_w, i32_w]
  rfl
 refine one_ (i := 6) (N := some 11) #[true, true, true, true, true, true, true, true, true, true, true, true, true, false, true, true, true, true, false, false, false, false] rfl rfl (one_of HT_.out (by kernel_rfl)) (by decide) (fun K hK => ?_)
 refine goes_ Try.func85 (by kernel_rfl) rfl #[.int .i64 a0_0, .int .i64 a1_0] (by rfl) rfl rfl zt ?_
 with_reducible refine (cmp_Compare_int.calls a0_0 a1_0 t198 _ A3.out).mono ?_
 rintro e w' ⟨rfl, ⟨nd, rfl⟩⟩
 refine ⟨_, rfl, ?_⟩
 refine hK.out _ _ ⟨(zQ BK196.out 0).trans rfl, (zQ BK196.out 1).trans rfl, (zQ BK196.out 2).trans rfl, (zQ BK197.out 0).trans rfl, (zQ BK197.out 1).trans rfl, (zQ BK197.out 2).trans rfl⟩ (fun hHeld => ?_)
 clear hK K
 refine norm_ (a' := ?_) ?_ ?_
 rotate_left
 ·show Act.put _ (some 11) _ = _
  simp only [Act.put, zY, zZ, yA, i64_w, i32_w]
  rfl
 refine one_ (i := 13) (N := some 18) #[true, true, true, true, true, true, true, true, true, true, true, true, true, true, true, true, true, true, false, false, false, false] rfl rfl (one_of HT_.out (by kernel_rfl)) (by decide) (fun K hK => ?_)
 refine goes_ Try.func85 (by kernel_rfl) rfl #[.int .i64 a0_1, .int .i64 a1_1] (by rfl) rfl rfl zt ?_
 with_reducible refine (cmp_Compare_int.calls a0_1 a1_1 t199 _ A4.out).mono ?_
 rintro e w' ⟨rfl, ⟨nd, rfl⟩⟩
 refine ⟨_, rfl, ?_⟩
 refine hK.out _ _ ⟨(zQ BK196.out 0).trans rfl, (zQ BK196.out 1).trans rfl, (zQ BK196.out 2).trans rfl, (zQ BK197.out 0).trans rfl, (zQ BK197.out 1).trans rfl, (zQ BK197.out 2).trans rfl⟩ (fun hHeld => ?_)
 clear hK K
 refine norm_ (a' := ?_) ?_ ?_
 rotate_left
 ·show Act.put _ (some 18) _ = _
  simp only [Act.put, zY, zZ, yA, i64_w, i32_w]
  rfl
 refine one_ (i := 18) (N := some 23) #[true, true, true, true, true, true, true, true, true, true, true, true, true, true, true, true, true, true, true, false, false, false] rfl rfl (one_of HT_.out (by kernel_rfl)) (by decide) (fun K hK => ?_)
 refine goes_ Try.func85 (by kernel_rfl) rfl #[.int .i64 a0_2, .int .i64 a1_2] (by rfl) rfl rfl zt ?_
 with_reducible refine (cmp_Compare_int.calls a0_2 a1_2 t200 _ A5.out).mono ?_
 rintro e w' ⟨rfl, ⟨nd, rfl⟩⟩
 refine ⟨_, rfl, ?_⟩
 refine hK.out _ _ ⟨(zQ BK196.out 0).trans rfl, (zQ BK196.out 1).trans rfl, (zQ BK196.out 2).trans rfl, (zQ BK197.out 0).trans rfl, (zQ BK197.out 1).trans rfl, (zQ BK197.out 2).trans rfl⟩ (fun hHeld => ?_)
 clear hK K
 refine norm_ (a' := ?_) ?_ ?_
 rotate_left
 ·show Act.put _ (some 23) _ = _
  simp only [Act.put, zY, zZ, yA, i64_w, i32_w]
  rfl
 refine one_ (i := 19) (N := some 24) #[true, true, true, true, true, true, true, true, true, true, true, true, true, true, true, true, true, true, true, true, false, false] rfl rfl (one_of HT_.out (by kernel_rfl)) (by decide) (fun K hK => ?_)
 refine Kd.R_lit_step (Kd.int .i64) _ 3 ?hg (N := 24) ?hd (xs := ([t198, t199, t200] : List Int)) (inner := [.int .i64 t198, .int .i64 t199, .int .i64 t200]) (ok := fun _ => True) (okp := fun _ => True) ?hr ?hp (fun _ hk => hk) trivial (Below.refl _ _) (Nat.le_refl _) (by simp) ?_; (case hd => rfl); (case hg => rfl); (case hr => first | (go_simp; done) | (go_simp; rfl)); (case hp => exact (Reps.one (show Kd.M (Kd.int .i64) _ _ _ t198 [.int .i64 t198] from rfl) (Reps.one (show Kd.M (Kd.int .i64) _ _ _ t199 [.int .i64 t199] from rfl) (Reps.one (show Kd.M (Kd.int .i64) _ _ _ t200 [.int .i64 t200] from rfl) (Reps.none _ _)))))
 intro v202 w10 ho11 hb hg_ hnew_
 clear hg_ hnew_
 (first | rw [← Ny201.out] at ho11 | (simp only [Int.reduceToNat] at ho11; rw [← Ny201.out] at ho11))
 have n0_ := zK (zV ho11 (yG (zl HB.out)))
 have n1_ := zK (zP (g := gb196) (o := .cells #[.int .i64 a0_0, .int .i64 a0_1, .int .i64 a0_2] 50 (0, 0)) (zb BK196.out) hb)
 have n2_ := zK (zP (g := gb197) (o := .cells #[.int .i64 a1_0, .int .i64 a1_1, .int .i64 a1_2] 50 (0, 0)) (zb BK197.out) hb)
 have n3_ := zK (yF (zl HB.out) hb)
 clear BK196
 clear BK197
 clear HB
 have HO203 := n0_
 have BK196 := n1_
 have BK197 := n2_
 have HB := n3_
 clear n0_ n1_ n2_ n3_
 clear hb ho11
 obtain ⟨Ao12, co12, eo12⟩ := yE HO203.out
 (first | subst eo12 | (injection eo12 with f1_ f2_ f3_; have f4_ := f1_.symm; have f5_ := f3_.symm; clear f1_ f2_ f3_; subst f4_; subst f5_))
 refine hK.out _ _ ⟨(zQ BK196.out 0).trans rfl, (zQ BK196.out 1).trans rfl, (zQ BK196.out 2).trans rfl, (zQ BK197.out 0).trans rfl, (zQ BK197.out 1).trans rfl, (zQ BK197.out 2).trans rfl⟩ (fun hHeld => ?_)
 clear hK K
 refine norm_ (a' := ?_) ?_ ?_
 rotate_left
 ·show Act.put _ (some 24) _ = _
  simp only [Act.put, zY, zZ, yA, i64_w, i32_w]
  rfl
 refine one_ (i := 20) (N := some 25) #[true, true, true, true, true, true, true, true, true, true, true, true, true, true, true, true, true, true, true, true, true, false] rfl rfl (one_of HT_.out (by kernel_rfl)) (by decide) (fun K hK => ?_)
 refine goes_ Try.func84 (by kernel_rfl) rfl #[.slice Ao12 y201.length co12] (by rfl) rfl rfl zt ?_
 with_reducible refine (cmp_Or_int.calls k _ _ y201 t204 _ ?side1 ?side2 A6.out).mono ?_
 (case side1 => exact zc (zX HO203.out).2.2)
 (case side2 => exact (zX HO203.out).2.1)
 rintro e w' ⟨rfl, ⟨nd, rfl⟩⟩
 refine ⟨_, rfl, ?_⟩
 refine hK.out _ _ ⟨(zQ BK196.out 0).trans rfl, (zQ BK196.out 1).trans rfl, (zQ BK196.out 2).trans rfl, (zQ BK197.out 0).trans rfl, (zQ BK197.out 1).trans rfl, (zQ BK197.out 2).trans rfl⟩ (fun hHeld => ?_)
 clear hK K
 refine norm_ (a' := ?_) ?_ ?_
 rotate_left
 ·show Act.put _ (some 25) _ = _
  simp only [Act.put, zY, zZ, yA, i64_w, i32_w]
  rfl
 refine pure_ (i := 21) (N := some 4) (v := ?_) (a' := ?_) #[true, true, true, true, true, true, true, true, true, true, true, true, true, true, true, true, true, true, true, true, true, true] rfl rfl (any_of HT_.out (by kernel_rfl)) (fun _ _ _ h => h) (Or.inl ⟨by rfl, ?_⟩) ?_ ?_
 rotate_left
 ·intro w'
  go_simp
  with_reducible rfl
 rotate_left
 ·simp only [Act.put, zY, zZ, yA, i64_w, i32_w]
  rfl
 refine done_ (done_of HT_.out (by kernel_rfl)) ?_
 try go_wp2
 go_ret
 exact ⟨ze, zl HB.out⟩
end Go.Proofs.Ytgkjpffbgnljeaa.QA
/- span.May, Both, Meets, rate.Is, an error's number, the document's SpanMay, Both and Rate: what they answer, and that the calls answer so. -/
set_option linter.unusedVariables false
set_option linter.unusedSimpArgs false
namespace Go.Proofs.Ytgkjpffbgnljeaa.Man
open Go.RowKit Go.Proofs.Ytgkjpffbgnljeaa.QT Go.Proofs.YtgkjpffbgnljeaaW.PrintWords Go.Proofs.YtgkjpffbgnljeaaW.PrintLast Go.Proofs.YtgkjpffbgnljeaaW.PrintMore
def mayF (a b : Int) : Bool := decide (0 ≤ a) && decide (a < b) && decide (b ≤ 4096)
theorem mayF_true {a b : Int} : mayF a b = true ↔ 0 ≤ a ∧ a < b ∧ b ≤ 4096 := by simp [mayF, and_assoc]
set_option maxHeartbeats 4000000 in
set_option maxRecDepth 100000 in
theorem may_is (a b : Int) (w : World) : Calls Try.prog 47 #[.agg #[.int .i64 a, .int .i64 b]] w fun e w' => e = .returned (.bool (mayF a b)) ∧ Below w.heap.size w w' := by
 unfold mayF
 cases h0 : decide (0 ≤ a)
 ·go_enter Try.func47, Try.ntmps47
  go_wp2
  go_ret
  exact ⟨rfl, (Below.refl _ _).alloc (Nat.le_refl _) _⟩
 cases h1 : decide (a < b)
 all_goals
  go_enter Try.func47, Try.ntmps47
  go_wp2
  go_ret
  exact ⟨by first | rfl | simp, (Below.refl _ _).alloc (Nat.le_refl _) _⟩
theorem max2_mx (k k' : IntKind) (x y : Int) : Builtin.max2 (.int k x) (.int k' y) = pure (.int k (mx x y)) := max2_int k k' x y
theorem min2_mn (k k' : IntKind) (x y : Int) : Builtin.min2 (.int k x) (.int k' y) = pure (.int k (mn x y)) := min2_int k k' x y
attribute [local go_sem] max2_mx min2_mn max_two min_two
attribute [local go_sem high] eqA27
theorem bcell {W w1 : World} (hb : Below W.heap.size W w1) : (∀ b o, b < W.heap.size → w1.cell? ⟨b, o, none⟩ = W.cell? ⟨b, o, none⟩) ∧ (∀ b o, b < W.heap.size → w1.frozen? ⟨b, o, none⟩ = W.frozen? ⟨b, o, none⟩) :=
 ⟨fun b o h => hb.cell (p := ⟨b, o, none⟩) h, fun b o h => hb.frozen (p := ⟨b, o, none⟩) h⟩
theorem belowW {B : Nat} {w W w1 : World} (h : Below B w W) (hb : Below W.heap.size W w1) (hB : B ≤ W.heap.size) : Below B w w1 := below_then h hB hb
def bothF (a b c d : Int) : Int × Int × Bool := if mayF a b = true then if mayF c d = true then if mayF (mx a c) (mn b d) = true then (mx a c, mn b d, true) else (0, 0, false) else (0, 0, false) else (0, 0, false)
set_option maxHeartbeats 8000000 in
set_option maxRecDepth 100000 in
theorem both_is (a b c d : Int) (w : World) : Calls Try.prog 106 #[.agg #[.int .i64 a, .int .i64 b], .agg #[.int .i64 c, .int .i64 d]] w fun e w' => e = .returned (.tuple #[.agg #[.int .i64 (bothF a b c d).1, .int .i64 (bothF a b c d).2.1], .bool (bothF a b c d).2.2]) ∧ Below w.heap.size w w' := by
 have HN : Hid (∀ w1, Below ((((w.alloc (.cells #[.int .i64 a, .int .i64 b] 27)).alloc (.cells #[.int .i64 c, .int .i64 d] 27)).alloc (.cells #[.int .i64 0, .int .i64 0] 27)).alloc (.cells #[.int .i64 (mx a c), .int .i64 (mn b d)] 27)).heap.size ((((w.alloc (.cells #[.int .i64 a, .int .i64 b] 27)).alloc (.cells #[.int .i64 c, .int .i64 d] 27)).alloc (.cells #[.int .i64 0, .int .i64 0] 27)).alloc (.cells #[.int .i64 (mx a c), .int .i64 (mn b d)] 27)) w1 → w1.heap[w.heap.size + 1 + 1]? = some (.cells #[.int .i64 0, .int .i64 0] 27 (0, 0)) ∧ Below w.heap.size w w1) := by
  refine Lib.hid fun w1 hb => ⟨?_, belowW (((((Below.refl w.heap.size w).alloc (Nat.le_refl _) _).alloc (by simp) _).alloc (by simp; omega) _).alloc (by simp; omega) _) hb (by simp; omega)⟩
  have := blk_below (blk_alloc (blk_new ((w.alloc (.cells #[.int .i64 a, .int .i64 b] 27)).alloc (.cells #[.int .i64 c, .int .i64 d] 27)) (.cells #[.int .i64 0, .int .i64 0] 27 (0, 0))) _) hb
  simpa using this
 cases h1 : mayF a b
 ·have H1 := Lib.hid h1
  have HF : Hid (bothF a b c d = (0, 0, false)) := Lib.hid (by unfold bothF; rw [if_neg (by rw [h1]; decide)])
  rw [HF.out]
  clear h1
  go_enter Try.func106, Try.ntmps106
  go_wp2_with fail
  refine (may_is a b _).mono ?_
  rintro e w1 ⟨rfl, hb⟩
  obtain ⟨hc1, hf1⟩ := bcell hb
  have BB1 := Lib.hid hb
  rw [H1.out]
  clear hb
  have HBK := Lib.hid (HN.out _ BB1.out).1
  have HB := Lib.hid (HN.out _ BB1.out).2
  go_wp2
  have hb2 := blk_set (blk_set HBK.out 0 (.int .i64 0)) 1 (.int .i64 0)
  have q0 := blk_cell hb2 0
  have q1 := blk_cell hb2 1
  have q2 := blk_cell (blk_set HBK.out 0 (.int .i64 0)) 0
  simp at q0 q1 q2
  exact bodyPost_ret (v := .tuple #[.agg #[.int .i64 0, .int .i64 0], .bool false]) (by simp [results, Try.results106, go_sem, q1, q2]) rfl ⟨rfl, (HB.out.setCell (p := ⟨w.heap.size + 1 + 1, 0, none⟩) (by show w.heap.size ≤ w.heap.size + 1 + 1; omega) _).setCell (p := ⟨w.heap.size + 1 + 1, 1, none⟩) (by show w.heap.size ≤ w.heap.size + 1 + 1; omega) _⟩
 cases h2 : mayF c d
 ·have H1 := Lib.hid h1
  have H2 := Lib.hid h2
  have HF : Hid (bothF a b c d = (0, 0, false)) := Lib.hid (by unfold bothF; rw [if_pos h1, if_neg (by rw [h2]; decide)])
  rw [HF.out]
  clear h1 h2
  go_enter Try.func106, Try.ntmps106
  go_wp2_with fail
  refine (may_is a b _).mono ?_
  rintro e w1 ⟨rfl, hb⟩
  obtain ⟨hc1, hf1⟩ := bcell hb
  have BB1 := Lib.hid hb
  rw [H1.out]
  clear hb
  go_wp2_with fail
  refine (may_is c d _).mono ?_
  rintro e w2 ⟨rfl, hb⟩
  have BB2 := Lib.hid (belowW BB1.out hb (by have := BB1.out.size; simpa using this))
  obtain ⟨hc2, hf2⟩ := bcell BB2.out
  clear hc1 hf1
  rw [H2.out]
  clear hb
  have HBK := Lib.hid (HN.out _ BB2.out).1
  have HB := Lib.hid (HN.out _ BB2.out).2
  go_wp2
  have hb2 := blk_set (blk_set HBK.out 0 (.int .i64 0)) 1 (.int .i64 0)
  have q0 := blk_cell hb2 0
  have q1 := blk_cell hb2 1
  have q2 := blk_cell (blk_set HBK.out 0 (.int .i64 0)) 0
  simp at q0 q1 q2
  exact bodyPost_ret (v := .tuple #[.agg #[.int .i64 0, .int .i64 0], .bool false]) (by simp [results, Try.results106, go_sem, q1, q2]) rfl ⟨rfl, (HB.out.setCell (p := ⟨w.heap.size + 1 + 1, 0, none⟩) (by show w.heap.size ≤ w.heap.size + 1 + 1; omega) _).setCell (p := ⟨w.heap.size + 1 + 1, 1, none⟩) (by show w.heap.size ≤ w.heap.size + 1 + 1; omega) _⟩
 cases h3 : mayF (mx a c) (mn b d)
 ·have H1 := Lib.hid h1
  have H2 := Lib.hid h2
  have H3 := Lib.hid h3
  have HF : Hid (bothF a b c d = (0, 0, false)) := Lib.hid (by unfold bothF; rw [if_pos h1, if_pos h2, if_neg (by rw [h3]; decide)])
  rw [HF.out]
  clear h1 h2 h3
  go_enter Try.func106, Try.ntmps106
  go_wp2_with fail
  refine (may_is a b _).mono ?_
  rintro e w1 ⟨rfl, hb⟩
  obtain ⟨hc1, hf1⟩ := bcell hb
  have BB1 := Lib.hid hb
  rw [H1.out]
  clear hb
  go_wp2_with fail
  refine (may_is c d _).mono ?_
  rintro e w2 ⟨rfl, hb⟩
  have BB2 := Lib.hid (belowW BB1.out hb (by have := BB1.out.size; simpa using this))
  obtain ⟨hc2, hf2⟩ := bcell BB2.out
  clear hc1 hf1
  rw [H2.out]
  clear hb
  go_wp2_with fail
  refine (may_is _ _ _).mono ?_
  rintro e w3 ⟨rfl, hb⟩
  have BB3 := Lib.hid (belowW BB2.out hb (by have := BB2.out.size; simpa using this))
  obtain ⟨hc3, hf3⟩ := bcell BB3.out
  clear hc2 hf2
  rw [H3.out]
  clear hb
  have HBK := Lib.hid (HN.out _ BB3.out).1
  have HB := Lib.hid (HN.out _ BB3.out).2
  go_wp2
  have hb2 := blk_set (blk_set HBK.out 0 (.int .i64 0)) 1 (.int .i64 0)
  have q0 := blk_cell hb2 0
  have q1 := blk_cell hb2 1
  have q2 := blk_cell (blk_set HBK.out 0 (.int .i64 0)) 0
  simp at q0 q1 q2
  exact bodyPost_ret (v := .tuple #[.agg #[.int .i64 0, .int .i64 0], .bool false]) (by simp [results, Try.results106, go_sem, q1, q2]) rfl ⟨rfl, (HB.out.setCell (p := ⟨w.heap.size + 1 + 1, 0, none⟩) (by show w.heap.size ≤ w.heap.size + 1 + 1; omega) _).setCell (p := ⟨w.heap.size + 1 + 1, 1, none⟩) (by show w.heap.size ≤ w.heap.size + 1 + 1; omega) _⟩
 ·have H1 := Lib.hid h1
  have H2 := Lib.hid h2
  have H3 := Lib.hid h3
  have HF : Hid (bothF a b c d = (mx a c, mn b d, true)) := Lib.hid (by unfold bothF; rw [if_pos h1, if_pos h2, if_pos h3])
  rw [HF.out]
  clear h1 h2 h3
  go_enter Try.func106, Try.ntmps106
  go_wp2_with fail
  refine (may_is a b _).mono ?_
  rintro e w1 ⟨rfl, hb⟩
  obtain ⟨hc1, hf1⟩ := bcell hb
  have BB1 := Lib.hid hb
  rw [H1.out]
  clear hb
  go_wp2_with fail
  refine (may_is c d _).mono ?_
  rintro e w2 ⟨rfl, hb⟩
  have BB2 := Lib.hid (belowW BB1.out hb (by have := BB1.out.size; simpa using this))
  obtain ⟨hc2, hf2⟩ := bcell BB2.out
  clear hc1 hf1
  rw [H2.out]
  clear hb
  go_wp2_with fail
  refine (may_is _ _ _).mono ?_
  rintro e w3 ⟨rfl, hb⟩
  have BB3 := Lib.hid (belowW BB2.out hb (by have := BB2.out.size; simpa using this))
  obtain ⟨hc3, hf3⟩ := bcell BB3.out
  clear hc2 hf2
  rw [H3.out]
  clear hb
  have HBK := Lib.hid (HN.out _ BB3.out).1
  have HB := Lib.hid (HN.out _ BB3.out).2
  go_wp2
  have hb2 := blk_set (blk_set HBK.out 0 (.int .i64 (mx a c))) 1 (.int .i64 (mn b d))
  have q0 := blk_cell hb2 0
  have q1 := blk_cell hb2 1
  have q2 := blk_cell (blk_set HBK.out 0 (.int .i64 (mx a c))) 0
  simp at q0 q1 q2
  exact bodyPost_ret (v := .tuple #[.agg #[.int .i64 (mx a c), .int .i64 (mn b d)], .bool true]) (by simp [results, Try.results106, go_sem, q1, q2]) rfl ⟨rfl, (HB.out.setCell (p := ⟨w.heap.size + 1 + 1, 0, none⟩) (by show w.heap.size ≤ w.heap.size + 1 + 1; omega) _).setCell (p := ⟨w.heap.size + 1 + 1, 1, none⟩) (by show w.heap.size ≤ w.heap.size + 1 + 1; omega) _⟩
set_option maxHeartbeats 8000000 in
set_option maxRecDepth 100000 in
theorem meets_is (a b c d : Int) (w : World) : Calls Try.prog 78 #[.agg #[.int .i64 a, .int .i64 b], .agg #[.int .i64 c, .int .i64 d]] w fun e w' => e = .returned (.bool (bothF a b c d).2.2) ∧ Below w.heap.size w w' := by
 obtain ⟨p, hp⟩ : ∃ p, bothF a b c d = p := ⟨_, rfl⟩
 have HP := Lib.hid hp
 rw [hp]
 clear hp
 go_enter Try.func78, Try.ntmps78
 go_wp2_with fail
 refine (both_is a b c d _).mono ?_
 rintro e w1 ⟨rfl, hb⟩
 rw [HP.out]
 have HB := Lib.hid (belowW (((Below.refl w.heap.size w).alloc (Nat.le_refl _) _).alloc (by simp) _) hb (by simp; omega))
 clear hb
 go_wp2
 go_ret
 exact ⟨rfl, HB.out.alloc HB.out.size _⟩
def rateF (x : Int) : Bool := decide (0 ≤ x) && decide (x ≤ 4611686018427387904)
end Go.Proofs.Ytgkjpffbgnljeaa.Man
/- Plain math of the trees of chapter 17: items in their row, trees that are turned even, put, drop (no program in sight). -/
set_option linter.unusedVariables false
set_option linter.unusedSimpArgs false
namespace Go.Proofs.Ytgkjpffbgnljeaa.TreeM
structure Itm where
 fr : Int
 to_ : Int
 id : Int
deriving DecidableEq
def lt (a b : Itm) : Prop := a.fr < b.fr ∨ (a.fr = b.fr ∧ (a.to_ < b.to_ ∨ (a.to_ = b.to_ ∧ a.id < b.id)))
instance (a b : Itm) : Decidable (lt a b) := by unfold lt; exact inferInstance
theorem lt_trans {a b c : Itm} (h : lt a b) (g : lt b c) : lt a c := by unfold lt at *; omega
theorem lt_irrefl (a : Itm) : ¬ lt a a := by unfold lt; omega
theorem lt_asymm {a b : Itm} (h : lt a b) : ¬ lt b a := by unfold lt at *; omega
theorem lt_total {a b : Itm} (h : ¬ lt a b) (g : ¬ lt b a) : a = b := by
 obtain ⟨a1, a2, a3⟩ := a
 obtain ⟨b1, b2, b3⟩ := b
 unfold lt at h g
 simp only at h g
 have e1 : a1 = b1 := by omega
 have e2 : a2 = b2 := by omega
 have e3 : a3 = b3 := by omega
 rw [e1, e2, e3]
def withF : List Itm → Itm → List Itm
 | [], x => [x]
 | y :: ys, x => if lt x y then x :: y :: ys else y :: withF ys x
abbrev Row (xs : List Itm) : Prop := xs.Pairwise lt
theorem with_left {x y : Itm} (h : lt x y) (b : List Itm) : ∀ a : List Itm, withF (a ++ y :: b) x = withF a x ++ y :: b
 | [] => by simp [withF, h]
 | z :: a => by
  simp only [List.cons_append, withF]
  split
  ·rfl
  ·rw [with_left h b a]; rfl
theorem with_right {x y : Itm} (h : ¬ lt x y) (b : List Itm) : ∀ a : List Itm, (∀ z ∈ a, lt z y) → withF (a ++ y :: b) x = a ++ y :: withF b x
 | [], _ => by simp [withF, h]
 | z :: a, hz => by
  have h1 : ¬ lt x z := fun hx => h (lt_trans hx (hz z List.mem_cons_self))
  simp only [List.cons_append, withF, if_neg h1]
  rw [with_right h b a (fun q hq => hz q (List.mem_cons_of_mem _ hq))]
theorem with_mem {x : Itm} : ∀ {xs : List Itm} {z : Itm}, z ∈ withF xs x → z = x ∨ z ∈ xs
 | [], z, h => by simpa [withF] using h
 | y :: ys, z, h => by
  unfold withF at h
  split at h
  ·simpa using h
  ·rcases List.mem_cons.1 h with h | h
   ·exact .inr (by rw [h]; exact List.mem_cons_self)
   ·rcases with_mem h with h | h
    ·exact .inl h
    ·exact .inr (List.mem_cons_of_mem _ h)
theorem with_row {x : Itm} : ∀ {xs : List Itm}, Row xs → x ∉ xs → Row (withF xs x)
 | [], _, _ => by simp [withF]
 | y :: ys, h, hn => by
  obtain ⟨h1, h2⟩ := List.pairwise_cons.1 h
  unfold withF
  split
  case isTrue hlt =>
   refine List.pairwise_cons.2 ⟨fun z hz => ?_, h⟩
   rcases List.mem_cons.1 hz with rfl | hz
   ·exact hlt
   ·exact lt_trans hlt (h1 z hz)
  case isFalse hlt =>
   have hyx : lt y x := by
    by_cases hg : lt y x
    ·exact hg
    ·exact absurd (by rw [lt_total hlt hg]; exact List.mem_cons_self) hn
   refine List.pairwise_cons.2 ⟨fun z hz => ?_, with_row h2 (fun hm => hn (List.mem_cons_of_mem _ hm))⟩
   rcases with_mem hz with rfl | hz
   ·exact hyx
   ·exact h1 z hz
inductive T where
 | nil : T
 | node (p : Nat) (x : Itm) (l r : T) : T
deriving DecidableEq
open T
def items : T → List Itm
 | nil => []
 | node _ x l r => items l ++ x :: items r
def places : T → List Nat
 | nil => []
 | node p _ l r => places l ++ p :: places r
def hgt : T → Nat
 | nil => 0
 | node _ _ l r => 1 + max (hgt l) (hgt r)
def most : T → Int
 | nil => 0
 | node _ x l r => max x.to_ (max (most l) (most r))
def bal : T → Prop
 | nil => True
 | node _ _ l r => bal l ∧ bal r ∧ hgt l ≤ hgt r + 1 ∧ hgt r ≤ hgt l + 1
def rotL : T → T
 | node p x l (node q y a b) => node q y (node p x l a) b
 | t => t
def rotR : T → T
 | node p x (node q y a b) r => node q y a (node p x b r)
 | t => t
def leanR : T → Bool
 | nil => false
 | node _ _ l r => decide (hgt l < hgt r)
def leanL : T → Bool
 | nil => false
 | node _ _ l r => decide (hgt r < hgt l)
def even (p : Nat) (x : Itm) (l r : T) : T :=
 if hgt l = hgt r + 2 then (if leanR l = true then rotR (node p x (rotL l) r) else rotR (node p x l r))
 else if hgt r = hgt l + 2 then (if leanL r = true then rotL (node p x l (rotR r)) else rotL (node p x l r))
 else node p x l r
theorem items_rotL (t : T) : items (rotL t) = items t := by
 match t with
 | nil => rfl
 | node p x l nil => rfl
 | node p x l (node q y a b) => simp [rotL, items]
theorem items_rotR (t : T) : items (rotR t) = items t := by
 match t with
 | nil => rfl
 | node p x nil r => rfl
 | node p x (node q y a b) r => simp [rotR, items]
theorem items_even (p : Nat) (x : Itm) (l r : T) : items (even p x l r) = items l ++ x :: items r := by
 unfold even
 split
 ·split
  ·rw [items_rotR]; simp [items, items_rotL]
  ·rw [items_rotR]; rfl
 ·split
  ·split
   ·rw [items_rotL]; simp [items, items_rotR]
   ·rw [items_rotL]; rfl
  ·rfl
theorem places_rotL (t : T) : (places (rotL t)).Perm (places t) := by
 match t with
 | nil => exact List.Perm.refl _
 | node p x l nil => exact List.Perm.refl _
 | node p x l (node q y a b) => simp [rotL, places]
theorem places_rotR (t : T) : (places (rotR t)).Perm (places t) := by
 match t with
 | nil => exact List.Perm.refl _
 | node p x nil r => exact List.Perm.refl _
 | node p x (node q y a b) r => simp [rotR, places]
theorem even_bal (p : Nat) (x : Itm) (l r : T) (hl : bal l) (hr : bal r) (h1 : hgt l ≤ hgt r + 2) (h2 : hgt r ≤ hgt l + 2) :
  bal (even p x l r) ∧ (hgt l ≤ hgt r + 1 → hgt r ≤ hgt l + 1 → hgt (even p x l r) = 1 + max (hgt l) (hgt r)) ∧ (hgt l = hgt r + 2 → hgt (even p x l r) = hgt l ∨ hgt (even p x l r) = hgt l + 1) ∧ (hgt r = hgt l + 2 → hgt (even p x l r) = hgt r ∨ hgt (even p x l r) = hgt r + 1) := by
 unfold even
 split
 case isTrue e =>
  match l, hl, e with
  | nil, _, e => simp [hgt] at e
  | node q y a b, hl, e =>
   obtain ⟨ha, hb, g1, g2⟩ := hl
   simp only [hgt] at e h1 h2
   split
   case isTrue f =>
    simp only [leanR, decide_eq_true_eq] at f
    match b, hb, g1, g2, e, f, h1, h2 with
    | nil, _, _, _, _, f, _, _ => simp [hgt] at f
    | node s z c d, hb, g1, g2, e, f, h1, h2 =>
     obtain ⟨hc, hd, k1, k2⟩ := hb
     simp only [hgt] at *
     simp only [rotL, rotR, bal, hgt]
     refine ⟨⟨⟨ha, hc, by omega, by omega⟩, ⟨hd, hr, by omega, by omega⟩, by omega, by omega⟩, fun _ _ => by omega, fun _ => by omega, fun _ => by omega⟩
   case isFalse f =>
    simp only [leanR, decide_eq_true_eq] at f
    simp only [rotR, bal, hgt]
    refine ⟨⟨ha, ⟨hb, hr, by omega, by omega⟩, by omega, by omega⟩, fun _ _ => by omega, fun _ => by omega, fun _ => by omega⟩
 case isFalse e =>
  split
  case isTrue e2 =>
   match r, hr, e, e2 with
   | nil, _, _, e2 => simp [hgt] at e2
   | node q y a b, hr, e, e2 =>
    obtain ⟨ha, hb, g1, g2⟩ := hr
    simp only [hgt] at e e2 h1 h2
    split
    case isTrue f =>
     simp only [leanL, decide_eq_true_eq] at f
     match a, ha, g1, g2, e, e2, f, h1, h2 with
     | nil, _, _, _, _, _, f, _, _ => simp [hgt] at f
     | node s z c d, ha, g1, g2, e, e2, f, h1, h2 =>
      obtain ⟨hc, hd, k1, k2⟩ := ha
      simp only [hgt] at *
      simp only [rotL, rotR, bal, hgt]
      refine ⟨⟨⟨hl, hc, by omega, by omega⟩, ⟨hd, hb, by omega, by omega⟩, by omega, by omega⟩, fun _ _ => by omega, fun _ => by omega, fun _ => by omega⟩
    case isFalse f =>
     simp only [leanL, decide_eq_true_eq] at f
     simp only [rotL, bal, hgt]
     refine ⟨⟨⟨hl, ha, by omega, by omega⟩, hb, by omega, by omega⟩, fun _ _ => by omega, fun _ => by omega, fun _ => by omega⟩
  case isFalse e2 =>
   simp only [bal, hgt]
   exact ⟨⟨hl, hr, by omega, by omega⟩, fun _ _ => trivial, fun h => absurd h e, fun h => absurd h e2⟩
def put : T → Itm → Nat → T
 | nil, x, p => node p x nil nil
 | node q y l r, x, p => if lt x y then even q y (put l x p) r else even q y l (put r x p)
theorem items_put (x : Itm) (p : Nat) : ∀ t : T, Row (items t) → items (put t x p) = withF (items t) x
 | nil, _ => rfl
 | node q y l r, h => by
  have h' : Row (items l ++ y :: items r) := h
  obtain ⟨h1, h2, h3⟩ := List.pairwise_append.1 h'
  unfold put
  show _ = withF (items l ++ y :: items r) x
  split
  case isTrue hlt => rw [items_even, items_put x p l h1, with_left hlt]
  case isFalse hlt => rw [items_even, items_put x p r (List.pairwise_cons.1 h2).2, with_right hlt _ _ (fun z hz => h3 z hz y List.mem_cons_self)]
theorem put_bal (x : Itm) (p : Nat) : ∀ t : T, bal t → bal (put t x p) ∧ (hgt (put t x p) = hgt t ∨ hgt (put t x p) = hgt t + 1)
 | nil, _ => by simp [put, bal, hgt]
 | node q y l r, h => by
  obtain ⟨hl, hr, g1, g2⟩ := h
  unfold put
  split
  ·obtain ⟨b1, b2⟩ := put_bal x p l hl
   obtain ⟨e1, e2, e3, e4⟩ := even_bal q y (put l x p) r b1 hr (by omega) (by omega)
   refine ⟨e1, ?_⟩
   simp only [hgt]
   by_cases k : hgt (put l x p) = hgt r + 2
   ·have := e3 k; omega
   ·by_cases k2 : hgt r = hgt (put l x p) + 2
    ·have := e4 k2; omega
    ·have := e2 (by omega) (by omega); omega
  ·obtain ⟨b1, b2⟩ := put_bal x p r hr
   obtain ⟨e1, e2, e3, e4⟩ := even_bal q y l (put r x p) hl b1 (by omega) (by omega)
   refine ⟨e1, ?_⟩
   simp only [hgt]
   by_cases k : hgt l = hgt (put r x p) + 2
   ·have := e3 k; omega
   ·by_cases k2 : hgt (put r x p) = hgt l + 2
    ·have := e4 k2; omega
    ·have := e2 (by omega) (by omega); omega
def first : T → Itm
 | nil => ⟨0, 0, 0⟩
 | node _ x nil _ => x
 | node _ _ (node p x l r) _ => first (node p x l r)
def drop : T → Itm → T
 | nil, _ => nil
 | node q y l r, x => if lt x y then even q y (drop l x) r else if lt y x then even q y l (drop r x) else if l = nil then r else if r = nil then l else even q (first r) l (drop r (first r))
def gone : T → Itm → Nat
 | nil, _ => 0
 | node q y l r, x => if lt x y then gone l x else if lt y x then gone r x else if l = nil then q else if r = nil then q else gone r (first r)
theorem first_mem : ∀ t : T, t ≠ nil → first t ∈ items t
 | nil, h => absurd rfl h
 | node p x nil r, _ => by simp [first, items]
 | node p x (node q y a b) r, _ => by
  have := first_mem (node q y a b) (by simp)
  show first (node q y a b) ∈ items (node q y a b) ++ x :: items r
  exact List.mem_append_left _ this
theorem first_items : ∀ t : T, t ≠ nil → ∃ rest, items t = first t :: rest
 | nil, h => absurd rfl h
 | node p x nil r, _ => ⟨items r, rfl⟩
 | node p x (node q y a b) r, _ => by
  obtain ⟨rest, h⟩ := first_items (node q y a b) (by simp)
  refine ⟨rest ++ x :: items r, ?_⟩
  show items (node q y a b) ++ x :: items r = first (node q y a b) :: _
  rw [h]; rfl
def sans (xs : List Itm) (x : Itm) : List Itm := xs.filter (fun y => !decide (y = x))
theorem sans_none {x : Itm} : ∀ {xs : List Itm}, x ∉ xs → sans xs x = xs := by
 intro xs h
 unfold sans
 rw [List.filter_eq_self]
 intro y hy
 simp only [Bool.not_eq_true', decide_eq_false_iff_not]
 rintro rfl
 exact h hy
theorem sans_append (a b : List Itm) (x : Itm) : sans (a ++ b) x = sans a x ++ sans b x := by unfold sans; rw [List.filter_append]
theorem sans_cons_ne {x y : Itm} (h : y ≠ x) (b : List Itm) : sans (y :: b) x = y :: sans b x := by unfold sans; rw [List.filter_cons, if_pos (by simp [h])]
theorem sans_cons_eq (x : Itm) (b : List Itm) : sans (x :: b) x = sans b x := by unfold sans; rw [List.filter_cons, if_neg (by simp)]
theorem sans_row {x : Itm} {xs : List Itm} (h : Row xs) : Row (sans xs x) := List.Pairwise.sublist List.filter_sublist h
theorem row_parts {a b : List Itm} {y : Itm} (h : Row (a ++ y :: b)) : Row a ∧ Row b ∧ (∀ z ∈ a, lt z y) ∧ (∀ z ∈ b, lt y z) := by
 obtain ⟨h1, h2, h3⟩ := List.pairwise_append.1 h
 obtain ⟨h4, h5⟩ := List.pairwise_cons.1 h2
 exact ⟨h1, h5, fun z hz => h3 z hz y List.mem_cons_self, h4⟩
theorem row_low {a b : List Itm} {x y : Itm} (h : Row (a ++ y :: b)) (hx : lt x y) : y ≠ x ∧ x ∉ b := by
 obtain ⟨_, _, _, h4⟩ := row_parts h
 exact ⟨fun e => lt_irrefl x (e ▸ hx), fun hm => lt_irrefl x (lt_trans hx (h4 x hm))⟩
theorem row_up {a b : List Itm} {x y : Itm} (h : Row (a ++ y :: b)) (hx : lt y x) : y ≠ x ∧ x ∉ a := by
 obtain ⟨_, _, h3, _⟩ := row_parts h
 exact ⟨fun e => lt_irrefl x (e ▸ hx), fun hm => lt_irrefl x (lt_trans (h3 x hm) hx)⟩
theorem row_mid {a b : List Itm} {y : Itm} (h : Row (a ++ y :: b)) : y ∉ a ∧ y ∉ b := by
 obtain ⟨_, _, h3, h4⟩ := row_parts h
 exact ⟨fun hm => lt_irrefl y (h3 y hm), fun hm => lt_irrefl y (h4 y hm)⟩
theorem mem_low {a b : List Itm} {x y : Itm} (h : Row (a ++ y :: b)) (hx : lt x y) (hm : x ∈ a ++ y :: b) : x ∈ a := by
 obtain ⟨g1, g2⟩ := row_low h hx
 simp only [List.mem_append, List.mem_cons] at hm
 rcases hm with hm | hm | hm
 ·exact hm
 ·exact absurd hm.symm g1
 ·exact absurd hm g2
theorem mem_up {a b : List Itm} {x y : Itm} (h : Row (a ++ y :: b)) (hx : lt y x) (hm : x ∈ a ++ y :: b) : x ∈ b := by
 obtain ⟨g1, g2⟩ := row_up h hx
 simp only [List.mem_append, List.mem_cons] at hm
 rcases hm with hm | hm | hm
 ·exact absurd hm g2
 ·exact absurd hm.symm g1
 ·exact hm
theorem items_drop : ∀ (t : T) (x : Itm), Row (items t) → x ∈ items t → items (drop t x) = sans (items t) x
 | nil, x, _, h => by simp [items] at h
 | node q y l r, x, h, hm => by
  have h' : Row (items l ++ y :: items r) := h
  have hm' : x ∈ items l ++ y :: items r := hm
  obtain ⟨h1, h2, h3, h4⟩ := row_parts h'
  unfold drop
  show _ = sans (items l ++ y :: items r) x
  rw [sans_append]
  split
  case isTrue hlt =>
   obtain ⟨g1, g2⟩ := row_low h' hlt
   rw [items_even, items_drop l x h1 (mem_low h' hlt hm'), sans_cons_ne g1, sans_none g2]
  case isFalse hlt =>
   split
   case isTrue hgt =>
    obtain ⟨g1, g2⟩ := row_up h' hgt
    rw [items_even, items_drop r x h2 (mem_up h' hgt hm'), sans_cons_ne g1, sans_none g2]
   case isFalse hgt =>
    have e : x = y := lt_total hlt hgt
    subst e
    obtain ⟨g1, g2⟩ := row_mid h'
    rw [sans_cons_eq, sans_none g1, sans_none g2]
    split
    case isTrue e => rw [e]; rfl
    case isFalse e =>
     split
     case isTrue f => rw [f]; simp [items]
     case isFalse f =>
      obtain ⟨rest, hr⟩ := first_items r f
      rw [items_even, items_drop r (first r) h2 (first_mem r f), hr, sans_cons_eq, sans_none]
      rw [hr] at h2
      exact fun hm => lt_irrefl _ ((List.pairwise_cons.1 h2).1 _ hm)
theorem drop_bal : ∀ (t : T) (x : Itm), Row (items t) → x ∈ items t → bal t → bal (drop t x) ∧ (hgt (drop t x) = hgt t ∨ hgt (drop t x) + 1 = hgt t)
 | nil, x, _, h, _ => by simp [items] at h
 | node q y l r, x, h, hm, hb => by
  have h' : Row (items l ++ y :: items r) := h
  have hm' : x ∈ items l ++ y :: items r := hm
  obtain ⟨h1, h2, h3, h4⟩ := row_parts h'
  obtain ⟨hl, hr, k1, k2⟩ := hb
  unfold drop
  split
  case isTrue hlt =>
   obtain ⟨b1, b2⟩ := drop_bal l x h1 (mem_low h' hlt hm') hl
   obtain ⟨e1, e2, e3, e4⟩ := even_bal q y (drop l x) r b1 hr (by omega) (by omega)
   refine ⟨e1, ?_⟩
   simp only [hgt]
   by_cases k : hgt (drop l x) = hgt r + 2
   ·have := e3 k; omega
   ·by_cases k2 : hgt r = hgt (drop l x) + 2
    ·have := e4 k2; omega
    ·have := e2 (by omega) (by omega); omega
  case isFalse hlt =>
   split
   case isTrue hgt' =>
    obtain ⟨b1, b2⟩ := drop_bal r x h2 (mem_up h' hgt' hm') hr
    obtain ⟨e1, e2, e3, e4⟩ := even_bal q y l (drop r x) hl b1 (by omega) (by omega)
    refine ⟨e1, ?_⟩
    simp only [hgt]
    by_cases k : hgt l = hgt (drop r x) + 2
    ·have := e3 k; omega
    ·by_cases k2 : hgt (drop r x) = hgt l + 2
     ·have := e4 k2; omega
     ·have := e2 (by omega) (by omega); omega
   case isFalse hgt' =>
    split
    case isTrue e =>
     subst e
     simp only [hgt] at *
     exact ⟨hr, by omega⟩
    case isFalse e =>
     split
     case isTrue f =>
      subst f
      simp only [hgt] at *
      exact ⟨hl, by omega⟩
     case isFalse f =>
      obtain ⟨b1, b2⟩ := drop_bal r (first r) h2 (first_mem r f) hr
      obtain ⟨e1, e2, e3, e4⟩ := even_bal q (first r) l (drop r (first r)) hl b1 (by omega) (by omega)
      refine ⟨e1, ?_⟩
      simp only [hgt]
      by_cases k : hgt l = hgt (drop r (first r)) + 2
      ·have := e3 k; omega
      ·by_cases k2 : hgt (drop r (first r)) = hgt l + 2
       ·have := e4 k2; omega
       ·have := e2 (by omega) (by omega); omega
theorem places_even (p : Nat) (x : Itm) (l r : T) : (places (even p x l r)).Perm (p :: (places l ++ places r)) := by
 unfold even
 split
 ·split
  ·refine (places_rotR _).trans ?_
   show (places (rotL l) ++ p :: places r).Perm _
   refine List.perm_middle.trans ?_
   exact List.Perm.cons _ ((places_rotL l).append_right _)
  ·exact (places_rotR _).trans List.perm_middle
 ·split
  ·split
   ·refine (places_rotL _).trans ?_
    show (places l ++ p :: places (rotR r)).Perm _
    refine List.perm_middle.trans ?_
    exact List.Perm.cons _ ((places_rotR r).append_left _)
   ·exact (places_rotL _).trans List.perm_middle
  ·exact List.perm_middle
theorem places_put (x : Itm) (p : Nat) : ∀ t : T, (places (put t x p)).Perm (p :: places t)
 | nil => List.Perm.refl _
 | node q y l r => by
  unfold put
  show List.Perm _ (p :: (places l ++ q :: places r))
  split
  ·refine (places_even _ _ _ _).trans ?_
   refine (List.Perm.cons q ((places_put x p l).append_right _)).trans ?_
   refine (List.Perm.swap p q _).trans (List.Perm.cons p ?_)
   exact List.perm_middle.symm
  ·refine (places_even _ _ _ _).trans ?_
   refine (List.Perm.cons q ((places_put x p r).append_left _)).trans ?_
   refine (List.Perm.cons q List.perm_middle).trans ?_
   refine (List.Perm.swap p q _).trans (List.Perm.cons p ?_)
   exact List.perm_middle.symm
theorem places_drop : ∀ (t : T) (x : Itm), Row (items t) → x ∈ items t → (gone t x :: places (drop t x)).Perm (places t)
 | nil, x, _, h => by simp [items] at h
 | node q y l r, x, h, hm => by
  have h' : Row (items l ++ y :: items r) := h
  have hm' : x ∈ items l ++ y :: items r := hm
  obtain ⟨h1, h2, h3, h4⟩ := row_parts h'
  unfold drop gone
  show List.Perm _ (places l ++ q :: places r)
  split
  case isTrue hlt =>
   have ih := places_drop l x h1 (mem_low h' hlt hm')
   refine (List.Perm.cons _ (places_even _ _ _ _)).trans ?_
   refine (List.Perm.swap q _ _).trans ?_
   exact (List.Perm.cons q (ih.append_right (places r))).trans List.perm_middle.symm
  case isFalse hlt =>
   split
   case isTrue hgt' =>
    have ih := places_drop r x h2 (mem_up h' hgt' hm')
    refine (List.Perm.cons _ (places_even _ _ _ _)).trans ?_
    refine (List.Perm.swap q _ _).trans ?_
    refine (List.Perm.cons q (List.perm_middle.symm.trans (ih.append_left (places l)))).trans List.perm_middle.symm
   case isFalse hgt' =>
    split
    case isTrue e => subst e; exact List.Perm.refl _
    case isFalse e =>
     split
     case isTrue f => subst f; exact (List.perm_middle (l₂ := [])).symm.trans (List.Perm.refl _) |>.symm |> fun h => by simpa [places] using h.symm
     case isFalse f =>
      have ih := places_drop r (first r) h2 (first_mem r f)
      refine (List.Perm.cons _ (places_even _ _ _ _)).trans ?_
      refine (List.Perm.swap q _ _).trans ?_
      refine (List.Perm.cons q (List.perm_middle.symm.trans (ih.append_left (places l)))).trans List.perm_middle.symm
theorem items_places : ∀ t : T, (items t).length = (places t).length
 | nil => rfl
 | node p x l r => by simp [items, places, items_places l, items_places r]
end Go.Proofs.Ytgkjpffbgnljeaa.TreeM
/- What hangs at a place in a row of nodes' cells, plain: seven numbers a node. -/
set_option linter.unusedVariables false
set_option linter.unusedSimpArgs false
namespace Go.Proofs.Ytgkjpffbgnljeaa.TreeM
open T
abbrev Cells := Nat → Int
def upd (a : Cells) (j : Nat) (v : Int) : Cells := fun k => if k = j then v else a k
theorem upd_same (a : Cells) (j : Nat) (v : Int) : upd a j v j = v := by simp [upd]
theorem upd_ne {a : Cells} {j k : Nat} {v : Int} (h : k ≠ j) : upd a j v k = a k := by simp [upd, h]
def ItAt (a : Cells) (p : Nat) (x : Itm) : Prop := a (p * 7) = x.fr ∧ a (p * 7 + 1) = x.to_ ∧ a (p * 7 + 2) = x.id
def Hang (a : Cells) : T → Int → Prop
 | nil, i => i = -1
 | node p x l r, i => i = (p : Int) ∧ ItAt a p x ∧ Hang a l (a (p * 7 + 3)) ∧ Hang a r (a (p * 7 + 4)) ∧ a (p * 7 + 5) = (hgt (node p x l r) : Int) ∧ a (p * 7 + 6) = most (node p x l r)
def Half (a : Cells) (p : Nat) (x : Itm) (l r : T) : Prop := ItAt a p x ∧ Hang a l (a (p * 7 + 3)) ∧ Hang a r (a (p * 7 + 4))
theorem Hang.half {a : Cells} {p : Nat} {x : Itm} {l r : T} {i : Int} (h : Hang a (node p x l r) i) : Half a p x l r := ⟨h.2.1, h.2.2.1, h.2.2.2.1⟩
def Off (P : Nat → Prop) (a a' : Cells) : Prop := ∀ p, ¬ P p → ∀ k, k < 7 → a' (p * 7 + k) = a (p * 7 + k)
theorem Off.refl (P : Nat → Prop) (a : Cells) : Off P a a := fun _ _ _ _ => rfl
theorem Off.trans {P : Nat → Prop} {a b c : Cells} (h : Off P a b) (g : Off P b c) : Off P a c := fun p hp k hk => (g p hp k hk).trans (h p hp k hk)
theorem Off.mono {P Q : Nat → Prop} {a b : Cells} (h : Off P a b) (g : ∀ p, P p → Q p) : Off Q a b := fun p hp k hk => h p (fun hq => hp (g p hq)) k hk
theorem Off.upd (a : Cells) (p k : Nat) (v : Int) (hk : k < 7) : Off (fun q => q = p) a (upd a (p * 7 + k) v) := fun q hq j hj => upd_ne (by omega)
theorem Off.item {P : Nat → Prop} {a a' : Cells} (h : Off P a a') {p : Nat} (hp : ¬ P p) {x : Itm} (g : ItAt a p x) : ItAt a' p x := by
 have h0 := h p hp 0 (by omega)
 have h1 := h p hp 1 (by omega)
 have h2 := h p hp 2 (by omega)
 exact ⟨h0.trans g.1, h1.trans g.2.1, h2.trans g.2.2⟩
theorem Hang.off {P : Nat → Prop} {a a' : Cells} (h : Off P a a') : ∀ {t : T} {i : Int}, Hang a t i → (∀ p ∈ places t, ¬ P p) → Hang a' t i
 | nil, _, g, _ => g
 | node p x l r, i, ⟨g1, g2, g3, g4, g5, g6⟩, hp => by
  have hpp : ¬ P p := hp p (by simp [places])
  refine ⟨g1, h.item hpp g2, ?_, ?_, (h p hpp 5 (by omega)).trans g5, (h p hpp 6 (by omega)).trans g6⟩
  ·rw [h p hpp 3 (by omega)]
   exact Hang.off h g3 (fun q hq => hp q (by simp [places, hq]))
  ·rw [h p hpp 4 (by omega)]
   exact Hang.off h g4 (fun q hq => hp q (by simp [places, hq]))
def plc : T → Int
 | nil => -1
 | node p _ _ _ => (p : Int)
theorem Hang.plc {a : Cells} : ∀ {t : T} {i : Int}, Hang a t i → i = plc t
 | nil, _, h => h
 | node _ _ _ _, _, h => h.1
theorem Hang.one {a : Cells} : ∀ {t s : T} {i : Int}, Hang a t i → Hang a s i → t = s
 | nil, nil, _, _, _ => rfl
 | nil, node p x l r, i, h, g => by have h1 : i = -1 := h; have g1 : i = (p : Int) := g.1; omega
 | node p x l r, nil, i, h, g => by have h1 : i = -1 := g; have g1 : i = (p : Int) := h.1; omega
 | node p x l r, node q y b c, i, h, g => by
  obtain ⟨h1, ⟨h2, h3, h4⟩, h5, h6, _⟩ := h
  obtain ⟨g1, ⟨g2, g3, g4⟩, g5, g6, _⟩ := g
  have e : p = q := by omega
  subst e
  have e2 : x = y := by
   obtain ⟨x1, x2, x3⟩ := x
   obtain ⟨y1, y2, y3⟩ := y
   simp only at h2 h3 h4 g2 g3 g4
   rw [← h2, ← h3, ← h4, g2, g3, g4]
  rw [e2, Hang.one h5 g5, Hang.one h6 g6]
def hiF (a : Cells) (i : Int) : Int := if i = -1 then 0 else a (i.toNat * 7 + 5)
def moF (a : Cells) (i : Int) : Int := if i = -1 then 0 else a (i.toNat * 7 + 6)
theorem Hang.hi {a : Cells} : ∀ {t : T} {i : Int}, Hang a t i → hiF a i = (hgt t : Int)
 | nil, _, h => by have h : _ = -1 := h; simp [hiF, h, hgt]
 | node p x l r, i, h => by
  obtain ⟨rfl, _, _, _, h5, _⟩ := h
  unfold hiF
  rw [if_neg (by omega), Int.toNat_natCast, h5]
theorem Hang.mo {a : Cells} : ∀ {t : T} {i : Int}, Hang a t i → moF a i = most t
 | nil, _, h => by have h : _ = -1 := h; simp [moF, h, most]
 | node p x l r, i, h => by
  obtain ⟨rfl, _, _, _, _, h6⟩ := h
  unfold moF
  rw [if_neg (by omega), Int.toNat_natCast, h6]
def Within (nn : Nat) (t : T) : Prop := ∀ p ∈ places t, p < nn
theorem Within.l {nn p : Nat} {x : Itm} {l r : T} (h : Within nn (node p x l r)) : Within nn l := fun q hq => h q (by simp [places, hq])
theorem Within.r {nn p : Nat} {x : Itm} {l r : T} (h : Within nn (node p x l r)) : Within nn r := fun q hq => h q (by simp [places, hq])
theorem Within.p {nn p : Nat} {x : Itm} {l r : T} (h : Within nn (node p x l r)) : p < nn := h p (by simp [places])
theorem Within.place {nn : Nat} {t : T} (h : Within nn t) {a : Cells} {i : Int} (g : Hang a t i) : i = -1 ∨ (0 ≤ i ∧ i < (nn : Int)) := by
 match t with
 | nil => exact .inl g
 | node p x l r => have := h.p; have := g.1; exact .inr ⟨by omega, by omega⟩
structure Apart (p : Nat) (l r : T) : Prop where
 nl : p ∉ places l
 nr : p ∉ places r
 dl : (places l).Nodup
 dr : (places r).Nodup
 lr : ∀ q ∈ places l, q ∉ places r
theorem Apart.of {p : Nat} {x : Itm} {l r : T} (h : (places (node p x l r)).Nodup) : Apart p l r := by
 have h' : (places l ++ p :: places r).Nodup := h
 obtain ⟨h1, h2, h3⟩ := List.nodup_append.1 h'
 obtain ⟨h4, h5⟩ := List.nodup_cons.1 h2
 exact ⟨fun hm => h3 p hm p List.mem_cons_self rfl, h4, h1, h5, fun q hq hr => h3 q hq q (List.mem_cons_of_mem _ hr) rfl⟩
theorem Apart.nodup {p : Nat} {x : Itm} {l r : T} (h : Apart p l r) : (places (node p x l r)).Nodup := by
 show (places l ++ p :: places r).Nodup
 refine List.nodup_append.2 ⟨h.dl, List.nodup_cons.2 ⟨h.nr, h.dr⟩, fun q hq s hs e => ?_⟩
 subst e
 rcases List.mem_cons.1 hs with rfl | hs
 ·exact h.nl hq
 ·exact h.lr q hq hs
theorem Half.settle {a a' : Cells} {p : Nat} {x : Itm} {l r : T} (h : Half a p x l r) (hp : Apart p l r)
  (h5 : a' (p * 7 + 5) = 1 + max (hgt l : Int) (hgt r)) (h6 : a' (p * 7 + 6) = max x.to_ (max (most l) (most r))) (ho : ∀ j, j ≠ p * 7 + 5 → j ≠ p * 7 + 6 → a' j = a j) : Hang a' (node p x l r) (p : Int) := by
 have hoff : Off (fun q => q = p) a a' := fun q hq k hk => ho _ (by omega) (by omega)
 obtain ⟨⟨g1, g2, g3⟩, g4, g5⟩ := h
 refine ⟨rfl, ⟨?_, ?_, ?_⟩, ?_, ?_, ?_, h6⟩
 ·rw [ho _ (by omega) (by omega)]; exact g1
 ·rw [ho _ (by omega) (by omega)]; exact g2
 ·rw [ho _ (by omega) (by omega)]; exact g3
 ·rw [ho _ (by omega) (by omega)]; exact Hang.off hoff g4 (fun q hq e => hp.nl (e ▸ hq))
 ·rw [ho _ (by omega) (by omega)]; exact Hang.off hoff g5 (fun q hq e => hp.nr (e ▸ hq))
 ·rw [h5]; simp only [hgt]; omega
theorem Half.left {a : Cells} {p : Nat} {x : Itm} {l r l' : T} {i : Int} (h : Half a p x l r) (hp : p ∉ places l') (hr : p ∉ places r) (hl : Hang a l' i) : Half (upd a (p * 7 + 3) i) p x l' r := by
 obtain ⟨⟨g1, g2, g3⟩, g4, g5⟩ := h
 have ho := Off.upd a p 3 i (by omega)
 refine ⟨⟨(upd_ne (by omega)).trans g1, (upd_ne (by omega)).trans g2, (upd_ne (by omega)).trans g3⟩, ?_, ?_⟩
 ·rw [upd_same]; exact Hang.off ho hl (fun q hq e => hp (e ▸ hq))
 ·rw [upd_ne (by omega)]; exact Hang.off ho g5 (fun q hq e => hr (e ▸ hq))
theorem Half.right {a : Cells} {p : Nat} {x : Itm} {l r r' : T} {i : Int} (h : Half a p x l r) (hp : p ∉ places r') (hl : p ∉ places l) (hr : Hang a r' i) : Half (upd a (p * 7 + 4) i) p x l r' := by
 obtain ⟨⟨g1, g2, g3⟩, g4, g5⟩ := h
 have ho := Off.upd a p 4 i (by omega)
 refine ⟨⟨(upd_ne (by omega)).trans g1, (upd_ne (by omega)).trans g2, (upd_ne (by omega)).trans g3⟩, ?_, ?_⟩
 ·rw [upd_ne (by omega)]; exact Hang.off ho g4 (fun q hq e => hl (e ▸ hq))
 ·rw [upd_same]; exact Hang.off ho hr (fun q hq e => hp (e ▸ hq))
theorem Half.off {P : Nat → Prop} {a a' : Cells} (ho : Off P a a') {p : Nat} {x : Itm} {l r : T} (h : Half a p x l r) (hp : ¬ P p) (hl : ∀ q ∈ places l, ¬ P q) (hr : ∀ q ∈ places r, ¬ P q) : Half a' p x l r := by
 obtain ⟨g1, g4, g5⟩ := h
 refine ⟨ho.item hp g1, ?_, ?_⟩
 ·rw [ho p hp 3 (by omega)]; exact Hang.off ho g4 hl
 ·rw [ho p hp 4 (by omega)]; exact Hang.off ho g5 hr
end Go.Proofs.Ytgkjpffbgnljeaa.TreeM
/- Contracts of Go's library functions, laid at this dump by the kit's own tool: each by one application. -/
namespace Go.Proofs
open Go.Shelf
def Try.lays189_ren : Go.Shelf.Ren := ⟨fun | 189 => 49 | 125 => 80 | 257 => 79 | 128 => 116 | 129 => 117 | 294 => 107 | 295 => 108 | 296 => 109 | 297 => 110 | 298 => 111 | 299 => 112 | 216 => 113 | 300 => 114 | 301 => 115 | 328 => 140 | 329 => 141 | 330 => 142 | 331 => 143 | 332 => 144 | 215 => 119 | 343 => 157 | n => n, fun | 28 => 23 | 3 => 3 | 46 => 130 | 0 => 0 | 51 => 172 | 53 => 174 | 4 => 4 | 183 => 164 | 182 => 163 | 131 => 169 | 5 => 5 | 9 => 9 | 218 => 191 | 222 => 195 | 228 => 209 | 229 => 131 | n => n, fun | n => n⟩
theorem Try.lays189 : Go.Proofs.Lays.n189 Try.prog Try.lays189_ren := {
 mixed := by kernel_rfl
 f125 := Try.func80.trans (congrArg some (by kernel_rfl))
 f128 := Try.func116.trans (congrArg some (by kernel_rfl))
 f129 := Try.func117.trans (congrArg some (by kernel_rfl))
 f189 := Try.func49.trans (congrArg some (by kernel_rfl))
 f215 := Try.func119.trans (congrArg some (by kernel_rfl))
 f216 := Try.func113.trans (congrArg some (by kernel_rfl))
 f257 := Try.func79.trans (congrArg some (by kernel_rfl))
 f294 := Try.func107.trans (congrArg some (by kernel_rfl))
 f295 := Try.func108.trans (congrArg some (by kernel_rfl))
 f296 := Try.func109.trans (congrArg some (by kernel_rfl))
 f297 := Try.func110.trans (congrArg some (by kernel_rfl))
 f298 := Try.func111.trans (congrArg some (by kernel_rfl))
 f299 := Try.func112.trans (congrArg some (by kernel_rfl))
 f300 := Try.func114.trans (congrArg some (by kernel_rfl))
 f301 := Try.func115.trans (congrArg some (by kernel_rfl))
 f328 := Try.func140.trans (congrArg some (by kernel_rfl))
 f329 := Try.func141.trans (congrArg some (by kernel_rfl))
 f330 := Try.func142.trans (congrArg some (by kernel_rfl))
 f331 := Try.func143.trans (congrArg some (by kernel_rfl))
 f332 := Try.func144.trans (congrArg some (by kernel_rfl))
 f343 := Try.func157.trans (congrArg some (by kernel_rfl))
 t0 := Try.underlying0
 a0 := Try.isAgg0
 z0 := Try.sizeOf0
 v0 := Try.zeroValue0
 t3 := Try.underlying3
 a3 := Try.isAgg3
 z3 := Try.sizeOf3
 v3 := Try.zeroValue3
 t4 := Try.underlying4
 a4 := Try.isAgg4
 z4 := Try.sizeOf4
 v4 := Try.zeroValue4
 t5 := Try.underlying5
 a5 := Try.isAgg5
 z5 := Try.sizeOf5
 v5 := Try.zeroValue5
 t9 := Try.underlying9
 a9 := Try.isAgg9
 z9 := Try.sizeOf9
 v9 := Try.zeroValue9
 t28 := Try.underlying23
 a28 := Try.isAgg23
 z28 := Try.sizeOf23
 v28 := Try.zeroValue23
 t46 := Try.underlying130
 a46 := Try.isAgg130
 z46 := Try.sizeOf130
 v46 := Try.zeroValue130
 t51 := Try.underlying172
 a51 := Try.isAgg172
 z51 := Try.sizeOf172
 v51 := Try.zeroValue172
 t53 := Try.underlying174
 a53 := Try.isAgg174
 z53 := Try.sizeOf174
 v53 := Try.zeroValue174
 t131 := Try.underlying169
 a131 := Try.isAgg169
 z131 := Try.sizeOf169
 v131 := Try.zeroValue169
 t182 := Try.underlying163
 a182 := Try.isAgg163
 z182 := Try.sizeOf163
 v182 := Try.zeroValue163
 t183 := Try.underlying164
 a183 := Try.isAgg164
 z183 := Try.sizeOf164
 v183 := Try.zeroValue164
 t218 := Try.underlying191
 a218 := Try.isAgg191
 z218 := Try.sizeOf191
 v218 := Try.zeroValue191
 t222 := Try.underlying195
 a222 := Try.isAgg195
 z222 := Try.sizeOf195
 v222 := Try.zeroValue195
 t228 := Try.underlying209
 a228 := Try.isAgg209
 z228 := Try.sizeOf209
 v228 := Try.zeroValue209
 t229 := Try.underlying131
 a229 := Try.isAgg131
 z229 := Try.sizeOf131
 v229 := Try.zeroValue131 }
open Go.Sort Go.RowKit in
theorem Try.slices_Sort_int (blk off cap : Nat) (zs : List Int) (w : World) (hH : Holds (Value.int .i64) w blk off zs.toArray) (hblk : blk < w.heap.size) (hsz : zs.length < 4611686018427387904) :
  Calls Try.prog 49 #[.slice (some ⟨blk, off, none⟩) zs.length cap] w fun e w' =>
   e = .returned (.tuple #[]) ∧ ∃ n os, w' = grow (putRow (Value.int .i64) (Sort.ahead w n) blk off (zs.mergeSort fun x y => decide (x ≤ y)).toArray) os := Any.slices_Sort_int Try.lays189 blk off cap zs w hH hblk hsz
def Try.laysNm220_ren : Go.Shelf.Ren := ⟨fun | 20 => 51 | n => n, fun | 22 => 23 | 3 => 3 | 4 => 4 | 0 => 0 | n => n, fun | n => n⟩
theorem Try.laysNm220 : Go.Proofs.Lays2.n20 Try.prog Try.laysNm220_ren := {
 mixed := by kernel_rfl
 f20 := Try.func51.trans (congrArg some (by kernel_rfl))
 t0 := Try.underlying0
 a0 := Try.isAgg0
 z0 := Try.sizeOf0
 v0 := Try.zeroValue0
 t3 := Try.underlying3
 a3 := Try.isAgg3
 z3 := Try.sizeOf3
 v3 := Try.zeroValue3
 t4 := Try.underlying4
 a4 := Try.isAgg4
 z4 := Try.sizeOf4
 v4 := Try.zeroValue4
 t22 := Try.underlying23
 a22 := Try.isAgg23
 z22 := Try.sizeOf23
 v22 := Try.zeroValue23
 i3 := by kernel_rfl }
open Go.RowKit Go.Lib Go.Sort in
theorem Try.slices_Compact_int (blk off cap : Nat) (zs : List Int) (w : World) (hH : Holds (Value.int .i64) w blk off zs.toArray) (hsz : zs.length ≤ 9223372036854775807) (hcap : zs.length ≤ cap) :
  Calls Try.prog 51 #[.slice (some ⟨blk, off, none⟩) zs.length cap] w fun e w' => e = .returned (.slice (some ⟨blk, off, none⟩) (Lib.compact zs).length cap) ∧ ∃ q, w' = putRow (Value.int .i64) (Sort.ahead w q) blk off (Lib.compact zs ++ List.replicate (zs.length - (Lib.compact zs).length) 0).toArray := Any.slices_Compact_int Try.laysNm220 blk off cap zs w hH hsz hcap
open Go.RowKit Go.Lib Go.Sort in
theorem Try.slices_Compact_int_empty (a : Option Addr) (cap : Nat) (w : World) :
  Calls Try.prog 51 #[.slice a 0 cap] w fun e w' => e = .returned (.slice a 0 cap) ∧ w' = w := Any.slices_Compact_int_empty Try.laysNm220 a cap w
open Go.RowKit Go.Sort in
theorem Try.slices_Sort_int_none (p : Option Addr) (cap : Nat) (w : World) :
  Calls Try.prog 49 #[.slice p 0 cap] w fun e w' => e = .returned (.tuple #[]) ∧ w' = w := Any.slices_Sort_int_none Try.lays189 p cap w
end Go.Proofs
/- A region that draws its order, whose operations only read and whose callees leave the blocks that stood as they were (they may make new ones): one walk in the order of the text. -/
set_option linter.unusedVariables false
namespace Go.Proofs.Ytgkjpffbgnljeaa.Man
open Go Go.RowKit Go.Proofs.YtgkjpffbgnljeaaW.PrintWords Go.Proofs.YtgkjpffbgnljeaaW.PrintLast Go.Proofs.YtgkjpffbgnljeaaW.PrintMore
def Later (w : World) : Type := {W : World // Below w.heap.size w W}
def Later.at {w : World} (x : Later w) : World := x.val
instance (w : World) : Nonempty (Later w) := ⟨⟨w, Below.refl _ _⟩⟩
theorem Later.below {w : World} (x : Later w) : Below w.heap.size w x.at := x.property
theorem Later.cell {w : World} {a : Addr} {v : Value} (h : w.cell? a = some v) (x : Later w) : x.at.cell? a = some v := pw_cell_below x.below h
theorem wp_region_later {P : Program} {id : Nat} {Q : Exit → Act → World → Prop} {a : Act} {w : World} {l : List Oper} (hm : P.follows .mixedOrders = true) (hB : Region.lexB .any l.toArray = true)
  (h : wpQuiet P l.toArray (fun w' => ∃ x : Later w, w' = x.at) (fun a' => ∀ w', (∃ x : Later w, w' = x.at) → Q .normal a' w') l a) : (Code.region id l.toArray true).wp P Q a w :=
 wp_region_quiet (C := fun w' => ∃ x : Later w, w' = x.at) hm hB ⟨⟨{ w with drawn := w.drawn + 1 }, below_drew (Below.refl _ _)⟩, rfl⟩ (by simpa using h)
theorem later_of {P : Program} {f : FuncId} {args : Array Value} {w : World} {x : Later w} {v : Value} (h : Calls P f args x.at fun e w' => e = .returned v ∧ Below x.at.heap.size x.at w') : Calls P f args x.at fun e w'' => e = .returned v ∧ ∃ y : Later w, w'' = y.at :=
 h.mono fun _ w' ⟨he, hb⟩ => ⟨he, ⟨w', below_then x.below x.below.size hb⟩, rfl⟩
end Go.Proofs.Ytgkjpffbgnljeaa.Man
/- arena.high, most, told, settle, lean: what they answer and write, and that the calls do so. -/
set_option linter.unusedVariables false
set_option linter.unusedSimpArgs false
namespace Go.Proofs.Ytgkjpffbgnljeaa.Man
open Go.RowKit Go.Proofs.Ytgkjpffbgnljeaa.QT Go.Proofs.Ytgkjpffbgnljeaa.TreeM Go.Proofs.YtgkjpffbgnljeaaW.PrintWords Go.Proofs.YtgkjpffbgnljeaaW.PrintLast Go.Proofs.YtgkjpffbgnljeaaW.PrintMore
attribute [local go_sem] max2_mx min2_mn max_two min_two max_three min_three max_four min_four
def Nds (W : World) (g nn : Nat) (a : Cells) : Prop := ∃ (cs : Array Value) (t : TypeId), W.heap[g]? = some (.cells cs t (0, 0)) ∧ ∀ j, j < nn * 7 → cs[j]? = some (.int .i64 (a j))
theorem Nds.cell {W : World} {g nn : Nat} {a : Cells} (h : Nds W g nn a) {j : Nat} (hj : j < nn * 7) : W.cell? ⟨g, j, none⟩ = some (.int .i64 (a j)) := by
 obtain ⟨cs, t, h1, h2⟩ := h
 rw [blk_cell h1 j, h2 j hj]
theorem Nds.frozen {W : World} {g nn : Nat} {a : Cells} (h : Nds W g nn a) (j : Nat) : W.frozen? ⟨g, j, none⟩ = false := by
 obtain ⟨cs, t, h1, _⟩ := h
 exact blk_frozen h1 j
theorem Nds.same {W W' : World} {g nn : Nat} {a : Cells} (h : Nds W g nn a) (hb : W'.heap[g]? = W.heap[g]?) : Nds W' g nn a := by
 obtain ⟨cs, t, h1, h2⟩ := h
 exact ⟨cs, t, hb.trans h1, h2⟩
theorem Nds.lt {W : World} {g nn : Nat} {a : Cells} (h : Nds W g nn a) : g < W.heap.size := by
 obtain ⟨cs, t, h1, h2⟩ := h
 exact blk_lt h1
theorem Nds.below {W W' : World} {g nn : Nat} {a : Cells} (h : Nds W g nn a) (hb : Below W.heap.size W W') : Nds W' g nn a := h.same (hb.block g h.lt)
theorem Nds.set {W : World} {g nn : Nat} {a : Cells} (h : Nds W g nn a) (j : Nat) (v : Int) : Nds (W.setCell ⟨g, j, none⟩ (.int .i64 v)) g nn (upd a j v) := by
 obtain ⟨cs, t, h1, h2⟩ := h
 refine ⟨_, t, blk_set h1 j (.int .i64 v), fun k hk => ?_⟩
 have hs : k < cs.size := (Array.getElem?_eq_some_iff.1 (h2 k hk)).1
 by_cases e : k = j
 ·subst e; simp [upd_same, hs]
 ·rw [Array.getElem?_setIfInBounds_ne (by omega), h2 k hk, upd_ne e]
theorem Nds.ext {W : World} {g nn : Nat} {a a' : Cells} (h : Nds W g nn a) (he : ∀ j, j < nn * 7 → a' j = a j) : Nds W g nn a' := by
 obtain ⟨cs, t, h1, h2⟩ := h
 exact ⟨cs, t, h1, fun j hj => by rw [he j hj]; exact h2 j hj⟩
def Rd (W : World) (A : Option Addr) (nn : Nat) (a : Cells) : Prop := ∀ j, j < nn * 7 → ∃ ad, A = some ad ∧ W.cell? (ad.add j) = some (.int .i64 (a j))
theorem Rd.below {W W' : World} {A : Option Addr} {nn : Nat} {a : Cells} (h : Rd W A nn a) (hb : Below W.heap.size W W') : Rd W' A nn a := fun j hj => by
 obtain ⟨ad, e, hc⟩ := h j hj
 exact ⟨ad, e, pw_cell_below hb hc⟩
theorem Rd.kept {W W' : World} {A : Option Addr} {nn : Nat} {a : Cells} {S : Nat → Prop} (h : Rd W A nn a) (hk : Kept W W' S) (hS : ∀ ad, A = some ad → ¬ S ad.block) : Rd W' A nn a := fun j hj => by
 obtain ⟨ad, e, hc⟩ := h j hj
 refine ⟨ad, e, cell_kept hc hk ?_⟩
 have := hS ad e
 unfold Addr.add
 split <;> exact this
theorem Rd.at {W : World} {A : Option Addr} {nn : Nat} {a : Cells} (h : Rd W A nn a) {p : Nat} (hp : p < nn) : ∃ ad, A = some ad ∧ W.cell? (ad.add (p * 7)) = some (.int .i64 (a (p * 7))) ∧ ∀ k, 0 < k → k < 7 → W.cell? ⟨(ad.add (p * 7)).block, (ad.add (p * 7)).off + k, none⟩ = some (.int .i64 (a (p * 7 + k))) := by
 obtain ⟨ad, rfl, h0⟩ := h (p * 7) (by omega)
 refine ⟨ad, rfl, h0, fun k h1 h2 => ?_⟩
 obtain ⟨ad', e, hc⟩ := h (p * 7 + k) (by omega)
 injection e with e
 subst e
 rwa [add_field _ _ _ h1] at hc
theorem Nds.rd {W : World} {g nn : Nat} {a : Cells} (h : Nds W g nn a) : Rd W (some ⟨g, 0, none⟩) nn a := fun j hj => ⟨_, rfl, by rw [add_plain]; exact h.cell hj⟩
def Hd (W : World) (q : Nat) (v : Value) : Prop := ∃ (cs : Array Value) (t : TypeId), W.heap[q]? = some (.cells cs t (0, 0)) ∧ cs[0]? = some v
theorem Hd.cell {W : World} {q : Nat} {v : Value} (h : Hd W q v) : W.cell? ⟨q, 0, none⟩ = some v := by
 obtain ⟨cs, t, h1, h2⟩ := h
 rw [blk_cell h1 0, h2]
theorem Hd.lt {W : World} {q : Nat} {v : Value} (h : Hd W q v) : q < W.heap.size := by
 obtain ⟨cs, t, h1, h2⟩ := h
 exact blk_lt h1
theorem Hd.same {W W' : World} {q : Nat} {v : Value} (h : Hd W q v) (hb : W'.heap[q]? = W.heap[q]?) : Hd W' q v := by
 obtain ⟨cs, t, h1, h2⟩ := h
 exact ⟨cs, t, hb.trans h1, h2⟩
theorem Hd.below {W W' : World} {q : Nat} {v : Value} (h : Hd W q v) (hb : Below W.heap.size W W') : Hd W' q v := h.same (hb.block q h.lt)
structure But (g : Nat) (W W' : World) : Prop where
 os : W'.os = W.os
 tape : W'.tape = W.tape
 output : W'.output = W.output
 size : W.heap.size ≤ W'.heap.size
 block : ∀ k, k < W.heap.size → k ≠ g → W'.heap[k]? = W.heap[k]?
 shape : ∀ cs t, W.heap[g]? = some (.cells cs t (0, 0)) → ∃ cs', W'.heap[g]? = some (.cells cs' t (0, 0)) ∧ cs'.size = cs.size
theorem But.refl (g : Nat) (W : World) : But g W W := ⟨rfl, rfl, rfl, Nat.le_refl _, fun _ _ _ => rfl, fun cs _ h => ⟨cs, h, rfl⟩⟩
theorem But.trans {g : Nat} {a b c : World} (h : But g a b) (k : But g b c) : But g a c :=
 ⟨k.os.trans h.os, k.tape.trans h.tape, k.output.trans h.output, Nat.le_trans h.size k.size, fun i hi hg => (k.block i (Nat.lt_of_lt_of_le hi h.size) hg).trans (h.block i hi hg), fun cs t e => by
  obtain ⟨cs1, e1, s1⟩ := h.shape cs t e
  obtain ⟨cs2, e2, s2⟩ := k.shape cs1 t e1
  exact ⟨cs2, e2, s2.trans s1⟩⟩
theorem But.of {g : Nat} {W W' : World} (h : Below W.heap.size W W') : But g W W' := ⟨h.os, h.tape, h.output, h.size, fun k hk _ => h.block k hk, fun cs t e => ⟨cs, (h.block g (blk_lt e)).trans e, rfl⟩⟩
theorem But.set (g j : Nat) (W : World) (v : Value) : But g W (W.setCell ⟨g, j, none⟩ v) := by
 have hb := (Below.refl 0 W).setCell (p := ⟨g, j, none⟩) (Nat.zero_le _) v
 refine ⟨hb.os, hb.tape, hb.output, hb.size, fun k _ hk => Below.heap_setCell W ⟨g, j, none⟩ _ k hk, fun cs t e => ?_⟩
 exact ⟨_, blk_set e j v, by simp⟩
theorem Hd.but {W W' : World} {g q : Nat} {v : Value} (h : Hd W q v) (hb : But g W W') (hq : q ≠ g) : Hd W' q v := h.same (hb.block q h.lt hq)
theorem Hd.cell_set {g q : Nat} (hq : q ≠ g) (W : World) (j k : Nat) (v : Value) : (W.setCell ⟨g, j, none⟩ v).cell? ⟨q, k, none⟩ = W.cell? ⟨q, k, none⟩ := World.cell?_of_block (Below.heap_setCell W ⟨g, j, none⟩ v q hq)
theorem mx_max (x y : Int) : mx x y = max x y := by unfold mx; split <;> omega
set_option maxHeartbeats 4000000 in
set_option maxRecDepth 100000 in
theorem high_is (q : Nat) (A : Option Addr) (nn cn : Nat) (a : Cells) (i : Int) (W : World) (hq : Hd W q (.slice A nn cn)) (hn : Rd W A nn a) (hi : i = -1 ∨ (0 ≤ i ∧ i < (nn : Int))) :
  Calls Try.prog 82 #[.pointer (some ⟨q, 0, none⟩), .int .i64 i] W fun e W' => e = .returned (.int .i64 (hiF a i)) ∧ W' = W := by
 by_cases h : i = -1
 ·subst h
  have HV : Hid (hiF a (-1) = 0) := Lib.hid (by simp [hiF])
  clear hq hn
  go_enter Try.func82, Try.ntmps82
  go_wp2
  go_ret
  exact ⟨by rw [HV.out]; rfl, rfl⟩
 ·obtain ⟨p, rfl⟩ : ∃ p : Nat, i = (p : Int) := ⟨i.toNat, by omega⟩
  have hd : ((p : Int) == -1) = false := by simp
  have h0 : (0 : Int) ≤ (p : Int) := by omega
  have h1 : (p : Int) < (nn : Int) := by omega
  have HV : Hid (hiF a (p : Int) = a (p * 7 + 5)) := Lib.hid (by unfold hiF; rw [if_neg h, Int.toNat_natCast])
  have c0 := hq.cell
  obtain ⟨ad, rfl, _, hc⟩ := hn.at (p := p) (by omega)
  have c1 := hc 5 (by omega) (by omega)
  clear hq hn h hi hc
  go_enter Try.func82, Try.ntmps82
  go_wp2
  go_ret
  exact ⟨by rw [HV.out]; rfl, rfl⟩
set_option maxHeartbeats 4000000 in
set_option maxRecDepth 100000 in
theorem most_is (q : Nat) (A : Option Addr) (nn cn : Nat) (a : Cells) (i : Int) (W : World) (hq : Hd W q (.slice A nn cn)) (hn : Rd W A nn a) (hi : i = -1 ∨ (0 ≤ i ∧ i < (nn : Int))) :
  Calls Try.prog 118 #[.pointer (some ⟨q, 0, none⟩), .int .i64 i] W fun e W' => e = .returned (.int .i64 (moF a i)) ∧ W' = W := by
 by_cases h : i = -1
 ·subst h
  have HV : Hid (moF a (-1) = 0) := Lib.hid (by simp [moF])
  clear hq hn
  go_enter Try.func118, Try.ntmps118
  go_wp2
  go_ret
  exact ⟨by rw [HV.out]; rfl, rfl⟩
 ·obtain ⟨p, rfl⟩ : ∃ p : Nat, i = (p : Int) := ⟨i.toNat, by omega⟩
  have hd : ((p : Int) == -1) = false := by simp
  have h0 : (0 : Int) ≤ (p : Int) := by omega
  have h1 : (p : Int) < (nn : Int) := by omega
  have HV : Hid (moF a (p : Int) = a (p * 7 + 6)) := Lib.hid (by unfold moF; rw [if_neg h, Int.toNat_natCast])
  have c0 := hq.cell
  obtain ⟨ad, rfl, _, hc⟩ := hn.at (p := p) (by omega)
  have c1 := hc 6 (by omega) (by omega)
  clear hq hn h hi hc
  go_enter Try.func118, Try.ntmps118
  go_wp2
  go_ret
  exact ⟨by rw [HV.out]; rfl, rfl⟩
set_option maxHeartbeats 1000000 in
set_option maxRecDepth 100000 in
theorem told_is (q : Nat) (A : Option Addr) (nn cn p : Nat) (a : Cells) (W : World) (hq : Hd W q (.slice A nn cn)) (hn : Rd W A nn a) (hp : p < nn)
  (hl : a (p * 7 + 3) = -1 ∨ (0 ≤ a (p * 7 + 3) ∧ a (p * 7 + 3) < (nn : Int))) (hr : a (p * 7 + 4) = -1 ∨ (0 ≤ a (p * 7 + 4) ∧ a (p * 7 + 4) < (nn : Int)))
  (H M : Int) (hH : 1 + max (hiF a (a (p * 7 + 3))) (hiF a (a (p * 7 + 4))) = H) (hb : 0 ≤ H ∧ H ≤ 1000000000000) (hM : max (a (p * 7 + 1)) (max (moF a (a (p * 7 + 3))) (moF a (a (p * 7 + 4)))) = M) :
  Calls Try.prog 81 #[.pointer (some ⟨q, 0, none⟩), .int .i64 (p : Int)] W fun e W' => e = .returned (.tuple #[.int .i64 H, .int .i64 M]) ∧ Below W.heap.size W W' := by
 have c0 := hq.cell
 obtain ⟨ad, eA, n0, hN⟩ := hn.at hp
 have n1 := hN 1 (by omega) (by omega)
 have n2 := hN 2 (by omega) (by omega)
 have n3 := hN 3 (by omega) (by omega)
 have n4 := hN 4 (by omega) (by omega)
 have n5 := hN 5 (by omega) (by omega)
 have n6 := hN 6 (by omega) (by omega)
 have h0 : (0 : Int) ≤ (p : Int) := by omega
 have h1 : (p : Int) < (nn : Int) := by omega
 have HL1 : Hid (∀ W', Below W.heap.size W W' → Calls Try.prog 82 #[.pointer (some ⟨q, 0, none⟩), .int .i64 (a (p * 7 + 3))] W' fun e W'' => e = .returned (.int .i64 (hiF a (a (p * 7 + 3)))) ∧ Below W'.heap.size W' W'') := Lib.hid fun W' hb => (high_is q A nn cn a _ W' (hq.below hb) (hn.below hb) hl).mono fun _ _ ⟨h1, h2⟩ => ⟨h1, h2 ▸ Below.refl _ _⟩
 have HR1 : Hid (∀ W', Below W.heap.size W W' → Calls Try.prog 82 #[.pointer (some ⟨q, 0, none⟩), .int .i64 (a (p * 7 + 4))] W' fun e W'' => e = .returned (.int .i64 (hiF a (a (p * 7 + 4)))) ∧ Below W'.heap.size W' W'') := Lib.hid fun W' hb => (high_is q A nn cn a _ W' (hq.below hb) (hn.below hb) hr).mono fun _ _ ⟨h1, h2⟩ => ⟨h1, h2 ▸ Below.refl _ _⟩
 have HL2 : Hid (∀ W', Below W.heap.size W W' → Calls Try.prog 118 #[.pointer (some ⟨q, 0, none⟩), .int .i64 (a (p * 7 + 3))] W' fun e W'' => e = .returned (.int .i64 (moF a (a (p * 7 + 3)))) ∧ Below W'.heap.size W' W'') := Lib.hid fun W' hb => (most_is q A nn cn a _ W' (hq.below hb) (hn.below hb) hl).mono fun _ _ ⟨h1, h2⟩ => ⟨h1, h2 ▸ Below.refl _ _⟩
 have HR2 : Hid (∀ W', Below W.heap.size W W' → Calls Try.prog 118 #[.pointer (some ⟨q, 0, none⟩), .int .i64 (a (p * 7 + 4))] W' fun e W'' => e = .returned (.int .i64 (moF a (a (p * 7 + 4)))) ∧ Below W'.heap.size W' W'') := Lib.hid fun W' hb => (most_is q A nn cn a _ W' (hq.below hb) (hn.below hb) hr).mono fun _ _ ⟨h1, h2⟩ => ⟨h1, h2 ▸ Below.refl _ _⟩
 clear hq hn hl hr hN
 subst eA
 generalize a (p * 7) = k0 at *
 generalize a (p * 7 + 1) = k1 at *
 generalize a (p * 7 + 2) = k2 at *
 generalize a (p * 7 + 3) = k3 at *
 generalize a (p * 7 + 4) = k4 at *
 generalize a (p * 7 + 5) = k5 at *
 generalize a (p * 7 + 6) = k6 at *
 generalize hiF a k3 = y3 at *
 generalize hiF a k4 = y4 at *
 generalize moF a k3 = z3 at *
 generalize moF a k4 = z4 at *
 have HHm : Hid (mx y3 y4 = max y3 y4) := Lib.hid (mx_max _ _)
 have HV1 : Hid (1 + mx y3 y4 = H) := Lib.hid (by rw [mx_max]; exact hH)
 have HV2 : Hid (mx (mx k1 z3) z4 = M) := Lib.hid (by rw [mx_max, mx_max]; omega)
 have hw : IntKind.i64.wrap (1 + mx y3 y4) = 1 + mx y3 y4 := IntWalk.i64_in _ (by rw [HV1.out]; omega)
 clear hH hM
 go_enter Try.func81, Try.ntmps81
 go_wp2_with fail
 have HBA : Hid (Below W.heap.size W (W.alloc (.cells #[.int .i64 k0, .int .i64 k1, .int .i64 k2, .int .i64 k3, .int .i64 k4, .int .i64 k5, .int .i64 k6] 64))) := Lib.hid ((Below.refl _ _).alloc (Nat.le_refl _) _)
 refine wp_region_later (by kernel_rfl) (by kernel_rfl) ?_
 have HX : Hid (∀ x : Later (W.alloc (.cells #[.int .i64 k0, .int .i64 k1, .int .i64 k2, .int .i64 k3, .int .i64 k4, .int .i64 k5, .int .i64 k6] 64)), Below W.heap.size W x.at) := Lib.hid fun x => below_then HBA.out HBA.out.size x.below
 have y1 : ∀ x : Later (W.alloc (.cells #[.int .i64 k0, .int .i64 k1, .int .i64 k2, .int .i64 k3, .int .i64 k4, .int .i64 k5, .int .i64 k6] 64)), x.at.cell? ⟨W.heap.size, 1, none⟩ = some (.int .i64 k1) := fun x => Later.cell (by rw [blk_cell (blk_new W _) 1]; rfl) x
 have y3 : ∀ x : Later (W.alloc (.cells #[.int .i64 k0, .int .i64 k1, .int .i64 k2, .int .i64 k3, .int .i64 k4, .int .i64 k5, .int .i64 k6] 64)), x.at.cell? ⟨W.heap.size, 3, none⟩ = some (.int .i64 k3) := fun x => Later.cell (by rw [blk_cell (blk_new W _) 3]; rfl) x
 have y4 : ∀ x : Later (W.alloc (.cells #[.int .i64 k0, .int .i64 k1, .int .i64 k2, .int .i64 k3, .int .i64 k4, .int .i64 k5, .int .i64 k6] 64)), x.at.cell? ⟨W.heap.size, 4, none⟩ = some (.int .i64 k4) := fun x => Later.cell (by rw [blk_cell (blk_new W _) 4]; rfl) x
 repeat (go_big_quiet_step (first
  | (go_at_call 82; first | with_reducible exact later_of (HL1.out _ (HX.out _)) | with_reducible exact later_of (HR1.out _ (HX.out _)))
  | (go_at_call 118; first | with_reducible exact later_of (HL2.out _ (HX.out _)) | with_reducible exact later_of (HR2.out _ (HX.out _)))))
 refine wpQuiet_nil ?_
 rintro _ ⟨x, rfl⟩
 have HXX := Lib.hid (HX.out x)
 clear y1 y3 y4
 rw [HV1.out, HV2.out]
 go_wp2
 exact bodyPost_ret (v := .tuple #[.int .i64 H, .int .i64 M]) (by simp [results, Try.results81, go_sem]) rfl ⟨rfl, HXX.out⟩
set_option maxHeartbeats 2000000 in
set_option maxRecDepth 100000 in
theorem settle_is (q g nn cn p : Nat) (a : Cells) (W : World) (hq : Hd W q (.slice (some ⟨g, 0, none⟩) nn cn)) (hn : Nds W g nn a) (hqg : q ≠ g) (hp : p < nn)
  (hl : a (p * 7 + 3) = -1 ∨ (0 ≤ a (p * 7 + 3) ∧ a (p * 7 + 3) < (nn : Int))) (hr : a (p * 7 + 4) = -1 ∨ (0 ≤ a (p * 7 + 4) ∧ a (p * 7 + 4) < (nn : Int)))
  (H M : Int) (hH : 1 + max (hiF a (a (p * 7 + 3))) (hiF a (a (p * 7 + 4))) = H) (hb : 0 ≤ H ∧ H ≤ 1000000000000) (hM : max (a (p * 7 + 1)) (max (moF a (a (p * 7 + 3))) (moF a (a (p * 7 + 4)))) = M) :
  Calls Try.prog 89 #[.pointer (some ⟨q, 0, none⟩), .int .i64 (p : Int)] W fun e W' => e = .returned (.int .i64 (p : Int)) ∧ But g W W' ∧ Nds W' g nn (upd (upd a (p * 7 + 5) H) (p * 7 + 6) M) := by
 have HC2 : Hid (∀ W', Below W.heap.size W W' → Calls Try.prog 81 #[.pointer (some ⟨q, 0, none⟩), .int .i64 (p : Int)] W' fun e W'' => e = .returned (.tuple #[.int .i64 H, .int .i64 M]) ∧ Below W'.heap.size W' W'') := Lib.hid fun W' hw => told_is q _ nn cn p a W' (hq.below hw) (hn.below hw).rd hp hl hr H M hH hb hM
 have c0 := hq.cell
 have n5 := hn.cell (j := p * 7 + 5) (by omega)
 have n6 := hn.cell (j := p * 7 + 6) (by omega)
 have h0 : (0 : Int) ≤ (p : Int) := by omega
 have h1 : (p : Int) < (nn : Int) := by omega
 have HQ := Lib.hid hq
 have HN := Lib.hid hn
 clear hq hn hl hr hH hM
 go_enter Try.func89, Try.ntmps89
 go_wp2_with fail
 have c0d : W.drew.cell? ⟨q, 0, none⟩ = some (.slice (some ⟨g, 0, none⟩) nn cn) := c0
 have HCd := Lib.hid (HC2.out W.drew (below_drew (Below.refl _ _)))
 clear c0
 go_region_held3 (fun W => W.cell? ⟨q, 0, none⟩ = some (.slice (some ⟨g, 0, none⟩) nn cn))
  (first | exact c0d | exact c03 | exact (Hd.cell_set hqg _ _ _ _).trans c03 | exact (Hd.cell_set hqg _ _ _ _).trans ((Hd.cell_set hqg _ _ _ _).trans c03))
  (first
   | (go_at_call 81; refine HCd.out.mono ?_; rintro e w3 ⟨rfl, hb3⟩; have c03 := (HQ.out.below (below_then (below_drew (Below.refl W.heap.size W)) (Nat.le_refl _) hb3)).cell; have HN3 := Lib.hid (HN.out.below (below_then (below_drew (Below.refl W.heap.size W)) (Nat.le_refl _) hb3)); have HB3 := Lib.hid (below_then (below_drew (Below.refl W.heap.size W)) (Nat.le_refl _) hb3); have s5 := HN3.out.cell (j := p * 7 + 5) (by omega); have s6 := HN3.out.cell (j := p * 7 + 6) (by omega); have f5 := HN3.out.frozen (p * 7 + 5); have f6 := HN3.out.frozen (p * 7 + 6); clear hb3))
 go_wp2
 go_ret
 exact ⟨rfl, (But.of HB3.out).trans ((But.set g (p * 7 + 5) w3 _).trans (But.set g (p * 7 + 6) _ _)), (HN3.out.set _ _).set _ _⟩
theorem settle_T (q g nn cn p : Nat) (a : Cells) (x : Itm) (l r : T) (W : World) (hq : Hd W q (.slice (some ⟨g, 0, none⟩) nn cn)) (hn : Nds W g nn a) (hqg : q ≠ g) (hp : p < nn)
  (hh : Half a p x l r) (hap : Apart p l r) (wl : Within nn l) (wr : Within nn r) (bl : hgt l ≤ 1000000) (br : hgt r ≤ 1000000) :
  Calls Try.prog 89 #[.pointer (some ⟨q, 0, none⟩), .int .i64 (p : Int)] W fun e W' => e = .returned (.int .i64 (p : Int)) ∧ But g W W' ∧ ∃ a', Nds W' g nn a' ∧ Hang a' (.node p x l r) (p : Int) ∧ Off (fun s => s = p) a a' := by
 obtain ⟨⟨h1, h2, h3⟩, h4, h5⟩ := hh
 refine (settle_is q g nn cn p a W hq hn hqg hp (wl.place h4) (wr.place h5) _ _ rfl (by rw [h4.hi, h5.hi]; omega) rfl).mono ?_
 rintro e W' ⟨rfl, hb, hn'⟩
 refine ⟨rfl, hb, _, hn', ?_, ?_⟩
 ·refine Half.settle (a := a) ⟨⟨h1, h2, h3⟩, h4, h5⟩ hap ?_ ?_ ?_
  ·rw [upd_ne (by omega), upd_same, h4.hi, h5.hi]
  ·rw [upd_same, h4.mo, h5.mo, h2]
  ·intro j g1 g2
   rw [upd_ne g2, upd_ne g1]
 ·exact (Off.upd a p 5 _ (by omega)).trans (Off.upd _ p 6 _ (by omega))
set_option maxHeartbeats 2000000 in
set_option maxRecDepth 100000 in
theorem lean_is (q g nn cn p : Nat) (a : Cells) (x : Itm) (l r : T) (W : World) (hq : Hd W q (.slice (some ⟨g, 0, none⟩) nn cn)) (hn : Nds W g nn a) (hp : p < nn)
  (hh : Half a p x l r) (wl : Within nn l) (wr : Within nn r) (bl : hgt l ≤ 1000000) (br : hgt r ≤ 1000000) :
  Calls Try.prog 120 #[.pointer (some ⟨q, 0, none⟩), .int .i64 (p : Int)] W fun e W' => e = .returned (.int .i64 ((hgt l : Int) - (hgt r : Int))) ∧ Below W.heap.size W W' := by
 obtain ⟨_, h4, h5⟩ := hh
 have y0 : ∀ x : Later W, x.at.cell? ⟨q, 0, none⟩ = some (.slice (some ⟨g, 0, none⟩) nn cn) := Later.cell hq.cell
 have y3 : ∀ x : Later W, x.at.cell? ⟨g, p * 7 + 3, none⟩ = some (.int .i64 (a (p * 7 + 3))) := Later.cell (hn.cell (by omega))
 have y4 : ∀ x : Later W, x.at.cell? ⟨g, p * 7 + 4, none⟩ = some (.int .i64 (a (p * 7 + 4))) := Later.cell (hn.cell (by omega))
 have HL1 : Hid (∀ W', Below W.heap.size W W' → Calls Try.prog 82 #[.pointer (some ⟨q, 0, none⟩), .int .i64 (a (p * 7 + 3))] W' fun e W'' => e = .returned (.int .i64 (hgt l : Int)) ∧ Below W'.heap.size W' W'') := Lib.hid fun W' hb => (high_is q _ nn cn a _ W' (hq.below hb) (hn.below hb).rd (wl.place h4)).mono fun _ _ ⟨h1, h2⟩ => ⟨by rw [h1, h4.hi], h2 ▸ Below.refl _ _⟩
 have HR1 : Hid (∀ W', Below W.heap.size W W' → Calls Try.prog 82 #[.pointer (some ⟨q, 0, none⟩), .int .i64 (a (p * 7 + 4))] W' fun e W'' => e = .returned (.int .i64 (hgt r : Int)) ∧ Below W'.heap.size W' W'') := Lib.hid fun W' hb => (high_is q _ nn cn a _ W' (hq.below hb) (hn.below hb).rd (wr.place h5)).mono fun _ _ ⟨h1, h2⟩ => ⟨by rw [h1, h5.hi], h2 ▸ Below.refl _ _⟩
 have h0 : (0 : Int) ≤ (p : Int) := by omega
 have h1 : (p : Int) < (nn : Int) := by omega
 have hw : IntKind.i64.wrap ((hgt l : Int) - (hgt r : Int)) = (hgt l : Int) - (hgt r : Int) := IntWalk.i64_in _ (by omega)
 clear hq hn h4 h5 wl wr bl br
 generalize a (p * 7 + 3) = k3 at *
 generalize a (p * 7 + 4) = k4 at *
 generalize (hgt l : Int) = z3 at *
 generalize (hgt r : Int) = z4 at *
 go_enter Try.func120, Try.ntmps120
 go_wp2_with fail
 refine wp_region_later (by kernel_rfl) (by kernel_rfl) ?_
 repeat (go_big_quiet_step (first
  | (go_at_call 82; first | with_reducible exact later_of (HL1.out _ (Later.below _)) | with_reducible exact later_of (HR1.out _ (Later.below _)))))
 refine wpQuiet_nil ?_
 rintro _ ⟨x, rfl⟩
 have HXX := Lib.hid x.below
 clear y0 y3 y4
 go_wp2
 go_ret
 exact ⟨rfl, HXX.out⟩
end Go.Proofs.Ytgkjpffbgnljeaa.Man
/- arena.left, right: what hangs at a place is turned. -/
set_option linter.unusedVariables false
set_option linter.unusedSimpArgs false
namespace Go.Proofs.Ytgkjpffbgnljeaa.Man
open Go.RowKit Go.Proofs.Ytgkjpffbgnljeaa.QT Go.Proofs.Ytgkjpffbgnljeaa.TreeM Go.Proofs.YtgkjpffbgnljeaaW.PrintWords Go.Proofs.YtgkjpffbgnljeaaW.PrintLast Go.Proofs.YtgkjpffbgnljeaaW.PrintMore
theorem Nds.drew {W : World} {g nn : Nat} {a : Cells} (h : Nds W g nn a) : Nds W.drew g nn a := h.below (below_drew (Below.refl _ _))
theorem Hd.drew {W : World} {q : Nat} {v : Value} (h : Hd W q v) : Hd W.drew q v := h.below (below_drew (Below.refl _ _))
theorem But.drew {g : Nat} (W : World) : But g W W.drew := But.of (below_drew (Below.refl _ _))
set_option maxHeartbeats 2000000 in
set_option maxRecDepth 100000 in
theorem left_is (q g nn cn p s : Nat) (a : Cells) (x y : Itm) (l A B : T) (W : World) (hq : Hd W q (.slice (some ⟨g, 0, none⟩) nn cn)) (hn : Nds W g nn a) (hqg : q ≠ g)
  (hh : Half a p x l (.node s y A B)) (hnd : (places (.node p x l (.node s y A B))).Nodup) (hw : Within nn (.node p x l (.node s y A B))) (bl : hgt l ≤ 1000) (br : hgt (.node s y A B) ≤ 1000) :
  Calls Try.prog 121 #[.pointer (some ⟨q, 0, none⟩), .int .i64 (p : Int)] W fun e W' => e = .returned (.int .i64 (s : Int)) ∧ But g W W' ∧ ∃ a', Nds W' g nn a' ∧ Hang a' (.node s y (.node p x l A) B) (s : Int) ∧ Off (fun k => k = p ∨ k = s) a a' := by
 have hs4 : a (p * 7 + 4) = (s : Int) := hh.2.2.1
 have hA : Hang a A (a (s * 7 + 3)) := hh.2.2.half.2.1
 have hnd' : (places (.node s y (.node p x l A) B)).Nodup := by
  have e : places (.node s y (.node p x l A) B) = places (.node p x l (.node s y A B)) := by simp [places]
  rw [e]; exact hnd
 have ap0 := Apart.of hnd
 have ap1 := Apart.of hnd'
 have ap2 := Apart.of ap1.dl
 have hsp : s ≠ p := fun e => ap0.nr (by rw [← e]; simp [places])
 have hpA : p ∉ places A := ap2.nr
 have hpB : p ∉ places B := fun hm => ap0.nr (by simp [places, hm])
 have hp : p < nn := hw.p
 have hs : s < nn := hw.r.p
 have wA : Within nn A := hw.r.l
 have wB : Within nn B := hw.r.r
 have bA : hgt A ≤ 1000 := by simp only [hgt] at br; omega
 have bB : hgt B ≤ 1000 := by simp only [hgt] at br; omega
 have H1 : Half (upd a (p * 7 + 4) (a (s * 7 + 3))) p x l A := hh.right hpA ap0.nl hA
 have c0 := hq.cell
 have n4 := hn.cell (j := p * 7 + 4) (by omega)
 have n3 := hn.drew.cell (j := s * 7 + 3) (by omega)
 have n4d := hn.drew.cell (j := p * 7 + 4) (by omega)
 have f4d := hn.drew.frozen (p * 7 + 4)
 have c0d := hq.drew.cell
 rw [hs4] at n4
 have HQ := Lib.hid hq
 have HN := Lib.hid hn
 have HH := Lib.hid hh
 have h0 : (0 : Int) ≤ (p : Int) := by omega
 have h1 : (p : Int) < (nn : Int) := by omega
 have h2 : (0 : Int) ≤ (s : Int) := by omega
 have h3 : (s : Int) < (nn : Int) := by omega
 have HW : Hid (Within nn (.node p x l (.node s y A B))) := Lib.hid hw
 have HW' : Hid (Within nn (.node p x l A)) := Lib.hid (fun k hk => hw k (by simp [places] at hk ⊢; rcases hk with h | h | h <;> simp [h]))
 clear hq hn hh hnd hnd' hw
 go_enter Try.func121, Try.ntmps121
 go_wp2_with fail
 go_region
 have HB1 : Hid (But g W (W.setCell ⟨g, p * 7 + 4, none⟩ (.int .i64 (a (s * 7 + 3)))).drew) := Lib.hid ((But.set g (p * 7 + 4) W _).trans (But.drew _))
 have HQ1 : Hid (Hd (W.setCell ⟨g, p * 7 + 4, none⟩ (.int .i64 (a (s * 7 + 3)))).drew q (.slice (some ⟨g, 0, none⟩) nn cn)) := Lib.hid (HQ.out.but HB1.out hqg)
 have HN1 : Hid (Nds (W.setCell ⟨g, p * 7 + 4, none⟩ (.int .i64 (a (s * 7 + 3)))).drew g nn (upd a (p * 7 + 4) (a (s * 7 + 3)))) := Lib.hid (HN.out.set _ _).drew
 have HH1 := Lib.hid H1
 have HO1 : Hid (Off (fun k => k = p) a (upd a (p * 7 + 4) (a (s * 7 + 3)))) := Lib.hid (Off.upd a p 4 _ (by omega))
 have HV1 : Hid (upd a (p * 7 + 4) (a (s * 7 + 3)) (s * 7 + 3) = a (s * 7 + 3)) := Lib.hid (upd_ne (by omega))
 clear H1 n3 n4 n4d f4d c0d c0 HQ HN hA hs4
 generalize (W.setCell ⟨g, p * 7 + 4, none⟩ (.int .i64 (a (s * 7 + 3)))).drew = w1 at *
 generalize upd a (p * 7 + 4) (a (s * 7 + 3)) = a1 at *
 have HS1 := Lib.hid (settle_T q g nn cn p a1 x l A w1.drew HQ1.out.drew HN1.out.drew hqg hp HH1.out ap2 (by intro k hk; exact HW.out k (by simp [places, hk])) wA (by omega) (by omega))
 have c1d := HQ1.out.drew.cell
 go_wp2_with fail
 go_region_held3 (fun W => W.cell? ⟨q, 0, none⟩ = some (.slice (some ⟨g, 0, none⟩) nn cn))
  (first | exact c1d | exact c12 | exact (Hd.cell_set hqg _ _ _ _).trans c12)
  (first
   | (go_at_call 89; refine HS1.out.mono ?_; rintro e w2 ⟨rfl, hb2, a2, hn2, hg2, ho2⟩; have HB2 := Lib.hid (HB1.out.trans ((But.drew w1).trans hb2)); have HQ2 := Lib.hid (HQ1.out.drew.but hb2 hqg); have HN2 := Lib.hid hn2; have HG2 := Lib.hid hg2; have HO2 := Lib.hid (HO1.out.trans ho2); have c12 := HQ2.out.cell; have s3 := HN2.out.cell (j := s * 7 + 3) (by omega); have f3 := HN2.out.frozen (s * 7 + 3); clear hb2 hn2 hg2 ho2))
 have HB3 : Hid (But g W (w2.setCell ⟨g, s * 7 + 3, none⟩ (.int .i64 (p : Int)))) := Lib.hid (HB2.out.trans (But.set g (s * 7 + 3) w2 _))
 have HQ3 : Hid (Hd (w2.setCell ⟨g, s * 7 + 3, none⟩ (.int .i64 (p : Int))) q (.slice (some ⟨g, 0, none⟩) nn cn)) := Lib.hid (HQ2.out.but (But.set g (s * 7 + 3) w2 _) hqg)
 have HN3 : Hid (Nds (w2.setCell ⟨g, s * 7 + 3, none⟩ (.int .i64 (p : Int))) g nn (upd a2 (s * 7 + 3) (p : Int))) := Lib.hid (HN2.out.set _ _)
 have HH3 : Hid (Half (upd a2 (s * 7 + 3) (p : Int)) s y (.node p x l A) B) := Lib.hid (by
  have h1 : Half a2 s y A B := Half.off HO2.out HH.out.2.2.half hsp (fun k hk e => hpA (e ▸ hk)) (fun k hk e => hpB (e ▸ hk))
  exact h1.left ap1.nl ap1.nr HG2.out)
 have HO3 : Hid (Off (fun k => k = p ∨ k = s) a (upd a2 (s * 7 + 3) (p : Int))) := Lib.hid ((HO2.out.mono (fun _ h => .inl h)).trans ((Off.upd a2 s 3 _ (by omega)).mono (fun _ h => .inr h)))
 clear c12 s3 f3 c1d HS1 HB2 HQ2 HN2 HG2 HO2 HQ1 HN1 HB1 HH1 HO1 HV1
 generalize w2.setCell ⟨g, s * 7 + 3, none⟩ (.int .i64 (p : Int)) = w3 at *
 generalize upd a2 (s * 7 + 3) (p : Int) = a3 at *
 have HS3 := Lib.hid (settle_T q g nn cn s a3 y (.node p x l A) B w3 HQ3.out HN3.out hqg hs HH3.out ap1 HW'.out wB (by simp only [hgt] at br ⊢; omega) (by omega))
 go_wp2_with fail
 refine HS3.out.mono ?_
 rintro e w4 ⟨rfl, hb4, a4, hn4, hg4, ho4⟩
 have HF : Hid (But g W w4 ∧ ∃ a', Nds w4 g nn a' ∧ Hang a' (.node s y (.node p x l A) B) (s : Int) ∧ Off (fun k => k = p ∨ k = s) a a') := Lib.hid ⟨HB3.out.trans hb4, a4, hn4, hg4, HO3.out.trans (ho4.mono (fun _ h => .inr h))⟩
 clear hb4 hn4 hg4 ho4 HS3
 go_wp2
 go_ret
 exact ⟨rfl, HF.out⟩
set_option maxHeartbeats 2000000 in
set_option maxRecDepth 100000 in
theorem right_is (q g nn cn p s : Nat) (a : Cells) (x y : Itm) (r A B : T) (W : World) (hq : Hd W q (.slice (some ⟨g, 0, none⟩) nn cn)) (hn : Nds W g nn a) (hqg : q ≠ g)
  (hh : Half a p x (.node s y A B) r) (hnd : (places (.node p x (.node s y A B) r)).Nodup) (hw : Within nn (.node p x (.node s y A B) r)) (bl : hgt (.node s y A B) ≤ 1000) (br : hgt r ≤ 1000) :
  Calls Try.prog 122 #[.pointer (some ⟨q, 0, none⟩), .int .i64 (p : Int)] W fun e W' => e = .returned (.int .i64 (s : Int)) ∧ But g W W' ∧ ∃ a', Nds W' g nn a' ∧ Hang a' (.node s y A (.node p x B r)) (s : Int) ∧ Off (fun k => k = p ∨ k = s) a a' := by
 have hs4 : a (p * 7 + 3) = (s : Int) := hh.2.1.1
 have hB : Hang a B (a (s * 7 + 4)) := hh.2.1.half.2.2
 have hnd' : (places (.node s y A (.node p x B r))).Nodup := by
  have e : places (.node s y A (.node p x B r)) = places (.node p x (.node s y A B) r) := by simp [places]
  rw [e]; exact hnd
 have ap0 := Apart.of hnd
 have ap1 := Apart.of hnd'
 have ap2 := Apart.of ap1.dr
 have hsp : s ≠ p := fun e => ap0.nl (by rw [← e]; simp [places])
 have hpB : p ∉ places B := ap2.nl
 have hpA : p ∉ places A := fun hm => ap0.nl (by simp [places, hm])
 have hp : p < nn := hw.p
 have hs : s < nn := hw.l.p
 have wA : Within nn A := hw.l.l
 have wB : Within nn B := hw.l.r
 have bA : hgt A ≤ 1000 := by simp only [hgt] at bl; omega
 have bB : hgt B ≤ 1000 := by simp only [hgt] at bl; omega
 have H1 : Half (upd a (p * 7 + 3) (a (s * 7 + 4))) p x B r := hh.left hpB ap0.nr hB
 have c0 := hq.cell
 have n4 := hn.cell (j := p * 7 + 3) (by omega)
 have n3 := hn.drew.cell (j := s * 7 + 4) (by omega)
 have n4d := hn.drew.cell (j := p * 7 + 3) (by omega)
 have f4d := hn.drew.frozen (p * 7 + 3)
 have c0d := hq.drew.cell
 rw [hs4] at n4
 have HQ := Lib.hid hq
 have HN := Lib.hid hn
 have HH := Lib.hid hh
 have h0 : (0 : Int) ≤ (p : Int) := by omega
 have h1 : (p : Int) < (nn : Int) := by omega
 have h2 : (0 : Int) ≤ (s : Int) := by omega
 have h3 : (s : Int) < (nn : Int) := by omega
 have HW : Hid (Within nn (.node p x (.node s y A B) r)) := Lib.hid hw
 have HW' : Hid (Within nn (.node p x B r)) := Lib.hid (fun k hk => hw k (by simp [places] at hk ⊢; rcases hk with h | h | h <;> simp [h]))
 clear hq hn hh hnd hnd' hw
 go_enter Try.func122, Try.ntmps122
 go_wp2_with fail
 go_region
 have HB1 : Hid (But g W (W.setCell ⟨g, p * 7 + 3, none⟩ (.int .i64 (a (s * 7 + 4)))).drew) := Lib.hid ((But.set g (p * 7 + 3) W _).trans (But.drew _))
 have HQ1 : Hid (Hd (W.setCell ⟨g, p * 7 + 3, none⟩ (.int .i64 (a (s * 7 + 4)))).drew q (.slice (some ⟨g, 0, none⟩) nn cn)) := Lib.hid (HQ.out.but HB1.out hqg)
 have HN1 : Hid (Nds (W.setCell ⟨g, p * 7 + 3, none⟩ (.int .i64 (a (s * 7 + 4)))).drew g nn (upd a (p * 7 + 3) (a (s * 7 + 4)))) := Lib.hid (HN.out.set _ _).drew
 have HH1 := Lib.hid H1
 have HO1 : Hid (Off (fun k => k = p) a (upd a (p * 7 + 3) (a (s * 7 + 4)))) := Lib.hid (Off.upd a p 3 _ (by omega))
 have HV1 : Hid (upd a (p * 7 + 3) (a (s * 7 + 4)) (s * 7 + 4) = a (s * 7 + 4)) := Lib.hid (upd_ne (by omega))
 clear H1 n3 n4 n4d f4d c0d c0 HQ HN hB hs4
 generalize (W.setCell ⟨g, p * 7 + 3, none⟩ (.int .i64 (a (s * 7 + 4)))).drew = w1 at *
 generalize upd a (p * 7 + 3) (a (s * 7 + 4)) = a1 at *
 have HS1 := Lib.hid (settle_T q g nn cn p a1 x B r w1.drew HQ1.out.drew HN1.out.drew hqg hp HH1.out ap2 wB (by intro k hk; exact HW.out k (by simp [places, hk])) (by omega) (by omega))
 have c1d := HQ1.out.drew.cell
 go_wp2_with fail
 go_region_held3 (fun W => W.cell? ⟨q, 0, none⟩ = some (.slice (some ⟨g, 0, none⟩) nn cn))
  (first | exact c1d | exact c12 | exact (Hd.cell_set hqg _ _ _ _).trans c12)
  (first
   | (go_at_call 89; refine HS1.out.mono ?_; rintro e w2 ⟨rfl, hb2, a2, hn2, hg2, ho2⟩; have HB2 := Lib.hid (HB1.out.trans ((But.drew w1).trans hb2)); have HQ2 := Lib.hid (HQ1.out.drew.but hb2 hqg); have HN2 := Lib.hid hn2; have HG2 := Lib.hid hg2; have HO2 := Lib.hid (HO1.out.trans ho2); have c12 := HQ2.out.cell; have s3 := HN2.out.cell (j := s * 7 + 4) (by omega); have f3 := HN2.out.frozen (s * 7 + 4); clear hb2 hn2 hg2 ho2))
 have HB3 : Hid (But g W (w2.setCell ⟨g, s * 7 + 4, none⟩ (.int .i64 (p : Int)))) := Lib.hid (HB2.out.trans (But.set g (s * 7 + 4) w2 _))
 have HQ3 : Hid (Hd (w2.setCell ⟨g, s * 7 + 4, none⟩ (.int .i64 (p : Int))) q (.slice (some ⟨g, 0, none⟩) nn cn)) := Lib.hid (HQ2.out.but (But.set g (s * 7 + 4) w2 _) hqg)
 have HN3 : Hid (Nds (w2.setCell ⟨g, s * 7 + 4, none⟩ (.int .i64 (p : Int))) g nn (upd a2 (s * 7 + 4) (p : Int))) := Lib.hid (HN2.out.set _ _)
 have HH3 : Hid (Half (upd a2 (s * 7 + 4) (p : Int)) s y A (.node p x B r)) := Lib.hid (by
  have h1 : Half a2 s y A B := Half.off HO2.out HH.out.2.1.half hsp (fun k hk e => hpA (e ▸ hk)) (fun k hk e => hpB (e ▸ hk))
  exact h1.right ap1.nr ap1.nl HG2.out)
 have HO3 : Hid (Off (fun k => k = p ∨ k = s) a (upd a2 (s * 7 + 4) (p : Int))) := Lib.hid ((HO2.out.mono (fun _ h => .inl h)).trans ((Off.upd a2 s 4 _ (by omega)).mono (fun _ h => .inr h)))
 clear c12 s3 f3 c1d HS1 HB2 HQ2 HN2 HG2 HO2 HQ1 HN1 HB1 HH1 HO1 HV1
 generalize w2.setCell ⟨g, s * 7 + 4, none⟩ (.int .i64 (p : Int)) = w3 at *
 generalize upd a2 (s * 7 + 4) (p : Int) = a3 at *
 have HS3 := Lib.hid (settle_T q g nn cn s a3 y A (.node p x B r) w3 HQ3.out HN3.out hqg hs HH3.out ap1 wA HW'.out (by omega) (by simp only [hgt] at bl ⊢; omega))
 go_wp2_with fail
 refine HS3.out.mono ?_
 rintro e w4 ⟨rfl, hb4, a4, hn4, hg4, ho4⟩
 have HF : Hid (But g W w4 ∧ ∃ a', Nds w4 g nn a' ∧ Hang a' (.node s y A (.node p x B r)) (s : Int) ∧ Off (fun k => k = p ∨ k = s) a a') := Lib.hid ⟨HB3.out.trans hb4, a4, hn4, hg4, HO3.out.trans (ho4.mono (fun _ h => .inr h))⟩
 clear hb4 hn4 hg4 ho4 HS3
 go_wp2
 go_ret
 exact ⟨rfl, HF.out⟩
end Go.Proofs.Ytgkjpffbgnljeaa.Man
/- arena.even: what hangs at a place is put even. -/
set_option linter.unusedVariables false
set_option linter.unusedSimpArgs false
namespace Go.Proofs.Ytgkjpffbgnljeaa.Man
open Go.RowKit Go.Proofs.Ytgkjpffbgnljeaa.QT Go.Proofs.Ytgkjpffbgnljeaa.TreeM Go.Proofs.YtgkjpffbgnljeaaW.PrintWords Go.Proofs.YtgkjpffbgnljeaaW.PrintLast Go.Proofs.YtgkjpffbgnljeaaW.PrintMore
def Evens (W : World) (q g nn cn : Nat) (a : Cells) (p : Nat) (x : Itm) (l r : T) : Prop :=
 Calls Try.prog 90 #[.pointer (some ⟨q, 0, none⟩), .int .i64 (p : Int)] W fun e W' => e = .returned (.int .i64 (plc (even p x l r))) ∧ But g W W' ∧ ∃ a', Nds W' g nn a' ∧ Hang a' (even p x l r) (plc (even p x l r)) ∧ Off (fun k => k ∈ places (.node p x l r)) a a'
set_option maxHeartbeats 2000000 in
set_option maxRecDepth 100000 in
theorem even_mid (q g nn cn p : Nat) (a : Cells) (x : Itm) (l r : T) (W : World) (hq : Hd W q (.slice (some ⟨g, 0, none⟩) nn cn)) (hn : Nds W g nn a) (hqg : q ≠ g)
  (hh : Half a p x l r) (hnd : (places (.node p x l r)).Nodup) (hw : Within nn (.node p x l r)) (bl : hgt l ≤ 900) (br : hgt r ≤ 900) (h1 : hgt l ≠ hgt r + 2) (h2 : hgt r ≠ hgt l + 2) : Evens W q g nn cn a p x l r := by
 have HE : Hid (even p x l r = .node p x l r) := Lib.hid (by unfold even; rw [if_neg h1, if_neg h2])
 have HS := Lib.hid (settle_T q g nn cn p a x l r W hq hn hqg hw.p hh (Apart.of hnd) hw.l hw.r (by omega) (by omega))
 have HL : Hid (∀ W' a', Hd W' q (.slice (some ⟨g, 0, none⟩) nn cn) → Nds W' g nn a' → Half a' p x l r → Calls Try.prog 120 #[.pointer (some ⟨q, 0, none⟩), .int .i64 (p : Int)] W' fun e W'' => e = .returned (.int .i64 ((hgt l : Int) - (hgt r : Int))) ∧ Below W'.heap.size W' W'') := Lib.hid fun W' a' g1 g2 g3 => lean_is q g nn cn p a' x l r W' g1 g2 hw.p g3 hw.l hw.r (by omega) (by omega)
 have HQ := Lib.hid hq
 have HO : Hid (∀ a', Off (fun k => k = p) a a' → Off (fun k => k ∈ places (.node p x l r)) a a') := Lib.hid fun a' h => h.mono (fun k hk => by rw [hk]; simp [places])
 have d2 : ((hgt l : Int) - (hgt r : Int) == 2) = false := by rw [beq_eq_false_iff_ne]; omega
 have d3 : ((hgt l : Int) - (hgt r : Int) == -2) = false := by rw [beq_eq_false_iff_ne]; omega
 unfold Evens
 rw [HE.out]
 clear hq hn hh hnd hw h1 h2 bl br HE
 generalize (hgt l : Int) - (hgt r : Int) = d at *
 go_enter Try.func90, Try.ntmps90
 go_wp2_with fail
 refine HS.out.mono ?_
 rintro e w1 ⟨rfl, hb1, a1, hn1, hg1, ho1⟩
 have HB1 := Lib.hid hb1
 have HQ1 := Lib.hid (HQ.out.but hb1 hqg)
 have HN1 := Lib.hid hn1
 have HG1 := Lib.hid hg1
 have HO1 := Lib.hid (HO.out _ ho1)
 clear hb1 hn1 hg1 ho1 HS HQ HO
 go_wp2_with fail
 refine (HL.out w1 a1 HQ1.out HN1.out HG1.out.half).mono ?_
 rintro e w2 ⟨rfl, hb2⟩
 have HF : Hid (But g W w2 ∧ ∃ a', Nds w2 g nn a' ∧ Hang a' (.node p x l r) (p : Int) ∧ Off (fun k => k ∈ places (.node p x l r)) a a') := Lib.hid ⟨HB1.out.trans (But.of hb2), a1, HN1.out.below hb2, HG1.out, HO1.out⟩
 clear hb2 HL
 go_wp2
 go_ret
 exact ⟨rfl, HF.out⟩
set_option maxHeartbeats 2000000 in
set_option maxRecDepth 100000 in
theorem even_l1 (q g nn cn p s : Nat) (a : Cells) (x y : Itm) (A B r : T) (W : World) (hq : Hd W q (.slice (some ⟨g, 0, none⟩) nn cn)) (hn : Nds W g nn a) (hqg : q ≠ g)
  (hh : Half a p x (.node s y A B) r) (hnd : (places (.node p x (.node s y A B) r)).Nodup) (hw : Within nn (.node p x (.node s y A B) r)) (bl : hgt (.node s y A B) ≤ 900) (br : hgt r ≤ 900) (h1 : hgt (.node s y A B) = hgt r + 2) (h2 : ¬ hgt A < hgt B) : Evens W q g nn cn a p x (.node s y A B) r := by
 have HE : Hid (even p x (.node s y A B) r = .node s y A (.node p x B r)) := Lib.hid (by unfold even; rw [if_pos h1, if_neg (by simpa [leanR] using h2)]; rfl)
 have HS := Lib.hid (settle_T q g nn cn p a x _ r W hq hn hqg hw.p hh (Apart.of hnd) hw.l hw.r (by omega) (by omega))
 have HL : Hid (∀ W' a', Hd W' q (.slice (some ⟨g, 0, none⟩) nn cn) → Nds W' g nn a' → Half a' p x (.node s y A B) r → Calls Try.prog 120 #[.pointer (some ⟨q, 0, none⟩), .int .i64 (p : Int)] W' fun e W'' => e = .returned (.int .i64 ((hgt (.node s y A B) : Int) - (hgt r : Int))) ∧ Below W'.heap.size W' W'') := Lib.hid fun W' a' g1 g2 g3 => lean_is q g nn cn p a' x _ r W' g1 g2 hw.p g3 hw.l hw.r (by omega) (by omega)
 have HL2 : Hid (∀ W' a', Hd W' q (.slice (some ⟨g, 0, none⟩) nn cn) → Nds W' g nn a' → Half a' s y A B → Calls Try.prog 120 #[.pointer (some ⟨q, 0, none⟩), .int .i64 (s : Int)] W' fun e W'' => e = .returned (.int .i64 ((hgt A : Int) - (hgt B : Int))) ∧ Below W'.heap.size W' W'') := Lib.hid fun W' a' g1 g2 g3 => lean_is q g nn cn s a' y A B W' g1 g2 hw.l.p g3 hw.l.l hw.l.r (by simp only [hgt] at bl; omega) (by simp only [hgt] at bl; omega)
 have HR : Hid (∀ W' a', Hd W' q (.slice (some ⟨g, 0, none⟩) nn cn) → Nds W' g nn a' → Half a' p x (.node s y A B) r → Calls Try.prog 122 #[.pointer (some ⟨q, 0, none⟩), .int .i64 (p : Int)] W' fun e W'' => e = .returned (.int .i64 (s : Int)) ∧ But g W' W'' ∧ ∃ a'', Nds W'' g nn a'' ∧ Hang a'' (.node s y A (.node p x B r)) (s : Int) ∧ Off (fun k => k = p ∨ k = s) a' a'') := Lib.hid fun W' a' g1 g2 g3 => right_is q g nn cn p s a' x y r A B W' g1 g2 hqg g3 hnd hw (by omega) (by omega)
 have HQ := Lib.hid hq
 have HO : Hid (∀ k, k = p ∨ k = s → k ∈ places (.node p x (.node s y A B) r)) := Lib.hid (by rintro k (hk | hk) <;> rw [hk] <;> simp [places])
 have HP3 : Hid (∀ (W' : World) (a' : Cells), Nds W' g nn a' → W'.cell? ⟨g, p * 7 + 3, none⟩ = some (.int .i64 (a' (p * 7 + 3)))) := Lib.hid fun W' a' h => h.cell (by have := hw.p; omega)
 have h0 : (0 : Int) ≤ (p : Int) := by omega
 have h3 : (p : Int) < (nn : Int) := by have := hw.p; omega
 have d2 : ((hgt (.node s y A B) : Int) - (hgt r : Int) == 2) = true := by rw [beq_iff_eq]; omega
 have d3 : decide ((hgt A : Int) - (hgt B : Int) < 0) = false := by rw [decide_eq_false_iff_not]; omega
 unfold Evens
 rw [HE.out]
 clear hq hn hh hnd hw h1 h2 bl br HE
 generalize (hgt (.node s y A B) : Int) - (hgt r : Int) = d at *
 generalize (hgt A : Int) - (hgt B : Int) = d' at *
 go_enter Try.func90, Try.ntmps90
 go_wp2_with fail
 refine HS.out.mono ?_
 rintro e w1 ⟨rfl, hb1, a1, hn1, hg1, ho1⟩
 have HB1 := Lib.hid hb1
 have HQ1 := Lib.hid (HQ.out.but hb1 hqg)
 have HN1 := Lib.hid hn1
 have HG1 := Lib.hid hg1.half
 have HO1 := Lib.hid ho1
 clear hb1 hn1 hg1 ho1 HS HQ
 go_wp2_with fail
 refine (HL.out w1 a1 HQ1.out HN1.out HG1.out).mono ?_
 rintro e w2 ⟨rfl, hb2⟩
 have HB2 := Lib.hid (HB1.out.trans (But.of hb2))
 have HQ2 := Lib.hid (HQ1.out.below hb2)
 have HN2 := Lib.hid (HN1.out.below hb2)
 have c0 := HQ2.out.cell
 have n3 := HP3.out _ _ HN2.out
 rw [show a1 (p * 7 + 3) = (s : Int) from HG1.out.2.1.1] at n3
 clear hb2 HL HQ1 HN1 HB1
 go_wp2_with fail
 refine (HL2.out w2 a1 HQ2.out HN2.out HG1.out.2.1.half).mono ?_
 rintro e w3 ⟨rfl, hb3⟩
 have HB3 := Lib.hid (HB2.out.trans (But.of hb3))
 have HQ3 := Lib.hid (HQ2.out.below hb3)
 have HN3 := Lib.hid (HN2.out.below hb3)
 clear hb3 HL2 HQ2 HN2 HB2 c0 n3
 go_wp2_with fail
 refine (HR.out w3 a1 HQ3.out HN3.out HG1.out).mono ?_
 rintro e w4 ⟨rfl, hb4, a4, hn4, hg4, ho4⟩
 have HF : Hid (But g W w4 ∧ ∃ a', Nds w4 g nn a' ∧ Hang a' (.node s y A (.node p x B r)) (s : Int) ∧ Off (fun k => k ∈ places (.node p x (.node s y A B) r)) a a') := Lib.hid ⟨HB3.out.trans hb4, a4, hn4, hg4, (HO1.out.mono (fun k h => HO.out k (.inl h))).trans (ho4.mono HO.out)⟩
 clear hb4 hn4 hg4 ho4 HR
 go_wp2
 go_ret
 exact ⟨rfl, HF.out⟩
set_option maxHeartbeats 2000000 in
set_option maxRecDepth 100000 in
theorem even_l2 (q g nn cn p s u : Nat) (a : Cells) (x y z : Itm) (A C D r : T) (W : World) (hq : Hd W q (.slice (some ⟨g, 0, none⟩) nn cn)) (hn : Nds W g nn a) (hqg : q ≠ g)
  (hh : Half a p x (.node s y A (.node u z C D)) r) (hnd : (places (.node p x (.node s y A (.node u z C D)) r)).Nodup) (hw : Within nn (.node p x (.node s y A (.node u z C D)) r)) (bl : hgt (.node s y A (.node u z C D)) ≤ 900) (br : hgt r ≤ 900) (h1 : hgt (.node s y A (.node u z C D)) = hgt r + 2) (h2 : hgt A < hgt (.node u z C D)) : Evens W q g nn cn a p x (.node s y A (.node u z C D)) r := by
 have HE : Hid (even p x (.node s y A (.node u z C D)) r = .node u z (.node s y A C) (.node p x D r)) := Lib.hid (by unfold even; rw [if_pos h1, if_pos (by simpa [leanR] using h2)]; rfl)
 have HS := Lib.hid (settle_T q g nn cn p a x _ r W hq hn hqg hw.p hh (Apart.of hnd) hw.l hw.r (by omega) (by omega))
 have HL : Hid (∀ W' a', Hd W' q (.slice (some ⟨g, 0, none⟩) nn cn) → Nds W' g nn a' → Half a' p x (.node s y A (.node u z C D)) r → Calls Try.prog 120 #[.pointer (some ⟨q, 0, none⟩), .int .i64 (p : Int)] W' fun e W'' => e = .returned (.int .i64 ((hgt (.node s y A (.node u z C D)) : Int) - (hgt r : Int))) ∧ Below W'.heap.size W' W'') := Lib.hid fun W' a' g1 g2 g3 => lean_is q g nn cn p a' x _ r W' g1 g2 hw.p g3 hw.l hw.r (by omega) (by omega)
 have HL2 : Hid (∀ W' a', Hd W' q (.slice (some ⟨g, 0, none⟩) nn cn) → Nds W' g nn a' → Half a' s y A (.node u z C D) → Calls Try.prog 120 #[.pointer (some ⟨q, 0, none⟩), .int .i64 (s : Int)] W' fun e W'' => e = .returned (.int .i64 ((hgt A : Int) - (hgt (.node u z C D) : Int))) ∧ Below W'.heap.size W' W'') := Lib.hid fun W' a' g1 g2 g3 => lean_is q g nn cn s a' y A _ W' g1 g2 hw.l.p g3 hw.l.l hw.l.r (by simp only [hgt] at bl ⊢; omega) (by simp only [hgt] at bl ⊢; omega)
 have hndl : (places (.node s y A (.node u z C D))).Nodup := (Apart.of hnd).dl
 have HLR : Hid (∀ W' a', Hd W' q (.slice (some ⟨g, 0, none⟩) nn cn) → Nds W' g nn a' → Half a' s y A (.node u z C D) → Calls Try.prog 121 #[.pointer (some ⟨q, 0, none⟩), .int .i64 (s : Int)] W' fun e W'' => e = .returned (.int .i64 (u : Int)) ∧ But g W' W'' ∧ ∃ a'', Nds W'' g nn a'' ∧ Hang a'' (.node u z (.node s y A C) D) (u : Int) ∧ Off (fun k => k = s ∨ k = u) a' a'') := Lib.hid fun W' a' g1 g2 g3 => left_is q g nn cn s u a' y z A C D W' g1 g2 hqg g3 hndl hw.l (by simp only [hgt] at bl ⊢; omega) (by simp only [hgt] at bl ⊢; omega)
 have hnd2 : (places (.node p x (.node u z (.node s y A C) D) r)).Nodup := by
  have e : places (.node p x (.node u z (.node s y A C) D) r) = places (.node p x (.node s y A (.node u z C D)) r) := by simp [places]
  rw [e]; exact hnd
 have hw2 : Within nn (.node p x (.node u z (.node s y A C) D) r) := fun k hk => hw k (by
  have e : places (.node p x (.node u z (.node s y A C) D) r) = places (.node p x (.node s y A (.node u z C D)) r) := by simp [places]
  rw [e] at hk; exact hk)
 have HR : Hid (∀ W' a', Hd W' q (.slice (some ⟨g, 0, none⟩) nn cn) → Nds W' g nn a' → Half a' p x (.node u z (.node s y A C) D) r → Calls Try.prog 122 #[.pointer (some ⟨q, 0, none⟩), .int .i64 (p : Int)] W' fun e W'' => e = .returned (.int .i64 (u : Int)) ∧ But g W' W'' ∧ ∃ a'', Nds W'' g nn a'' ∧ Hang a'' (.node u z (.node s y A C) (.node p x D r)) (u : Int) ∧ Off (fun k => k = p ∨ k = u) a' a'') := Lib.hid fun W' a' g1 g2 g3 => right_is q g nn cn p u a' x z r _ D W' g1 g2 hqg g3 hnd2 hw2 (by simp only [hgt] at bl ⊢; omega) (by omega)
 have HQ := Lib.hid hq
 have HO : Hid (∀ k, k = p ∨ k = s ∨ k = u → k ∈ places (.node p x (.node s y A (.node u z C D)) r)) := Lib.hid (by rintro k (hk | hk | hk) <;> rw [hk] <;> simp [places])
 have HP3 : Hid (∀ (W' : World) (a' : Cells), Nds W' g nn a' → W'.cell? ⟨g, p * 7 + 3, none⟩ = some (.int .i64 (a' (p * 7 + 3)))) := Lib.hid fun W' a' h => h.cell (by have := hw.p; omega)
 have HHL : Hid (∀ a1 a2 : Cells, Half a1 p x (.node s y A (.node u z C D)) r → Off (fun k => k = s ∨ k = u) a1 a2 → Hang a2 (.node u z (.node s y A C) D) (u : Int) → Half (upd a2 (p * 7 + 3) (u : Int)) p x (.node u z (.node s y A C) D) r) := Lib.hid (by
  intro a1 a2 k1 k2 k3
  have ap := Apart.of hnd
  have ap2 := Apart.of hnd2
  have e1 : ¬ (p = s ∨ p = u) := by rintro (e | e) <;> exact ap.nl (by rw [e]; simp [places])
  have e2 : ∀ k ∈ places r, ¬ (k = s ∨ k = u) := by rintro k hk (e | e) <;> exact ap.lr k (by rw [e]; simp [places]) hk
  obtain ⟨⟨j1, j2, j3⟩, j4, j5⟩ := k1
  have it := k2.item e1 ⟨j1, j2, j3⟩
  have ho := Off.upd a2 p 3 (u : Int) (by omega)
  refine ⟨⟨(upd_ne (by omega)).trans it.1, (upd_ne (by omega)).trans it.2.1, (upd_ne (by omega)).trans it.2.2⟩, ?_, ?_⟩
  ·rw [upd_same]; exact Hang.off ho k3 (fun k hk e => ap2.nl (e ▸ hk))
  ·rw [upd_ne (by omega), k2 p e1 4 (by omega)]
   exact Hang.off ho (Hang.off k2 j5 e2) (fun k hk e => ap.nr (e ▸ hk)))
 have h0 : (0 : Int) ≤ (p : Int) := by omega
 have h3 : (p : Int) < (nn : Int) := by have := hw.p; omega
 have d2 : ((hgt (.node s y A (.node u z C D)) : Int) - (hgt r : Int) == 2) = true := by rw [beq_iff_eq]; omega
 have d3 : decide ((hgt A : Int) - (hgt (.node u z C D) : Int) < 0) = true := by rw [decide_eq_true_iff]; omega
 unfold Evens
 rw [HE.out]
 clear hq hn hh hnd hw h1 h2 bl br HE hndl hnd2 hw2
 generalize (hgt (.node s y A (.node u z C D)) : Int) - (hgt r : Int) = d at *
 generalize (hgt A : Int) - (hgt (.node u z C D) : Int) = d' at *
 go_enter Try.func90, Try.ntmps90
 go_wp2_with fail
 refine HS.out.mono ?_
 rintro e w1 ⟨rfl, hb1, a1, hn1, hg1, ho1⟩
 have HB1 := Lib.hid hb1
 have HQ1 := Lib.hid (HQ.out.but hb1 hqg)
 have HN1 := Lib.hid hn1
 have HG1 := Lib.hid hg1.half
 have HO1 := Lib.hid ho1
 clear hb1 hn1 hg1 ho1 HS HQ
 go_wp2_with fail
 refine (HL.out w1 a1 HQ1.out HN1.out HG1.out).mono ?_
 rintro e w2 ⟨rfl, hb2⟩
 have HB2 := Lib.hid (HB1.out.trans (But.of hb2))
 have HQ2 := Lib.hid (HQ1.out.below hb2)
 have HN2 := Lib.hid (HN1.out.below hb2)
 have c0 := HQ2.out.cell
 have n3 := HP3.out _ _ HN2.out
 rw [show a1 (p * 7 + 3) = (s : Int) from HG1.out.2.1.1] at n3
 clear hb2 HL HQ1 HN1 HB1
 go_wp2_with fail
 refine (HL2.out w2 a1 HQ2.out HN2.out HG1.out.2.1.half).mono ?_
 rintro e w3 ⟨rfl, hb3⟩
 have HB3 := Lib.hid (HB2.out.trans (But.of hb3))
 have HQ3 := Lib.hid (HQ2.out.below hb3)
 have HN3 := Lib.hid (HN2.out.below hb3)
 clear hb3 HL2 HQ2 HN2 HB2 c0 n3
 have c3d := HQ3.out.drew.cell
 have n3d := HP3.out _ _ HN3.out.drew
 rw [show a1 (p * 7 + 3) = (s : Int) from HG1.out.2.1.1] at n3d
 have HLC := Lib.hid (HLR.out w3.drew a1 HQ3.out.drew HN3.out.drew HG1.out.2.1.half)
 go_wp2_with fail
 go_region_with (first
   | (go_at_call 121; refine HLC.out.mono ?_; rintro e w4 ⟨rfl, hb4, a4, hn4, hg4, ho4⟩; have HB4 := Lib.hid (HB3.out.trans ((But.drew w3).trans hb4)); have HQ4 := Lib.hid (HQ3.out.drew.but hb4 hqg); have HN4 := Lib.hid hn4; have HG4 := Lib.hid hg4; have HO4 := Lib.hid ho4; have c4d := HQ4.out.cell; have s4 := HP3.out _ _ HN4.out; have f4 := HN4.out.frozen (p * 7 + 3); clear hb4 hn4 hg4 ho4))
 all_goals (
  have HB5 : Hid (But g W (w4.setCell ⟨g, p * 7 + 3, none⟩ (.int .i64 (u : Int)))) := Lib.hid (HB4.out.trans (But.set g (p * 7 + 3) w4 _))
  have HQ5 : Hid (Hd (w4.setCell ⟨g, p * 7 + 3, none⟩ (.int .i64 (u : Int))) q (.slice (some ⟨g, 0, none⟩) nn cn)) := Lib.hid (HQ4.out.but (But.set g (p * 7 + 3) w4 _) hqg)
  have HN5 : Hid (Nds (w4.setCell ⟨g, p * 7 + 3, none⟩ (.int .i64 (u : Int))) g nn (upd a4 (p * 7 + 3) (u : Int))) := Lib.hid (HN4.out.set _ _)
  have HH5 := Lib.hid (HHL.out a1 a4 HG1.out HO4.out HG4.out)
  have HO5 : Hid (Off (fun k => k ∈ places (.node p x (.node s y A (.node u z C D)) r)) a (upd a4 (p * 7 + 3) (u : Int))) := Lib.hid (((HO1.out.mono (fun k h => HO.out k (.inl h))).trans (HO4.out.mono (fun k h => HO.out k (.inr h)))).trans ((Off.upd a4 p 3 _ (by omega)).mono (fun k h => HO.out k (.inl h))))
  clear c3d n3d c4d s4 f4 HB3 HQ3 HN3 HG1 HO1 HB4 HQ4 HN4 HG4 HO4 HLC HLR HHL HP3
  generalize w4.setCell ⟨g, p * 7 + 3, none⟩ (.int .i64 (u : Int)) = w5 at *
  generalize upd a4 (p * 7 + 3) (u : Int) = a5 at *
  go_wp2_with fail
  refine (HR.out w5 a5 HQ5.out HN5.out HH5.out).mono ?_
  rintro e w6 ⟨rfl, hb6, a6, hn6, hg6, ho6⟩
  have HF : Hid (But g W w6 ∧ ∃ a', Nds w6 g nn a' ∧ Hang a' (.node u z (.node s y A C) (.node p x D r)) (u : Int) ∧ Off (fun k => k ∈ places (.node p x (.node s y A (.node u z C D)) r)) a a') := Lib.hid ⟨HB5.out.trans hb6, a6, hn6, hg6, HO5.out.trans (ho6.mono (fun k h => HO.out k (by rcases h with h | h <;> simp [h])))⟩
  clear hb6 hn6 hg6 ho6 HR
  go_wp2
  go_ret
  exact ⟨rfl, HF.out⟩)
end Go.Proofs.Ytgkjpffbgnljeaa.Man
/- arena.even where the right side has become too high; even, whole. -/
set_option linter.unusedVariables false
set_option linter.unusedSimpArgs false
namespace Go.Proofs.Ytgkjpffbgnljeaa.Man
open Go.RowKit Go.Proofs.Ytgkjpffbgnljeaa.QT Go.Proofs.Ytgkjpffbgnljeaa.TreeM Go.Proofs.YtgkjpffbgnljeaaW.PrintWords Go.Proofs.YtgkjpffbgnljeaaW.PrintLast Go.Proofs.YtgkjpffbgnljeaaW.PrintMore
set_option maxHeartbeats 2000000 in
set_option maxRecDepth 100000 in
theorem even_r1 (q g nn cn p s : Nat) (a : Cells) (x y : Itm) (l A B : T) (W : World) (hq : Hd W q (.slice (some ⟨g, 0, none⟩) nn cn)) (hn : Nds W g nn a) (hqg : q ≠ g)
  (hh : Half a p x l (.node s y A B)) (hnd : (places (.node p x l (.node s y A B))).Nodup) (hw : Within nn (.node p x l (.node s y A B))) (bl : hgt l ≤ 900) (br : hgt (.node s y A B) ≤ 900) (h1 : hgt (.node s y A B) = hgt l + 2) (h2 : ¬ hgt B < hgt A) : Evens W q g nn cn a p x l (.node s y A B) := by
 have HE : Hid (even p x l (.node s y A B) = .node s y (.node p x l A) B) := Lib.hid (by unfold even; rw [if_neg (by omega), if_pos h1, if_neg (by simpa [leanL] using h2)]; rfl)
 have HS := Lib.hid (settle_T q g nn cn p a x l _ W hq hn hqg hw.p hh (Apart.of hnd) hw.l hw.r (by omega) (by omega))
 have HL : Hid (∀ W' a', Hd W' q (.slice (some ⟨g, 0, none⟩) nn cn) → Nds W' g nn a' → Half a' p x l (.node s y A B) → Calls Try.prog 120 #[.pointer (some ⟨q, 0, none⟩), .int .i64 (p : Int)] W' fun e W'' => e = .returned (.int .i64 ((hgt l : Int) - (hgt (.node s y A B) : Int))) ∧ Below W'.heap.size W' W'') := Lib.hid fun W' a' g1 g2 g3 => lean_is q g nn cn p a' x l _ W' g1 g2 hw.p g3 hw.l hw.r (by omega) (by omega)
 have HL2 : Hid (∀ W' a', Hd W' q (.slice (some ⟨g, 0, none⟩) nn cn) → Nds W' g nn a' → Half a' s y A B → Calls Try.prog 120 #[.pointer (some ⟨q, 0, none⟩), .int .i64 (s : Int)] W' fun e W'' => e = .returned (.int .i64 ((hgt A : Int) - (hgt B : Int))) ∧ Below W'.heap.size W' W'') := Lib.hid fun W' a' g1 g2 g3 => lean_is q g nn cn s a' y A B W' g1 g2 hw.r.p g3 hw.r.l hw.r.r (by simp only [hgt] at br; omega) (by simp only [hgt] at br; omega)
 have HR : Hid (∀ W' a', Hd W' q (.slice (some ⟨g, 0, none⟩) nn cn) → Nds W' g nn a' → Half a' p x l (.node s y A B) → Calls Try.prog 121 #[.pointer (some ⟨q, 0, none⟩), .int .i64 (p : Int)] W' fun e W'' => e = .returned (.int .i64 (s : Int)) ∧ But g W' W'' ∧ ∃ a'', Nds W'' g nn a'' ∧ Hang a'' (.node s y (.node p x l A) B) (s : Int) ∧ Off (fun k => k = p ∨ k = s) a' a'') := Lib.hid fun W' a' g1 g2 g3 => left_is q g nn cn p s a' x y l A B W' g1 g2 hqg g3 hnd hw (by omega) (by omega)
 have HQ := Lib.hid hq
 have HO : Hid (∀ k, k = p ∨ k = s → k ∈ places (.node p x l (.node s y A B))) := Lib.hid (by rintro k (hk | hk) <;> rw [hk] <;> simp [places])
 have HP3 : Hid (∀ (W' : World) (a' : Cells), Nds W' g nn a' → W'.cell? ⟨g, p * 7 + 4, none⟩ = some (.int .i64 (a' (p * 7 + 4)))) := Lib.hid fun W' a' h => h.cell (by have := hw.p; omega)
 have h0 : (0 : Int) ≤ (p : Int) := by omega
 have h3 : (p : Int) < (nn : Int) := by have := hw.p; omega
 have d2 : ((hgt l : Int) - (hgt (.node s y A B) : Int) == 2) = false := by rw [beq_eq_false_iff_ne]; omega
 have d2' : ((hgt l : Int) - (hgt (.node s y A B) : Int) == -2) = true := by rw [beq_iff_eq]; omega
 have d3 : decide ((hgt A : Int) - (hgt B : Int) > 0) = false := by rw [decide_eq_false_iff_not]; omega
 unfold Evens
 rw [HE.out]
 clear hq hn hh hnd hw h1 h2 bl br HE
 generalize (hgt l : Int) - (hgt (.node s y A B) : Int) = d at *
 generalize (hgt A : Int) - (hgt B : Int) = d' at *
 go_enter Try.func90, Try.ntmps90
 go_wp2_with fail
 refine HS.out.mono ?_
 rintro e w1 ⟨rfl, hb1, a1, hn1, hg1, ho1⟩
 have HB1 := Lib.hid hb1
 have HQ1 := Lib.hid (HQ.out.but hb1 hqg)
 have HN1 := Lib.hid hn1
 have HG1 := Lib.hid hg1.half
 have HO1 := Lib.hid ho1
 clear hb1 hn1 hg1 ho1 HS HQ
 go_wp2_with fail
 refine (HL.out w1 a1 HQ1.out HN1.out HG1.out).mono ?_
 rintro e w2 ⟨rfl, hb2⟩
 have HB2 := Lib.hid (HB1.out.trans (But.of hb2))
 have HQ2 := Lib.hid (HQ1.out.below hb2)
 have HN2 := Lib.hid (HN1.out.below hb2)
 have c0 := HQ2.out.cell
 have n3 := HP3.out _ _ HN2.out
 rw [show a1 (p * 7 + 4) = (s : Int) from HG1.out.2.2.1] at n3
 clear hb2 HL HQ1 HN1 HB1
 go_wp2_with fail
 refine (HL2.out w2 a1 HQ2.out HN2.out HG1.out.2.2.half).mono ?_
 rintro e w3 ⟨rfl, hb3⟩
 have HB3 := Lib.hid (HB2.out.trans (But.of hb3))
 have HQ3 := Lib.hid (HQ2.out.below hb3)
 have HN3 := Lib.hid (HN2.out.below hb3)
 clear hb3 HL2 HQ2 HN2 HB2 c0 n3
 go_wp2_with fail
 refine (HR.out w3 a1 HQ3.out HN3.out HG1.out).mono ?_
 rintro e w4 ⟨rfl, hb4, a4, hn4, hg4, ho4⟩
 have HF : Hid (But g W w4 ∧ ∃ a', Nds w4 g nn a' ∧ Hang a' (.node s y (.node p x l A) B) (s : Int) ∧ Off (fun k => k ∈ places (.node p x l (.node s y A B))) a a') := Lib.hid ⟨HB3.out.trans hb4, a4, hn4, hg4, (HO1.out.mono (fun k h => HO.out k (.inl h))).trans (ho4.mono HO.out)⟩
 clear hb4 hn4 hg4 ho4 HR
 go_wp2
 go_ret
 exact ⟨rfl, HF.out⟩
set_option maxHeartbeats 2000000 in
set_option maxRecDepth 100000 in
theorem even_r2 (q g nn cn p s u : Nat) (a : Cells) (x y z : Itm) (l C D B : T) (W : World) (hq : Hd W q (.slice (some ⟨g, 0, none⟩) nn cn)) (hn : Nds W g nn a) (hqg : q ≠ g)
  (hh : Half a p x l (.node s y (.node u z C D) B)) (hnd : (places (.node p x l (.node s y (.node u z C D) B))).Nodup) (hw : Within nn (.node p x l (.node s y (.node u z C D) B))) (bl : hgt l ≤ 900) (br : hgt (.node s y (.node u z C D) B) ≤ 900) (h1 : hgt (.node s y (.node u z C D) B) = hgt l + 2) (h2 : hgt B < hgt (.node u z C D)) : Evens W q g nn cn a p x l (.node s y (.node u z C D) B) := by
 have HE : Hid (even p x l (.node s y (.node u z C D) B) = .node u z (.node p x l C) (.node s y D B)) := Lib.hid (by unfold even; rw [if_neg (by omega), if_pos h1, if_pos (by simpa [leanL] using h2)]; rfl)
 have HS := Lib.hid (settle_T q g nn cn p a x l _ W hq hn hqg hw.p hh (Apart.of hnd) hw.l hw.r (by omega) (by omega))
 have HL : Hid (∀ W' a', Hd W' q (.slice (some ⟨g, 0, none⟩) nn cn) → Nds W' g nn a' → Half a' p x l (.node s y (.node u z C D) B) → Calls Try.prog 120 #[.pointer (some ⟨q, 0, none⟩), .int .i64 (p : Int)] W' fun e W'' => e = .returned (.int .i64 ((hgt l : Int) - (hgt (.node s y (.node u z C D) B) : Int))) ∧ Below W'.heap.size W' W'') := Lib.hid fun W' a' g1 g2 g3 => lean_is q g nn cn p a' x l _ W' g1 g2 hw.p g3 hw.l hw.r (by omega) (by omega)
 have HL2 : Hid (∀ W' a', Hd W' q (.slice (some ⟨g, 0, none⟩) nn cn) → Nds W' g nn a' → Half a' s y (.node u z C D) B → Calls Try.prog 120 #[.pointer (some ⟨q, 0, none⟩), .int .i64 (s : Int)] W' fun e W'' => e = .returned (.int .i64 ((hgt (.node u z C D) : Int) - (hgt B : Int))) ∧ Below W'.heap.size W' W'') := Lib.hid fun W' a' g1 g2 g3 => lean_is q g nn cn s a' y _ B W' g1 g2 hw.r.p g3 hw.r.l hw.r.r (by simp only [hgt] at br ⊢; omega) (by simp only [hgt] at br ⊢; omega)
 have hndl : (places (.node s y (.node u z C D) B)).Nodup := (Apart.of hnd).dr
 have HLR : Hid (∀ W' a', Hd W' q (.slice (some ⟨g, 0, none⟩) nn cn) → Nds W' g nn a' → Half a' s y (.node u z C D) B → Calls Try.prog 122 #[.pointer (some ⟨q, 0, none⟩), .int .i64 (s : Int)] W' fun e W'' => e = .returned (.int .i64 (u : Int)) ∧ But g W' W'' ∧ ∃ a'', Nds W'' g nn a'' ∧ Hang a'' (.node u z C (.node s y D B)) (u : Int) ∧ Off (fun k => k = s ∨ k = u) a' a'') := Lib.hid fun W' a' g1 g2 g3 => right_is q g nn cn s u a' y z B C D W' g1 g2 hqg g3 hndl hw.r (by simp only [hgt] at br ⊢; omega) (by simp only [hgt] at br ⊢; omega)
 have hnd2 : (places (.node p x l (.node u z C (.node s y D B)))).Nodup := by
  have e : places (.node p x l (.node u z C (.node s y D B))) = places (.node p x l (.node s y (.node u z C D) B)) := by simp [places]
  rw [e]; exact hnd
 have hw2 : Within nn (.node p x l (.node u z C (.node s y D B))) := fun k hk => hw k (by
  have e : places (.node p x l (.node u z C (.node s y D B))) = places (.node p x l (.node s y (.node u z C D) B)) := by simp [places]
  rw [e] at hk; exact hk)
 have HR : Hid (∀ W' a', Hd W' q (.slice (some ⟨g, 0, none⟩) nn cn) → Nds W' g nn a' → Half a' p x l (.node u z C (.node s y D B)) → Calls Try.prog 121 #[.pointer (some ⟨q, 0, none⟩), .int .i64 (p : Int)] W' fun e W'' => e = .returned (.int .i64 (u : Int)) ∧ But g W' W'' ∧ ∃ a'', Nds W'' g nn a'' ∧ Hang a'' (.node u z (.node p x l C) (.node s y D B)) (u : Int) ∧ Off (fun k => k = p ∨ k = u) a' a'') := Lib.hid fun W' a' g1 g2 g3 => left_is q g nn cn p u a' x z l C _ W' g1 g2 hqg g3 hnd2 hw2 (by omega) (by simp only [hgt] at br ⊢; omega)
 have HQ := Lib.hid hq
 have HO : Hid (∀ k, k = p ∨ k = s ∨ k = u → k ∈ places (.node p x l (.node s y (.node u z C D) B))) := Lib.hid (by rintro k (hk | hk | hk) <;> rw [hk] <;> simp [places])
 have HP3 : Hid (∀ (W' : World) (a' : Cells), Nds W' g nn a' → W'.cell? ⟨g, p * 7 + 4, none⟩ = some (.int .i64 (a' (p * 7 + 4)))) := Lib.hid fun W' a' h => h.cell (by have := hw.p; omega)
 have HHL : Hid (∀ a1 a2 : Cells, Half a1 p x l (.node s y (.node u z C D) B) → Off (fun k => k = s ∨ k = u) a1 a2 → Hang a2 (.node u z C (.node s y D B)) (u : Int) → Half (upd a2 (p * 7 + 4) (u : Int)) p x l (.node u z C (.node s y D B))) := Lib.hid (by
  intro a1 a2 k1 k2 k3
  have ap := Apart.of hnd
  have ap2 := Apart.of hnd2
  have e1 : ¬ (p = s ∨ p = u) := by rintro (e | e) <;> exact ap.nr (by rw [e]; simp [places])
  have e2 : ∀ k ∈ places l, ¬ (k = s ∨ k = u) := by rintro k hk (e | e) <;> exact ap.lr k hk (by rw [e]; simp [places])
  obtain ⟨⟨j1, j2, j3⟩, j4, j5⟩ := k1
  have it := k2.item e1 ⟨j1, j2, j3⟩
  have ho := Off.upd a2 p 4 (u : Int) (by omega)
  refine ⟨⟨(upd_ne (by omega)).trans it.1, (upd_ne (by omega)).trans it.2.1, (upd_ne (by omega)).trans it.2.2⟩, ?_, ?_⟩
  ·rw [upd_ne (by omega), k2 p e1 3 (by omega)]
   exact Hang.off ho (Hang.off k2 j4 e2) (fun k hk e => ap.nl (e ▸ hk))
  ·rw [upd_same]; exact Hang.off ho k3 (fun k hk e => ap2.nr (e ▸ hk)))
 have h0 : (0 : Int) ≤ (p : Int) := by omega
 have h3 : (p : Int) < (nn : Int) := by have := hw.p; omega
 have d2 : ((hgt l : Int) - (hgt (.node s y (.node u z C D) B) : Int) == 2) = false := by rw [beq_eq_false_iff_ne]; omega
 have d2' : ((hgt l : Int) - (hgt (.node s y (.node u z C D) B) : Int) == -2) = true := by rw [beq_iff_eq]; omega
 have d3 : decide ((hgt (.node u z C D) : Int) - (hgt B : Int) > 0) = true := by rw [decide_eq_true_iff]; omega
 unfold Evens
 rw [HE.out]
 clear hq hn hh hnd hw h1 h2 bl br HE hndl hnd2 hw2
 generalize (hgt l : Int) - (hgt (.node s y (.node u z C D) B) : Int) = d at *
 generalize (hgt (.node u z C D) : Int) - (hgt B : Int) = d' at *
 go_enter Try.func90, Try.ntmps90
 go_wp2_with fail
 refine HS.out.mono ?_
 rintro e w1 ⟨rfl, hb1, a1, hn1, hg1, ho1⟩
 have HB1 := Lib.hid hb1
 have HQ1 := Lib.hid (HQ.out.but hb1 hqg)
 have HN1 := Lib.hid hn1
 have HG1 := Lib.hid hg1.half
 have HO1 := Lib.hid ho1
 clear hb1 hn1 hg1 ho1 HS HQ
 go_wp2_with fail
 refine (HL.out w1 a1 HQ1.out HN1.out HG1.out).mono ?_
 rintro e w2 ⟨rfl, hb2⟩
 have HB2 := Lib.hid (HB1.out.trans (But.of hb2))
 have HQ2 := Lib.hid (HQ1.out.below hb2)
 have HN2 := Lib.hid (HN1.out.below hb2)
 have c0 := HQ2.out.cell
 have n3 := HP3.out _ _ HN2.out
 rw [show a1 (p * 7 + 4) = (s : Int) from HG1.out.2.2.1] at n3
 clear hb2 HL HQ1 HN1 HB1
 go_wp2_with fail
 refine (HL2.out w2 a1 HQ2.out HN2.out HG1.out.2.2.half).mono ?_
 rintro e w3 ⟨rfl, hb3⟩
 have HB3 := Lib.hid (HB2.out.trans (But.of hb3))
 have HQ3 := Lib.hid (HQ2.out.below hb3)
 have HN3 := Lib.hid (HN2.out.below hb3)
 clear hb3 HL2 HQ2 HN2 HB2 c0 n3
 have c3d := HQ3.out.drew.cell
 have n3d := HP3.out _ _ HN3.out.drew
 rw [show a1 (p * 7 + 4) = (s : Int) from HG1.out.2.2.1] at n3d
 have HLC := Lib.hid (HLR.out w3.drew a1 HQ3.out.drew HN3.out.drew HG1.out.2.2.half)
 go_wp2_with fail
 go_region_with (first
   | (go_at_call 122; refine HLC.out.mono ?_; rintro e w4 ⟨rfl, hb4, a4, hn4, hg4, ho4⟩; have HB4 := Lib.hid (HB3.out.trans ((But.drew w3).trans hb4)); have HQ4 := Lib.hid (HQ3.out.drew.but hb4 hqg); have HN4 := Lib.hid hn4; have HG4 := Lib.hid hg4; have HO4 := Lib.hid ho4; have c4d := HQ4.out.cell; have s4 := HP3.out _ _ HN4.out; have f4 := HN4.out.frozen (p * 7 + 4); clear hb4 hn4 hg4 ho4))
 all_goals (
  have HB5 : Hid (But g W (w4.setCell ⟨g, p * 7 + 4, none⟩ (.int .i64 (u : Int)))) := Lib.hid (HB4.out.trans (But.set g (p * 7 + 4) w4 _))
  have HQ5 : Hid (Hd (w4.setCell ⟨g, p * 7 + 4, none⟩ (.int .i64 (u : Int))) q (.slice (some ⟨g, 0, none⟩) nn cn)) := Lib.hid (HQ4.out.but (But.set g (p * 7 + 4) w4 _) hqg)
  have HN5 : Hid (Nds (w4.setCell ⟨g, p * 7 + 4, none⟩ (.int .i64 (u : Int))) g nn (upd a4 (p * 7 + 4) (u : Int))) := Lib.hid (HN4.out.set _ _)
  have HH5 := Lib.hid (HHL.out a1 a4 HG1.out HO4.out HG4.out)
  have HO5 : Hid (Off (fun k => k ∈ places (.node p x l (.node s y (.node u z C D) B))) a (upd a4 (p * 7 + 4) (u : Int))) := Lib.hid (((HO1.out.mono (fun k h => HO.out k (.inl h))).trans (HO4.out.mono (fun k h => HO.out k (.inr h)))).trans ((Off.upd a4 p 4 _ (by omega)).mono (fun k h => HO.out k (.inl h))))
  clear c3d n3d c4d s4 f4 HB3 HQ3 HN3 HG1 HO1 HB4 HQ4 HN4 HG4 HO4 HLC HLR HHL HP3
  generalize w4.setCell ⟨g, p * 7 + 4, none⟩ (.int .i64 (u : Int)) = w5 at *
  generalize upd a4 (p * 7 + 4) (u : Int) = a5 at *
  go_wp2_with fail
  refine (HR.out w5 a5 HQ5.out HN5.out HH5.out).mono ?_
  rintro e w6 ⟨rfl, hb6, a6, hn6, hg6, ho6⟩
  have HF : Hid (But g W w6 ∧ ∃ a', Nds w6 g nn a' ∧ Hang a' (.node u z (.node p x l C) (.node s y D B)) (u : Int) ∧ Off (fun k => k ∈ places (.node p x l (.node s y (.node u z C D) B))) a a') := Lib.hid ⟨HB5.out.trans hb6, a6, hn6, hg6, HO5.out.trans (ho6.mono (fun k h => HO.out k (by rcases h with h | h <;> simp [h])))⟩
  clear hb6 hn6 hg6 ho6 HR
  go_wp2
  go_ret
  exact ⟨rfl, HF.out⟩)
theorem even_is (q g nn cn p : Nat) (a : Cells) (x : Itm) (l r : T) (W : World) (hq : Hd W q (.slice (some ⟨g, 0, none⟩) nn cn)) (hn : Nds W g nn a) (hqg : q ≠ g)
  (hh : Half a p x l r) (hnd : (places (.node p x l r)).Nodup) (hw : Within nn (.node p x l r)) (bl : hgt l ≤ 900) (br : hgt r ≤ 900) : Evens W q g nn cn a p x l r := by
 by_cases h1 : hgt l = hgt r + 2
 ·match l, hh, hnd, hw, bl, h1 with
  | .nil, _, _, _, _, h1 => simp [hgt] at h1
  | .node s y A B, hh, hnd, hw, bl, h1 =>
   by_cases h2 : hgt A < hgt B
   ·match B, hh, hnd, hw, bl, h1, h2 with
    | .nil, _, _, _, _, _, h2 => simp [hgt] at h2
    | .node u z C D, hh, hnd, hw, bl, h1, h2 => exact even_l2 q g nn cn p s u a x y z A C D r W hq hn hqg hh hnd hw bl br h1 h2
   ·exact even_l1 q g nn cn p s a x y A B r W hq hn hqg hh hnd hw bl br h1 h2
 ·by_cases h3 : hgt r = hgt l + 2
  ·match r, hh, hnd, hw, br, h1, h3 with
   | .nil, _, _, _, _, _, h3 => simp [hgt] at h3
   | .node s y A B, hh, hnd, hw, br, h1, h3 =>
    by_cases h2 : hgt B < hgt A
    ·match A, hh, hnd, hw, br, h1, h3, h2 with
     | .nil, _, _, _, _, _, _, h2 => simp [hgt] at h2
     | .node u z C D, hh, hnd, hw, br, h1, h3, h2 => exact even_r2 q g nn cn p s u a x y z l C D B W hq hn hqg hh hnd hw bl br h3 h2
    ·exact even_r1 q g nn cn p s a x y l A B W hq hn hqg hh hnd hw bl br h3 h2
  ·exact even_mid q g nn cn p a x l r W hq hn hqg hh hnd hw bl br h1 h3
end Go.Proofs.Ytgkjpffbgnljeaa.Man
/- tree.compare, itemMay: what they answer (by their printed contracts). -/
set_option linter.unusedVariables false
set_option linter.unusedSimpArgs false
namespace Go.Proofs.Ytgkjpffbgnljeaa.Man
open Go.RowKit Go.Proofs.Ytgkjpffbgnljeaa.QT Go.Proofs.Ytgkjpffbgnljeaa.QA Go.Proofs.Ytgkjpffbgnljeaa.TreeM Go.Proofs.YtgkjpffbgnljeaaW.PrintWords Go.Proofs.YtgkjpffbgnljeaaW.PrintLast Go.Proofs.YtgkjpffbgnljeaaW.PrintMore
def cmpF (x y : Itm) : Int := if lt x y then -1 else if lt y x then 1 else 0
theorem cmpF_lt {x y : Itm} : cmpF x y < 0 ↔ lt x y := by
 unfold cmpF
 by_cases h : lt x y
 ·simp [h]
 ·by_cases g : lt y x <;> simp [h, g]
theorem cmpF_gt {x y : Itm} : cmpF x y > 0 ↔ lt y x := by
 unfold cmpF
 by_cases h : lt x y
 ·have := lt_asymm h; simp [h, this]
 ·by_cases g : lt y x <;> simp [h, g]
theorem cmpF_eq {x y : Itm} : cmpF x y = 0 ↔ x = y := by
 unfold cmpF
 by_cases h : lt x y
 ·simp only [h, if_true]
  exact ⟨fun e => by omega, fun e => absurd h (by rw [e]; exact lt_irrefl _)⟩
 ·by_cases g : lt y x
  ·simp only [h, g, if_true, if_false]
   exact ⟨fun e => by omega, fun e => absurd g (by rw [e]; exact lt_irrefl _)⟩
  ·simp only [h, g, if_false, true_iff]
   exact lt_total h g
theorem compare_num (a b : Int) : cmp_Compare_int.f a b = some (if a < b then -1 else if b < a then 1 else 0) := by
 have e : ∀ x : Int, (x != x) = false := fun x => by simp
 simp only [cmp_Compare_int.f, cmp_isNaN_int.f, e, Option.bind_some, Bool.false_eq_true, if_false]
 split
 ·rfl
 ·show (if a > b then some (1 : Int) else some 0) = _
  split <;> rfl
theorem or3 (a b c : Int) : cmp_Or_int.f 4 [a, b, c] = some (if a = 0 then if b = 0 then c else b else a) := by
 have w1 : wrap64 ((0 : Int) + 1) = 1 := by unfold wrap64; omega
 have w2 : wrap64 ((1 : Int) + 1) = 2 := by unfold wrap64; omega
 have w3 : wrap64 ((2 : Int) + 1) = 3 := by unfold wrap64; omega
 simp only [cmp_Or_int.f, cmp_Or_int.l0, w1, w2, w3]
 have r0 : rd [a, b, c] 0 = a := rfl
 have r1 : rd [a, b, c] 1 = b := rfl
 have r2 : rd [a, b, c] 2 = c := rfl
 simp only [r0, r1, r2, List.length_cons, List.length_nil]
 by_cases h0 : a = 0
 ·by_cases h1 : b = 0
  ·by_cases h2 : c = 0 <;> simp [h0, h1, h2]
  ·simp [h0, h1]
 ·simp [h0]
theorem compare_f (x y : Itm) : tree_compare.f 4 x.fr x.to_ x.id y.fr y.to_ y.id = some (cmpF x y) := by
 simp only [tree_compare.f, compare_num, Option.bind_some, or3]
 congr 1
 unfold cmpF lt
 by_cases a1 : x.fr < y.fr
 ·simp [a1]
 ·by_cases a2 : y.fr < x.fr
  ·have : ¬ x.fr = y.fr := by omega
   simp [a1, a2, this]
  ·have e : x.fr = y.fr := by omega
   by_cases b1 : x.to_ < y.to_
   ·simp [e, b1]
   ·by_cases b2 : y.to_ < x.to_
    ·have : ¬ x.to_ = y.to_ := by omega
     simp [e, b1, b2, this]
    ·have f : x.to_ = y.to_ := by omega
     simp [e, f]
theorem compare_is (a b c d e f : Int) (w : World) : Calls Try.prog 55 #[.agg #[.int .i64 a, .int .i64 b, .int .i64 c], .agg #[.int .i64 d, .int .i64 e, .int .i64 f]] w fun r w' => r = .returned (.int .i64 (cmpF ⟨a, b, c⟩ ⟨d, e, f⟩)) ∧ Below w.heap.size w w' :=
 tree_compare.calls 4 a b c d e f _ w (compare_f ⟨a, b, c⟩ ⟨d, e, f⟩)
def itmayF (x : Itm) : Bool := mayF x.fr x.to_ && rateF x.id
theorem spanMay_f (a b : Int) : span_May.f a b = some (mayF a b) := by
 unfold span_May.f mayF
 by_cases h : a ≥ 0
 ·by_cases g : a < b <;> simp [h, g]
 ·simp [h]
theorem rate_f (a : Int) : rate_Is.f a = some (rateF a) := by
 unfold rate_Is.f rateF
 by_cases h : a ≥ 0 <;> simp [h]
theorem itemMay_f (a b c : Int) : tree_itemMay.f a b c = some (itmayF ⟨a, b, c⟩) := by
 simp only [tree_itemMay.f, spanMay_f, rate_f, Option.bind_some, itmayF]
 cases mayF a b <;> simp
theorem itemMay_is (a b c : Int) (w : World) : Calls Try.prog 58 #[.agg #[.int .i64 a, .int .i64 b, .int .i64 c]] w fun e w' => e = .returned (.bool (itmayF ⟨a, b, c⟩)) ∧ Below w.heap.size w w' :=
 tree_itemMay.calls a b c _ w (itemMay_f a b c)
theorem refMay_f (a b : Int) : tollbarref1_SpanMay.f a b = some (mayF a b) := by
 unfold tollbarref1_SpanMay.f mayF
 by_cases h : a ≥ 0
 ·by_cases g : a < b <;> simp [h, g]
 ·simp [h]
theorem refRate_f (a : Int) : tollbarref1_Rate.f a = some (rateF a) := by
 unfold tollbarref1_Rate.f rateF
 by_cases h : a ≥ 0 <;> simp [h]
theorem refItemMay_f (a b c : Int) : tollbarref17_ItemMay.f a b c = some (itmayF ⟨a, b, c⟩) := by
 simp only [tollbarref17_ItemMay.f, refMay_f, refRate_f, Option.bind_some, itmayF]
 cases mayF a b <;> simp
theorem less_f (x y : Itm) : tollbarref17_Less.f x.fr x.to_ x.id y.fr y.to_ y.id = some (decide (lt x y)) := by
 unfold tollbarref17_Less.f lt
 by_cases e : x.fr = y.fr
 ·by_cases f : x.to_ = y.to_ <;> simp [e, f]
 ·simp [e]
end Go.Proofs.Ytgkjpffbgnljeaa.Man
/- An arena in memory of one's own; arena.place. -/
set_option linter.unusedVariables false
set_option linter.unusedSimpArgs false
namespace Go.Proofs.Ytgkjpffbgnljeaa.Man
open Go.RowKit Go.Proofs.Ytgkjpffbgnljeaa.QT Go.Proofs.Ytgkjpffbgnljeaa.TreeM Go.Proofs.YtgkjpffbgnljeaaW.PrintWords Go.Proofs.YtgkjpffbgnljeaaW.PrintLast Go.Proofs.YtgkjpffbgnljeaaW.PrintMore
abbrev Nd := S64
def fieldN (x : Nd) : Nat → Int
 | 0 => x.f0.f0.f0 | 1 => x.f0.f0.f1 | 2 => x.f0.f1 | 3 => x.f1 | 4 => x.f2 | 5 => x.f3 | _ => x.f4
def cellN (ns : List Nd) (j : Nat) : Int := fieldN (ns.getD (j / 7) z64) (j % 7)
def nodeN (a : Cells) (p : Nat) : Nd := ⟨⟨⟨a (p * 7), a (p * 7 + 1)⟩, a (p * 7 + 2)⟩, a (p * 7 + 3), a (p * 7 + 4), a (p * 7 + 5), a (p * 7 + 6)⟩
def listN (nn : Nat) (a : Cells) : List Nd := (List.range nn).map (nodeN a)
theorem listN_length (nn : Nat) (a : Cells) : (listN nn a).length = nn := by simp [listN]
theorem listN_get {nn : Nat} (a : Cells) {p : Nat} (h : p < nn) : (listN nn a)[p]? = some (nodeN a p) := by simp [listN, h]
theorem cellN_at (ns : List Nd) (p : Nat) {k : Nat} (hk : k < 7) : cellN ns (p * 7 + k) = fieldN (ns.getD p z64) k := by
 unfold cellN
 rw [show (p * 7 + k) / 7 = p by omega, show (p * 7 + k) % 7 = k by omega]
theorem nodeN_cellN (ns : List Nd) (p : Nat) : nodeN (cellN ns) p = ns.getD p z64 := by
 unfold nodeN
 have h0 := cellN_at ns p (k := 0) (by omega)
 rw [Nat.add_zero] at h0
 rw [h0, cellN_at ns p (k := 1) (by omega), cellN_at ns p (k := 2) (by omega), cellN_at ns p (k := 3) (by omega), cellN_at ns p (k := 4) (by omega), cellN_at ns p (k := 5) (by omega), cellN_at ns p (k := 6) (by omega)]
 rfl
theorem listN_cellN (ns : List Nd) : listN ns.length (cellN ns) = ns := by
 apply List.ext_getElem?
 intro p
 by_cases h : p < ns.length
 ·rw [listN_get _ h, nodeN_cellN]
  simp [List.getD, List.getElem?_eq_getElem h]
 ·rw [List.getElem?_eq_none (by rw [listN_length]; omega), List.getElem?_eq_none (by omega)]
theorem fieldN_nodeN (a : Cells) (p : Nat) : ∀ k, k < 7 → fieldN (nodeN a p) k = a (p * 7 + k) := by
 intro k hk
 match k, hk with
 | 0, _ => rfl
 | 1, _ => rfl
 | 2, _ => rfl
 | 3, _ => rfl
 | 4, _ => rfl
 | 5, _ => rfl
 | 6, _ => rfl
theorem cellN_listN {nn : Nat} (a : Cells) {j : Nat} (h : j < nn * 7) : cellN (listN nn a) j = a j := by
 have e : j = (j / 7) * 7 + j % 7 := by omega
 rw [e, cellN_at _ _ (by omega)]
 simp only [List.getD, listN_get a (show j / 7 < nn by omega), Option.getD_some]
 exact fieldN_nodeN a (j / 7) (j % 7) (by omega)
theorem listN_ext {nn : Nat} {a b : Cells} (h : ∀ j, j < nn * 7 → a j = b j) : listN nn a = listN nn b := by
 apply List.ext_getElem?
 intro p
 by_cases hp : p < nn
 ·rw [listN_get _ hp, listN_get _ hp]
  unfold nodeN
  rw [h _ (by omega), h _ (by omega), h _ (by omega), h _ (by omega), h _ (by omega), h _ (by omega), h _ (by omega)]
 ·rw [List.getElem?_eq_none (by rw [listN_length]; omega), List.getElem?_eq_none (by rw [listN_length]; omega)]
theorem Rd.of_C {W : World} {A : Option Addr} {n : Nat} {ns : List Nd} (h : Kd.C k64 W A n ns) : Rd W A n (cellN ns) := by
 intro j hj
 obtain ⟨ad, e, h0, h1, h2, h3, h4, h5, h6⟩ := at_T64 h ((j / 7 : Nat) : Int) (by omega) (by omega)
 refine ⟨ad, e, ?_⟩
 rw [Int.toNat_natCast] at h0 h1 h2 h3 h4 h5 h6
 have hr : rd_T64 ns ((j / 7 : Nat) : Int) = ns.getD (j / 7) z64 := by unfold rd_T64; rw [Int.toNat_natCast]
 rw [hr] at h0 h1 h2 h3 h4 h5 h6
 unfold cellN
 generalize ns.getD (j / 7) z64 = x at *
 have hk : j % 7 < 7 := by omega
 have ej : j = j / 7 * 7 + j % 7 := by omega
 generalize j % 7 = k at *
 generalize j / 7 = p at *
 subst ej
 match k, hk with
 | 0, _ => exact h0
 | 1, _ => rw [add_field _ _ _ (by omega)]; exact h1
 | 2, _ => rw [add_field _ _ _ (by omega)]; exact h2
 | 3, _ => rw [add_field _ _ _ (by omega)]; exact h3
 | 4, _ => rw [add_field _ _ _ (by omega)]; exact h4
 | 5, _ => rw [add_field _ _ _ (by omega)]; exact h5
 | 6, _ => rw [add_field _ _ _ (by omega)]; exact h6
theorem rowN_to {W : World} {base g n cap : Nat} {ok : Nat → Prop} {ns : List Nd} (h : Kd.R k64 64 W base ok (.slice (some ⟨g, 0, none⟩) n cap) ns) :
  ∃ cur : Array Value, W.heap[g]? = some (.cells cur 64 (0, 0)) ∧ base ≤ g ∧ n = ns.length ∧ ns.length ≤ cap ∧ cap ≤ maxLen ∧ cur.size = cap * 7 ∧ ∀ j, j < ns.length * 7 → cur[j]? = some (.int .i64 (cellN ns j)) := by
 obtain ⟨h0, inner, ho, hr⟩ := h
 rcases ho.2 with ⟨hv, _⟩ | ⟨g', cap', cur, hv, hb, hh, hnc, hcm, hcs, ht⟩
 ·cases hv
 injection hv with e1 e2 e3
 injection e1 with e1
 injection e1 with e1
 subst e1 e2 e3
 refine ⟨cur, hh, hb, rfl, hnc, hcm, hcs, fun j hj => ?_⟩
 have hp : j / 7 < ns.length := by omega
 have hR := k64_openM (hr.2 (j / 7) ns[j / 7] (List.getElem?_eq_getElem hp))
 have hx : ns.getD (j / 7) z64 = ns[j / 7] := by simp [List.getD, List.getElem?_eq_getElem hp]
 have hi : inner[j]? = (List.take 7 (inner.drop (j / 7 * 7)))[j % 7]? := by
  rw [List.getElem?_take, if_pos (by omega), List.getElem?_drop, show j / 7 * 7 + j % 7 = j by omega]
 have ht : cur.toList.take (ns.length * 7) = inner := ht
 have hc : cur[j]? = inner[j]? := by
  rw [← ht, List.getElem?_take, if_pos (by omega), Array.getElem?_toList]
 rw [hc, hi]
 have hR' : List.take 7 (inner.drop (j / 7 * 7)) = [.int .i64 ns[j / 7].f0.f0.f0, .int .i64 ns[j / 7].f0.f0.f1, .int .i64 ns[j / 7].f0.f1, .int .i64 ns[j / 7].f1, .int .i64 ns[j / 7].f2, .int .i64 ns[j / 7].f3, .int .i64 ns[j / 7].f4] := hR
 rw [hR']
 unfold cellN
 rw [hx]
 have hk : j % 7 < 7 := by omega
 generalize j % 7 = k at *
 match k, hk with
 | 0, _ => rfl
 | 1, _ => rfl
 | 2, _ => rfl
 | 3, _ => rfl
 | 4, _ => rfl
 | 5, _ => rfl
 | 6, _ => rfl
theorem rowN_of {W : World} {base g nn cap : Nat} {ok : Nat → Prop} {a : Cells} {cur : Array Value} (hh : W.heap[g]? = some (.cells cur 64 (0, 0))) (hb : base ≤ g) (hok : ok g) (hl : nn ≤ cap) (hm : cap ≤ maxLen) (hs : cur.size = cap * 7) (ht : ∀ j, j < nn * 7 → cur[j]? = some (.int .i64 (a j))) :
  Kd.R k64 64 W base ok (.slice (some ⟨g, 0, none⟩) nn cap) (listN nn a) := by
 have hlen : (cur.toList.take (nn * 7)).length = nn * 7 := by rw [List.length_take, Array.length_toList]; omega
 refine ⟨fun k hk => (by simp [Value.ownBlock] at hk; subst hk; exact hok), cur.toList.take (nn * 7), ⟨by rw [listN_length]; exact hlen, .inr ⟨g, cap, cur, by rw [listN_length], hb, hh, by rw [listN_length]; exact hl, hm, hs, by rw [listN_length]; rfl⟩⟩, ⟨by rw [listN_length]; exact hlen, fun p x hx => ?_⟩⟩
 have hp : p < nn := by have := (List.getElem?_eq_some_iff.1 hx).1; rwa [listN_length] at this
 rw [listN_get a hp] at hx
 injection hx with hx
 subst hx
 have e : (List.take 7 ((cur.toList.take (nn * 7)).drop (p * 7))) = [.int .i64 (nodeN a p).f0.f0.f0, .int .i64 (nodeN a p).f0.f0.f1, .int .i64 (nodeN a p).f0.f1, .int .i64 (nodeN a p).f1, .int .i64 (nodeN a p).f2, .int .i64 (nodeN a p).f3, .int .i64 (nodeN a p).f4] := by
  apply List.ext_getElem?
  intro k
  by_cases hk : k < 7
  ·rw [List.getElem?_take, if_pos hk, List.getElem?_drop, List.getElem?_take, if_pos (by omega), Array.getElem?_toList, ht _ (by omega)]
   match k, hk with
   | 0, _ => rfl
   | 1, _ => rfl
   | 2, _ => rfl
   | 3, _ => rfl
   | 4, _ => rfl
   | 5, _ => rfl
   | 6, _ => rfl
  ·rw [List.getElem?_take, if_neg hk, List.getElem?_eq_none (by simp; omega)]
 show k64.M W base _ (nodeN a p) (List.take 7 ((cur.toList.take (nn * 7)).drop (p * 7)))
 rw [e]
 exact k64_mkM W base _ (nodeN a p)
structure Ar (W : World) (base q : Nat) (A : Option Addr) (nn cn : Nat) (a : Cells) (vf : Value) (fr : List Int) (root : Int) : Prop where
 blk : W.heap[q]? = some (.cells #[.slice A nn cn, .int .i64 root, vf] 97 (0, 0))
 hq : base ≤ q
 nd : Kd.R k64 64 W base (fun _ => True) (.slice A nn cn) (listN nn a)
 fr : Kd.R (Kd.int .i64) 3 W base (fun _ => True) vf fr
section
variable {W W' : World} {base q : Nat} {A : Option Addr} {nn cn g : Nat} {a a' : Cells} {vf : Value} {fr : List Int} {root : Int}
theorem Ar.hd (h : Ar W base q A nn cn a vf fr root) : Hd W q (.slice A nn cn) := ⟨_, _, h.blk, rfl⟩
theorem Ar.qlt (h : Ar W base q A nn cn a vf fr root) : q < W.heap.size := blk_lt h.blk
theorem Ar.ext (h : Ar W base q A nn cn a vf fr root) (e : ∀ j, j < nn * 7 → a' j = a j) : Ar W base q A nn cn a' vf fr root := ⟨h.blk, h.hq, by rw [listN_ext e]; exact h.nd, h.fr⟩
theorem Ar.nds (h : Ar W base q A nn cn a vf fr root) (hn : 0 < nn) : ∃ g, A = some ⟨g, 0, none⟩ ∧ Nds W g nn a ∧ q ≠ g ∧ base ≤ g := by
 have hR := h.nd
 have hR2 := hR
 obtain ⟨_, inner, ho, _⟩ := hR2
 rcases ho.2 with ⟨hv, h0⟩ | ⟨g, cap, cur, hv, hb, hh, _⟩
 ·rw [listN_length] at h0; omega
 injection hv with e1 e2 e3
 subst e1 e3
 obtain ⟨cur', hh', hb', _, hl', _, hs', hc'⟩ := rowN_to hR
 rw [listN_length] at hc'
 refine ⟨g, rfl, ⟨cur', _, hh', fun j hj => by rw [hc' j hj, cellN_listN a hj]⟩, ?_, hb'⟩
 exact blk_ne h.blk hh' (by decide)
theorem Ar.but (h : Ar W base q (some ⟨g, 0, none⟩) nn cn a vf fr root) (hb : But g W W') (hn : Nds W' g nn a') : Ar W' base q (some ⟨g, 0, none⟩) nn cn a' vf fr root := by
 obtain ⟨cur, hh, hbg, _, hl, hm, hs, _⟩ := rowN_to h.nd
 rw [listN_length] at hl
 obtain ⟨cur', hh', hs'⟩ := hb.shape _ _ hh
 obtain ⟨cs, t, hc1, hc2⟩ := hn
 rw [hh'] at hc1
 injection hc1 with hc1
 injection hc1 with e1 e2
 subst e1
 have hqg : q ≠ g := blk_ne h.blk hh (by decide)
 refine ⟨(hb.block q (blk_lt h.blk) hqg).trans h.blk, h.hq, rowN_of hh' hbg trivial hl hm (by rw [hs', hs]) hc2, ?_⟩
 have hf := Kd.R_types h.fr hh (by intro t ht; simp at ht; rcases ht with rfl | ht <;> first | decide | (simp [Kd.int, Kd.scalar] at ht))
 exact Kd.R_mono (Kd.R_step hf (fun k hk hlt => hb.block k hlt hk.2)) (fun _ _ => trivial)
theorem Ar.below (h : Ar W base q A nn cn a vf fr root) (hb : Below W.heap.size W W') : Ar W' base q A nn cn a vf fr root := ⟨blk_below h.blk hb, h.hq, Kd.R_below h.nd hb, Kd.R_below h.fr hb⟩
theorem But.below (hb : But g W W') (hg : base ≤ g) (hB : base ≤ W.heap.size) : Below base W W' := ⟨hb.os, hb.tape, hb.output, hb.size, fun k hk => hb.block k (by omega) (by omega)⟩
end
end Go.Proofs.Ytgkjpffbgnljeaa.Man
/- arena.place: one for a node. -/
set_option linter.unusedVariables false
set_option linter.unusedSimpArgs false
namespace Go.Proofs.Ytgkjpffbgnljeaa.Man
open Go.RowKit Go.Proofs.Ytgkjpffbgnljeaa.QT Go.Proofs.Ytgkjpffbgnljeaa.TreeM Go.Proofs.YtgkjpffbgnljeaaW.PrintWords Go.Proofs.YtgkjpffbgnljeaaW.PrintLast Go.Proofs.YtgkjpffbgnljeaaW.PrintMore
theorem free_pop {W : World} {base : Nat} {vf : Value} {fr : List Int} {pl : Int} (h : Kd.R (Kd.int .i64) 3 W base (fun _ => True) vf (fr ++ [pl])) :
  ∃ f cf, vf = .slice (some ⟨f, 0, none⟩) (fr.length + 1) cf ∧ W.cell? ⟨f, fr.length, none⟩ = some (.int .i64 pl) ∧ fr.length + 1 ≤ cf ∧ cf ≤ maxLen ∧ Kd.R (Kd.int .i64) 3 W base (fun _ => True) (.slice (some ⟨f, 0, none⟩) fr.length cf) fr := by
 have ho := Kd.own_of_R (enc := Value.int .i64) (h1 := fun _ => rfl) h
 have e1 : (fr ++ [pl]).length = fr.length + 1 := by simp
 have e2 : encs (Value.int .i64) (fr ++ [pl]) = encs (Value.int .i64) fr ++ [.int .i64 pl] := by simp [encs]
 rw [e1, e2] at ho
 have ho2 := ho
 rcases ho.2 with ⟨_, h0⟩ | ⟨f, cf, cur, hv, hb, hh, hnc, hcm, hcs, ht⟩
 ·omega
 subst hv
 refine ⟨f, cf, rfl, ?_, hnc, hcm, Kd.R_of_own (enc := Value.int .i64) (h1 := fun _ => rfl) (ownsRow_pop (by simp [encs]) ho2) (fun _ _ => trivial)⟩
 rw [blk_cell hh]
 have : (cur.toList.take ((fr.length + 1) * 1))[fr.length]? = some (.int .i64 pl) := by
  rw [ht, List.getElem?_append_right (by simp [encs])]
  simp [encs]
 rwa [List.getElem?_take, if_pos (by omega), Array.getElem?_toList] at this
def ItemsKept (W W2 : World) : Prop := ∀ (k : Nat) (cs : Array Value), W.heap[k]? = some (.cells cs 50 (0, 0)) → W2.heap[k]? = W.heap[k]?
theorem Ar.free {W : World} {base q : Nat} {A : Option Addr} {nn cn : Nat} {a : Cells} {vf vf' : Value} {fr fr' : List Int} {root : Int} (h : Ar W base q A nn cn a vf fr root) (hR : Kd.R (Kd.int .i64) 3 W base (fun _ => True) vf' fr') : Ar (W.setCell ⟨q, 2, none⟩ vf') base q A nn cn a vf' fr' root := by
 refine ⟨blk_set h.blk 2 vf', h.hq, Kd.R_set h.nd h.blk (by intro t ht; simp [k64, k50, k27, Kd.iso, Kd.pair, Kd.int, Kd.scalar] at ht; subst ht; decide) 2 vf', Kd.R_set hR h.blk (by intro t ht; simp [Kd.int, Kd.scalar] at ht; subst ht; decide) 2 vf'⟩
theorem Ar.fr_grown {W w1 : World} {base q : Nat} {A : Option Addr} {nn cn : Nat} {a : Cells} {vf : Value} {fr : List Int} {root : Int} (h : Ar W base q A nn cn a vf fr root) (hg : W.grownBy w1 (Value.slice A nn cn).ownBlock) : Kd.R (Kd.int .i64) 3 w1 base (fun _ => True) vf fr := by
 refine Kd.R_mono (Kd.R_step (ok := fun k => some k ≠ (Value.slice A nn cn).ownBlock) ?_ (fun k hk hlt => hg.block k hlt hk)) (fun _ _ => trivial)
 obtain ⟨_, inner, ho, _⟩ := h.nd
 rcases ho.2 with ⟨hv, _⟩ | ⟨g, cap, cur, hv, hb, hh, _⟩
 ·rw [hv]
  exact Kd.R_mono h.fr (fun k _ => by simp [Value.ownBlock])
 ·rw [hv]
  refine Kd.R_mono (Kd.R_types h.fr hh (by intro t ht; simp [Kd.int, Kd.scalar] at ht; subst ht; decide)) (fun k hk => ?_)
  simp [Value.ownBlock]
  exact hk.2
theorem listN_snoc (nn : Nat) (a : Cells) : listN nn a ++ [z64] = listN (nn + 1) (fun j => if j < nn * 7 then a j else 0) := by
 have e : listN nn a = listN nn (fun j => if j < nn * 7 then a j else 0) := listN_ext (fun j hj => by rw [if_pos hj])
 rw [e]
 unfold listN
 rw [List.range_succ, List.map_append]
 congr 1
 simp only [List.map_cons, List.map_nil, nodeN]
 rw [if_neg (by omega), if_neg (by omega), if_neg (by omega), if_neg (by omega), if_neg (by omega), if_neg (by omega), if_neg (by omega)]
 rfl
set_option maxHeartbeats 2000000 in
set_option maxRecDepth 100000 in
theorem place_free (W : World) (base q : Nat) (A : Option Addr) (nn cn : Nat) (a : Cells) (vf : Value) (fr : List Int) (root pl : Int) (h : Ar W base q A nn cn a vf (fr ++ [pl]) root) (hl : fr.length ≤ 1000000) :
  Calls Try.prog 88 #[.pointer (some ⟨q, 0, none⟩)] W fun e W' => e = .returned (.int .i64 pl) ∧ (∃ vf', Ar W' base q A nn cn a vf' fr root) ∧ Below base W W' ∧ ItemsKept W W' := by
 obtain ⟨f, cf, rfl, hc, hcf, hcm, hR⟩ := free_pop h.fr
 have c2 := blk_cell h.blk 2
 simp at c2
 have f2 := blk_frozen h.blk 2
 have hB : base ≤ q := h.hq
 have HA := Lib.hid h
 have HR := Lib.hid hR
 have hw : IntKind.i64.wrap (((fr.length + 1 : Nat) : Int) - 1) = (fr.length : Int) := by rw [IntWalk.i64_in _ (by omega)]; omega
 have h0 : (0 : Int) ≤ (fr.length : Int) := by omega
 have h1 : (fr.length : Int) < ((fr.length + 1 : Nat) : Int) := by omega
 have hd : decide (((fr.length + 1 : Nat) : Int) > 0) = true := by simp
 clear h hR
 generalize fr.length = n at *
 generalize n + 1 = m at *
 go_enter Try.func88, Try.ntmps88
 go_wp2
 go_ret
 exact ⟨rfl, ⟨_, HA.out.free HR.out⟩, (Below.refl base W).setCell (p := ⟨q, 2, none⟩) hB _, fun k cs hk => Below.heap_setCell W ⟨q, 2, none⟩ _ k (blk_ne hk HA.out.blk (by decide))⟩
set_option maxHeartbeats 2000000 in
set_option maxRecDepth 100000 in
theorem place_new (W : World) (base q : Nat) (A : Option Addr) (nn cn : Nat) (a : Cells) (vf : Value) (root : Int) (h : Ar W base q A nn cn a vf [] root) (hl : nn ≤ 1000000) :
  Calls Try.prog 88 #[.pointer (some ⟨q, 0, none⟩)] W fun e W' => e = .returned (.int .i64 (nn : Int)) ∧ (∃ A' cn', Ar W' base q A' (nn + 1) cn' (fun j => if j < nn * 7 then a j else 0) vf [] root) ∧ Below base W W' ∧ ItemsKept W W' := by
 obtain ⟨Af, cf, rfl, hcf, hC⟩ := Kd.R_reads h.fr
 have c2 := blk_cell h.blk 2
 have c0 := blk_cell h.blk 0
 simp at c2 c0
 have c0A : (W.alloc (.cells #[.int .i64 0, .int .i64 0, .int .i64 0, .int .i64 0, .int .i64 0, .int .i64 0, .int .i64 0] 64)).cell? ⟨q, 0, none⟩ = some (.slice A nn cn) := pw_cell_below ((Below.refl _ _).alloc (Nat.le_refl _) _) c0
 have hB : base ≤ q := h.hq
 have HA := Lib.hid h
 have hd : decide (((0 : Nat) : Int) > 0) = false := by decide
 have HBB : Hid (base ≤ W.heap.size) := Lib.hid (by have := h.qlt; omega)
 have hw : IntKind.i64.wrap (((nn + 1 : Nat) : Int) - 1) = (nn : Int) := by rw [IntWalk.i64_in _ (by omega)]; omega
 have HLL : Hid (((listN nn a).length + 1) * 56 ≤ 140737488355328) := Lib.hid (by rw [listN_length]; omega)
 have HLN : Hid ((listN nn a ++ [z64]).length = nn + 1) := Lib.hid (by simp [listN_length])
 have HLE : Hid (listN nn a ++ [z64] = listN (nn + 1) (fun j => if j < nn * 7 then a j else 0)) := Lib.hid (listN_snoc nn a)
 have HNL : Hid ((listN nn a).length = nn) := Lib.hid (listN_length nn a)
 clear h hC
 go_enter Try.func88, Try.ntmps88
 go_wp2_with (first | ((with_reducible refine gate_builtin (b := .append) (xs := #[.tmp 40, .tmp 42]) rfl ?_); at_builtin; refine Kd.R_append k64 (w0 := W) base rfl (.tmp 40) (.tmp 42) 22 64 (.agg #[.int .i64 0, .int .i64 0, .int .i64 0, .int .i64 0, .int .i64 0, .int .i64 0, .int .i64 0]) 56 rfl Try.underlying22 info64 rfl (by decide) (by omega) (.slice A nn cn) (listN nn a) z64 [.int .i64 0, .int .i64 0, .int .i64 0, .int .i64 0, .int .i64 0, .int .i64 0, .int .i64 0] (fun _ => True) (fun _ => False) rfl rfl ?aP (fun _ hk => hk.elim) ?aF ?aO ?aB ?aS ?aL ?_; (case aP => exact k64_mkM _ _ _ z64); (case aF => exact (fun _ _ => trivial)); (case aO => exact HA.out.nd); (case aB => exact Below.refl _ _); (case aS => exact HBB.out); (case aL => exact HLL.out); intro v1 w1 ho1 hb1 hg1 hat1; obtain ⟨A1, c1, e1⟩ := Kd.R_slice ho1; rw [HLN.out] at e1; subst e1; have hq1 := blk_grown HA.out.blk hg1 (Kd.R_ne HA.out.nd HA.out.blk (by decide)); have f0 := blk_frozen hq1 0; have q0 := blk_cell hq1 0; simp at q0; have HQ1 := Lib.hid hq1; have HO1 := Lib.hid ho1; have HB1 := Lib.hid hb1; have HG1 := Lib.hid hg1; clear ho1 hb1 hg1 hat1 hq1))
 go_ret
 refine ⟨rfl, ⟨A1, c1, ?_⟩, HB1.out.setCell (p := ⟨q, 0, none⟩) hB _, fun k cs hk => (Below.heap_setCell w1 ⟨q, 0, none⟩ _ k (blk_ne hk HA.out.blk (by decide))).trans (HG1.out.block k (blk_lt hk) (Kd.R_ne HA.out.nd hk (by decide)))⟩
 have hO := HO1.out
 rw [HLE.out] at hO
 exact ⟨blk_set HQ1.out 0 _, hB, Kd.R_set hO HQ1.out (by intro t ht; simp [k64, k50, k27, Kd.iso, Kd.pair, Kd.int, Kd.scalar] at ht; subst ht; decide) 0 _, Kd.R_set (HA.out.fr_grown HG1.out) HQ1.out (by intro t ht; simp [Kd.int, Kd.scalar] at ht; subst ht; decide) 0 _⟩
def Takes (nn : Nat) (fr : List Int) (pl nn' : Nat) (fr' : List Int) : Prop := (fr = [] ∧ fr' = [] ∧ pl = nn ∧ nn' = nn + 1) ∨ (fr = fr' ++ [(pl : Int)] ∧ pl < nn ∧ nn' = nn)
theorem Takes.lt {nn pl nn' : Nat} {fr fr' : List Int} (h : Takes nn fr pl nn' fr') : pl < nn' := by rcases h with ⟨_, _, h1, h2⟩ | ⟨_, h1, h2⟩ <;> omega
theorem Takes.le {nn pl nn' : Nat} {fr fr' : List Int} (h : Takes nn fr pl nn' fr') : nn ≤ nn' := by rcases h with ⟨_, _, h1, h2⟩ | ⟨_, h1, h2⟩ <;> omega
theorem place_is (W : World) (base q : Nat) (A : Option Addr) (nn cn : Nat) (a : Cells) (vf : Value) (fr : List Int) (root : Int) (pl nn' : Nat) (fr' : List Int) (h : Ar W base q A nn cn a vf fr root) (ht : Takes nn fr pl nn' fr') (hl : nn ≤ 1000000) (hlf : fr.length ≤ 1000000) :
  Calls Try.prog 88 #[.pointer (some ⟨q, 0, none⟩)] W fun e W' => e = .returned (.int .i64 (pl : Int)) ∧ (∃ A' cn' a' vf', Ar W' base q A' nn' cn' a' vf' fr' root ∧ Off (fun s => s = pl) a a') ∧ Below base W W' ∧ ItemsKept W W' := by
 rcases ht with ⟨rfl, rfl, rfl, rfl⟩ | ⟨rfl, hp, rfl⟩
 ·refine (place_new W base q A pl cn a vf root h hl).mono ?_
  rintro e W' ⟨rfl, ⟨A', cn', hA⟩, hb, hk⟩
  refine ⟨rfl, ⟨A', cn', fun j => if j < pl * 7 then a j else if j < (pl + 1) * 7 then 0 else a j, vf, hA.ext (fun j hj => ?_), fun s hs k hk => ?_⟩, hb, hk⟩
  ·simp only [if_pos hj]
  ·show (if s * 7 + k < pl * 7 then _ else _) = _
   split
   ·rfl
   ·rw [if_neg (by omega)]
 ·refine (place_free W base q A nn' cn a vf fr' root pl h (by simp at hlf; omega)).mono ?_
  rintro e W' ⟨rfl, ⟨vf', hA⟩, hb, hk⟩
  exact ⟨rfl, ⟨A, cn, a, vf', hA, Off.refl _ _⟩, hb, hk⟩
end Go.Proofs.Ytgkjpffbgnljeaa.Man
/- arena.put: an item hung at a place or below it. -/
set_option linter.unusedVariables false
set_option linter.unusedSimpArgs false
namespace Go.Proofs.Ytgkjpffbgnljeaa.Man
open Go.RowKit Go.Proofs.Ytgkjpffbgnljeaa.QT Go.Proofs.Ytgkjpffbgnljeaa.TreeM Go.Proofs.YtgkjpffbgnljeaaW.PrintWords Go.Proofs.YtgkjpffbgnljeaaW.PrintLast Go.Proofs.YtgkjpffbgnljeaaW.PrintMore
def Puts (W : World) (base q : Nat) (root : Int) (a : Cells) (t : T) (i : Int) (x : Itm) (pl nn' : Nat) (fr' : List Int) : Prop :=
 Calls Try.prog 60 #[.pointer (some ⟨q, 0, none⟩), .int .i64 i, .agg #[.int .i64 x.fr, .int .i64 x.to_, .int .i64 x.id]] W fun e W' => e = .returned (.int .i64 (plc (put t x pl))) ∧ Below base W W' ∧ ∃ A' cn' a' vf', Ar W' base q A' nn' cn' a' vf' fr' root ∧ Hang a' (put t x pl) (plc (put t x pl)) ∧ Off (fun s => s ∈ places t ∨ s = pl) a a'
def lay (a : Cells) (p : Nat) (x : Itm) : Cells := upd (upd (upd (upd (upd (upd (upd a (p * 7) x.fr) (p * 7 + 1) x.to_) (p * 7 + 2) x.id) (p * 7 + 3) (-1)) (p * 7 + 4) (-1)) (p * 7 + 5) 0) (p * 7 + 6) 0
theorem lay_half (a : Cells) (p : Nat) (x : Itm) : Half (lay a p x) p x .nil .nil := by
 unfold lay
 refine ⟨⟨?_, ?_, ?_⟩, ?_, ?_⟩
 ·simp [upd]
 ·simp [upd]
 ·simp [upd]
 ·simp [upd, Hang]
 ·simp [upd, Hang]
theorem lay_off (a : Cells) (p : Nat) (x : Itm) : Off (fun s => s = p) a (lay a p x) := by
 intro s hs k hk
 unfold lay
 rw [upd_ne (by omega), upd_ne (by omega), upd_ne (by omega), upd_ne (by omega), upd_ne (by omega), upd_ne (by omega), upd_ne (by omega)]
theorem item_off {P : Nat → Prop} {a a3 : Cells} {p k : Nat} {v : Int} {x : Itm} (h : Off (fun q => q = p) a3 (upd a3 (p * 7 + k) v)) (j : ItAt a p x) (ho : Off P a a3) (hp : ¬ P p) (hk : k ≠ 0 := by omega) (hk1 : k ≠ 1 := by omega) (hk2 : k ≠ 2 := by omega) : ItAt (upd a3 (p * 7 + k) v) p x := by
 obtain ⟨h1, h2, h3⟩ := ho.item hp j
 exact ⟨(upd_ne (by omega)).trans h1, (upd_ne (by omega)).trans h2, (upd_ne (by omega)).trans h3⟩
theorem nodup_put {x : Itm} {pl : Nat} {t : T} (h : (places t).Nodup) (hp : pl ∉ places t) : (places (put t x pl)).Nodup := (places_put x pl t).nodup_iff.2 (List.nodup_cons.2 ⟨hp, h⟩)
theorem mem_put {x : Itm} {pl : Nat} {t : T} {s : Nat} : s ∈ places (put t x pl) ↔ s = pl ∨ s ∈ places t := by rw [(places_put x pl t).mem_iff, List.mem_cons]
theorem put_half_l {a a3 : Cells} {p : Nat} {y x : Itm} {l r : T} {pl : Nat} {i : Int} (hh : Hang a (.node p y l r) i) (hnd : (places (.node p y l r)).Nodup) (hpl : pl ∉ places (.node p y l r)) (hg : Hang a3 (put l x pl) (plc (put l x pl))) (ho : Off (fun s => s ∈ places l ∨ s = pl) a a3) :
  Half (upd a3 (p * 7 + 3) (plc (put l x pl))) p y (put l x pl) r ∧ (places (.node p y (put l x pl) r)).Nodup := by
 have ap := Apart.of hnd
 have hpp : pl ≠ p := fun e => hpl (by simp [places, e])
 have hpL : pl ∉ places l := fun e => hpl (by simp [places, e])
 have hpR : pl ∉ places r := fun e => hpl (by simp [places, e])
 have e1 : ¬ (p ∈ places l ∨ p = pl) := by rintro (e | e); exact ap.nl e; exact hpp e.symm
 have e2 : ∀ s ∈ places r, ¬ (s ∈ places l ∨ s = pl) := by rintro s hs (e | e); exact ap.lr s e hs; exact hpR (e ▸ hs)
 have nl' : p ∉ places (put l x pl) := by rw [mem_put]; rintro (e | e); exact hpp e.symm; exact ap.nl e
 obtain ⟨_, j1, j2, j3, _⟩ := hh
 have h3 : Hang a3 r (a3 (p * 7 + 4)) := by rw [ho p e1 4 (by omega)]; exact Hang.off ho j3 e2
 have hof := Off.upd a3 p 3 (plc (put l x pl)) (by omega)
 refine ⟨⟨item_off hof j1 ho e1, ?_, ?_⟩, ?_⟩
 ·rw [upd_same]; exact Hang.off hof hg (fun s hs e => nl' (e ▸ hs))
 ·rw [upd_ne (by omega)]; exact Hang.off hof h3 (fun s hs e => ap.nr (e ▸ hs))
 ·exact Apart.nodup (x := y) ⟨nl', ap.nr, nodup_put ap.dl hpL, ap.dr, fun s hs hr => by rw [mem_put] at hs; rcases hs with e | hs; exact hpR (e ▸ hr); exact ap.lr s hs hr⟩
theorem put_half_r {a a3 : Cells} {p : Nat} {y x : Itm} {l r : T} {pl : Nat} {i : Int} (hh : Hang a (.node p y l r) i) (hnd : (places (.node p y l r)).Nodup) (hpl : pl ∉ places (.node p y l r)) (hg : Hang a3 (put r x pl) (plc (put r x pl))) (ho : Off (fun s => s ∈ places r ∨ s = pl) a a3) :
  Half (upd a3 (p * 7 + 4) (plc (put r x pl))) p y l (put r x pl) ∧ (places (.node p y l (put r x pl))).Nodup := by
 have ap := Apart.of hnd
 have hpp : pl ≠ p := fun e => hpl (by simp [places, e])
 have hpL : pl ∉ places l := fun e => hpl (by simp [places, e])
 have hpR : pl ∉ places r := fun e => hpl (by simp [places, e])
 have e1 : ¬ (p ∈ places r ∨ p = pl) := by rintro (e | e); exact ap.nr e; exact hpp e.symm
 have e2 : ∀ s ∈ places l, ¬ (s ∈ places r ∨ s = pl) := by rintro s hs (e | e); exact ap.lr s hs e; exact hpL (e ▸ hs)
 have nr' : p ∉ places (put r x pl) := by rw [mem_put]; rintro (e | e); exact hpp e.symm; exact ap.nr e
 obtain ⟨_, j1, j2, j3, _⟩ := hh
 have h3 : Hang a3 l (a3 (p * 7 + 3)) := by rw [ho p e1 3 (by omega)]; exact Hang.off ho j2 e2
 have hof := Off.upd a3 p 4 (plc (put r x pl)) (by omega)
 refine ⟨⟨item_off hof j1 ho e1, ?_, ?_⟩, ?_⟩
 ·rw [upd_ne (by omega)]; exact Hang.off hof h3 (fun s hs e => ap.nl (e ▸ hs))
 ·rw [upd_same]; exact Hang.off hof hg (fun s hs e => nr' (e ▸ hs))
 ·exact Apart.nodup (x := y) ⟨ap.nl, nr', ap.dl, nodup_put ap.dr hpR, fun s hs hr => by rw [mem_put] at hr; rcases hr with e | hr; exact hpL (e ▸ hs); exact ap.lr s hs hr⟩
set_option maxHeartbeats 2000000 in
set_option maxRecDepth 100000 in
theorem put_nil (W : World) (base q : Nat) (A : Option Addr) (nn cn : Nat) (a : Cells) (vf : Value) (fr : List Int) (root : Int) (x : Itm) (pl nn' : Nat) (fr' : List Int) (h : Ar W base q A nn cn a vf fr root) (ht : Takes nn fr pl nn' fr') (hl : nn ≤ 1000000) (hlf : fr.length ≤ 1000000) :
  Puts W base q root a .nil (-1) x pl nn' fr' := by
 obtain ⟨x1, x2, x3⟩ := x
 have HBB : Hid (Below base W (W.alloc (.cells #[.int .i64 x1, .int .i64 x2, .int .i64 x3] 50))) := Lib.hid ((Below.refl _ _).alloc (by have := h.qlt; have := h.hq; omega) _)
 have HP := Lib.hid (place_is (W.alloc (.cells #[.int .i64 x1, .int .i64 x2, .int .i64 x3] 50)) base q A nn cn a vf fr root pl nn' fr' (h.below ((Below.refl _ _).alloc (Nat.le_refl _) _)) ht hl hlf)
 have hpl := ht.lt
 have hbx := blk_new W (.cells #[.int .i64 x1, .int .i64 x2, .int .i64 x3] 50 (0, 0))
 have HX := Lib.hid hbx
 clear h ht hl hlf hbx
 unfold Puts
 go_enter Try.func60, Try.ntmps60
 go_wp2_with fail
 refine HP.out.mono ?_
 rintro e w1 ⟨rfl, ⟨A1, cn1, a1, vf1, hA1, ho1⟩, hb1, hk1⟩
 obtain ⟨g, rfl, hn1, hqg, hbg⟩ := hA1.nds (by omega)
 have hx1 := (hk1 _ _ HX.out).trans HX.out
 have x0 := blk_cell hx1 0
 have x1_ := blk_cell hx1 1
 have x2_ := blk_cell hx1 2
 simp at x0 x1_ x2_
 have c0 := hA1.hd.cell
 have h0 : (0 : Int) ≤ (pl : Int) := by omega
 have h1 : (pl : Int) < (nn' : Int) := by omega
 have n0 := hn1.cell (j := pl * 7) (by omega)
 have n1 := hn1.cell (j := pl * 7 + 1) (by omega)
 have n2 := hn1.cell (j := pl * 7 + 2) (by omega)
 have n3 := hn1.cell (j := pl * 7 + 3) (by omega)
 have n4 := hn1.cell (j := pl * 7 + 4) (by omega)
 have n5 := hn1.cell (j := pl * 7 + 5) (by omega)
 have n6 := hn1.cell (j := pl * 7 + 6) (by omega)
 have f0 := hn1.frozen (pl * 7)
 have f1 := hn1.frozen (pl * 7 + 1)
 have f2 := hn1.frozen (pl * 7 + 2)
 have f3 := hn1.frozen (pl * 7 + 3)
 have f4 := hn1.frozen (pl * 7 + 4)
 have f5 := hn1.frozen (pl * 7 + 5)
 have f6 := hn1.frozen (pl * 7 + 6)
 have HA1 := Lib.hid hA1
 have HN1 := Lib.hid hn1
 have HO1 := Lib.hid ho1
 have HB1 := Lib.hid (HBB.out.trans hb1)
 clear hA1 hn1 ho1 hb1 hk1 hx1 HP
 go_wp2_with fail
 go_region
 have HG2 : Hid (But g w1 ((((((((w1.setCell ⟨g, pl * 7, none⟩ (.int .i64 x1)).setCell ⟨g, pl * 7 + 1, none⟩ (.int .i64 x2)).setCell ⟨g, pl * 7 + 2, none⟩ (.int .i64 x3)).setCell ⟨g, pl * 7 + 3, none⟩ (.int .i64 (-1))).setCell ⟨g, pl * 7 + 4, none⟩ (.int .i64 (-1))).setCell ⟨g, pl * 7 + 5, none⟩ (.int .i64 0)).setCell ⟨g, pl * 7 + 6, none⟩ (.int .i64 0)).drew)) := Lib.hid (((((((((But.set g (pl * 7) w1 _).trans (But.set g (pl * 7 + 1) _ _)).trans (But.set g (pl * 7 + 2) _ _)).trans (But.set g (pl * 7 + 3) _ _)).trans (But.set g (pl * 7 + 4) _ _)).trans (But.set g (pl * 7 + 5) _ _)).trans (But.set g (pl * 7 + 6) _ _))).trans (But.drew _))
 have HN2 : Hid (Nds ((((((((w1.setCell ⟨g, pl * 7, none⟩ (.int .i64 x1)).setCell ⟨g, pl * 7 + 1, none⟩ (.int .i64 x2)).setCell ⟨g, pl * 7 + 2, none⟩ (.int .i64 x3)).setCell ⟨g, pl * 7 + 3, none⟩ (.int .i64 (-1))).setCell ⟨g, pl * 7 + 4, none⟩ (.int .i64 (-1))).setCell ⟨g, pl * 7 + 5, none⟩ (.int .i64 0)).setCell ⟨g, pl * 7 + 6, none⟩ (.int .i64 0)).drew) g nn' (lay a1 pl ⟨x1, x2, x3⟩)) := Lib.hid ((((((((HN1.out.set (pl * 7) _).set (pl * 7 + 1) _).set (pl * 7 + 2) _).set (pl * 7 + 3) _).set (pl * 7 + 4) _).set (pl * 7 + 5) _).set (pl * 7 + 6) _)).drew
 clear x0 x1_ x2_ c0 n0 n1 n2 n3 n4 n5 n6 f0 f1 f2 f3 f4 f5 f6 HX
 generalize (((((((w1.setCell ⟨g, pl * 7, none⟩ (.int .i64 x1)).setCell ⟨g, pl * 7 + 1, none⟩ (.int .i64 x2)).setCell ⟨g, pl * 7 + 2, none⟩ (.int .i64 x3)).setCell ⟨g, pl * 7 + 3, none⟩ (.int .i64 (-1))).setCell ⟨g, pl * 7 + 4, none⟩ (.int .i64 (-1))).setCell ⟨g, pl * 7 + 5, none⟩ (.int .i64 0)).setCell ⟨g, pl * 7 + 6, none⟩ (.int .i64 0)).drew = w2 at *
 have HH2 := Lib.hid (lay_half a1 pl ⟨x1, x2, x3⟩)
 have HO2 := Lib.hid (HO1.out.trans (lay_off a1 pl ⟨x1, x2, x3⟩))
 generalize lay a1 pl ⟨x1, x2, x3⟩ = a2 at *
 have HA2 := Lib.hid (HA1.out.but HG2.out HN2.out)
 have HB2 := Lib.hid (HB1.out.trans (HG2.out.below hbg (by have := HA1.out.qlt; have := HA1.out.hq; omega)))
 have HS2 := Lib.hid (settle_T q g nn' cn1 pl a2 ⟨x1, x2, x3⟩ .nil .nil w2 HA2.out.hd HN2.out hqg hpl HH2.out ⟨by simp [places], by simp [places], by simp [places], by simp [places], by simp [places]⟩ (fun k hk => by simp [places] at hk) (fun k hk => by simp [places] at hk) (by simp [hgt]) (by simp [hgt]))
 clear HN1 HG2
 go_wp2_with fail
 refine HS2.out.mono ?_
 rintro e w3 ⟨rfl, hb3, a3, hn3, hg3, ho3⟩
 have HF : Hid (Below base W w3 ∧ ∃ A' cn' a' vf', Ar w3 base q A' nn' cn' a' vf' fr' root ∧ Hang a' (put .nil ⟨x1, x2, x3⟩ pl) (plc (put .nil ⟨x1, x2, x3⟩ pl)) ∧ Off (fun s => s ∈ places .nil ∨ s = pl) a a') := Lib.hid ⟨HB2.out.trans (hb3.below hbg (by have := HA2.out.qlt; have := HA2.out.hq; omega)), _, _, a3, _, HA2.out.but hb3 hn3, hg3, (HO2.out.trans ho3).mono (fun s h => .inr h)⟩
 clear hb3 hn3 hg3 ho3 HS2
 go_wp2
 go_ret
 exact ⟨rfl, HF.out⟩
set_option maxHeartbeats 2000000 in
set_option maxRecDepth 100000 in
theorem put_l (W : World) (base q : Nat) (A : Option Addr) (nn cn : Nat) (a : Cells) (vf : Value) (fr : List Int) (root : Int) (x : Itm) (pl nn' : Nat) (fr' : List Int) (p : Nat) (y : Itm) (l r : T) (h : Ar W base q A nn cn a vf fr root) (hh : Hang a (.node p y l r) (p : Int)) (hnd : (places (.node p y l r)).Nodup) (hw : Within nn (.node p y l r)) (hpl : pl ∉ places (.node p y l r)) (hpn : pl < nn') (hnn : nn ≤ nn') (hb : bal (.node p y l r)) (bh : hgt (.node p y l r) ≤ 800) (hlt : lt x y)
  (ih : ∀ W', Ar W' base q A nn cn a vf fr root → Puts W' base q root a l (a (p * 7 + 3)) x pl nn' fr') :
  Puts W base q root a (.node p y l r) (p : Int) x pl nn' fr' := by
 have HE : Hid (put (.node p y l r) x pl = even p y (put l x pl) r) := Lib.hid (by rw [put, if_pos hlt])
 have hp : p < nn := hw.p
 have HW' : Hid (Within nn' (.node p y (put l x pl) r)) := Lib.hid (by
  intro s hs
  have hs : s ∈ places (.node p y (put l x pl) r) := hs
  simp only [places, List.mem_append, List.mem_cons, mem_put] at hs
  have hm : s = pl ∨ s ∈ places (.node p y l r) := by simp only [places, List.mem_append, List.mem_cons]; rcases hs with hs | hs | hs <;> first | exact .inr (.inl hs) | exact .inr (.inr (.inl hs)) | exact .inr (.inr (.inr hs)) | (rcases hs with hs | hs; exact .inl hs; first | exact .inr (.inl hs) | exact .inr (.inr (.inr hs)))
  rcases hm with hm | hm
  ·omega
  ·have := hw s hm; omega)
 have HBL : Hid (hgt (put l x pl) ≤ 900 ∧ hgt r ≤ 900) := Lib.hid (by have := (put_bal x pl l hb.1).2; simp only [hgt] at bh; omega)
 have HPH : Hid (∀ a3, Hang a3 (put l x pl) (plc (put l x pl)) → Off (fun s => s ∈ places l ∨ s = pl) a a3 → Half (upd a3 (p * 7 + 3) (plc (put l x pl))) p y (put l x pl) r ∧ (places (.node p y (put l x pl) r)).Nodup) := Lib.hid fun a3 g1 g2 => put_half_l hh hnd hpl g1 g2
 have HOF : Hid (∀ a3 a5, Off (fun s => s ∈ places l ∨ s = pl) a a3 → Off (fun s => s ∈ places (.node p y (put l x pl) r)) (upd a3 (p * 7 + 3) (plc (put l x pl))) a5 → Off (fun s => s ∈ places (.node p y l r) ∨ s = pl) a a5) := Lib.hid (by
  intro a3 a5 g1 g2
  refine (g1.mono (fun s hs => ?_)).trans (((Off.upd a3 p 3 _ (by omega)).mono (fun s hs => ?_)).trans (g2.mono (fun s hs => ?_)))
  ·rcases hs with hs | hs
   ·exact .inl (by simp [places, hs])
   ·exact .inr hs
  ·exact .inl (by simp [places, hs])
  ·simp only [places, List.mem_append, List.mem_cons, mem_put] at hs ⊢
   rcases hs with hs | hs | hs <;> first | exact .inl (.inl hs) | exact .inl (.inr (.inl hs)) | exact .inl (.inr (.inr hs)) | (rcases hs with hs | hs; exact .inr hs; first | exact .inl (.inl hs) | exact .inl (.inr (.inr hs))))
 obtain ⟨g0, rfl, hn0, hqg0, hbg0⟩ := h.nds (by omega)
 have hIt : ItAt a p y := hh.2.1
 have HIH := Lib.hid ih
 obtain ⟨x1, x2, x3⟩ := x
 obtain ⟨y1, y2, y3⟩ := y
 obtain ⟨i0, i1, i2⟩ := hIt
 simp only at i0 i1 i2
 have hbB : Below W.heap.size W (W.alloc (.cells #[.int .i64 x1, .int .i64 x2, .int .i64 x3] 50)) := (Below.refl _ _).alloc (Nat.le_refl _) _
 have HBB : Hid (Below base W (W.alloc (.cells #[.int .i64 x1, .int .i64 x2, .int .i64 x3] 50))) := Lib.hid ((Below.refl _ _).alloc (by have := h.qlt; have := h.hq; omega) _)
 have HA0 := Lib.hid (h.below hbB)
 have HBQ : Hid (base ≤ (W.alloc (.cells #[.int .i64 x1, .int .i64 x2, .int .i64 x3] 50)).heap.size) := Lib.hid (by have := HBB.out.size; have := h.qlt; have := h.hq; omega)
 have z0 : ∀ x : Later (W.alloc (.cells #[.int .i64 x1, .int .i64 x2, .int .i64 x3] 50)), x.at.cell? ⟨W.heap.size, 0, none⟩ = some (.int .i64 x1) := fun x => Later.cell (by rw [blk_cell (blk_new W _) 0]; rfl) x
 have z1 : ∀ x : Later (W.alloc (.cells #[.int .i64 x1, .int .i64 x2, .int .i64 x3] 50)), x.at.cell? ⟨W.heap.size, 1, none⟩ = some (.int .i64 x2) := fun x => Later.cell (by rw [blk_cell (blk_new W _) 1]; rfl) x
 have z2 : ∀ x : Later (W.alloc (.cells #[.int .i64 x1, .int .i64 x2, .int .i64 x3] 50)), x.at.cell? ⟨W.heap.size, 2, none⟩ = some (.int .i64 x3) := fun x => Later.cell (by rw [blk_cell (blk_new W _) 2]; rfl) x
 have zq : ∀ x : Later (W.alloc (.cells #[.int .i64 x1, .int .i64 x2, .int .i64 x3] 50)), x.at.cell? ⟨q, 0, none⟩ = some (.slice (some ⟨g0, 0, none⟩) nn cn) := Later.cell (h.hd.below hbB).cell
 have n0 : ∀ x : Later (W.alloc (.cells #[.int .i64 x1, .int .i64 x2, .int .i64 x3] 50)), x.at.cell? ⟨g0, p * 7, none⟩ = some (.int .i64 y1) := Later.cell (by rw [(hn0.below hbB).cell (by omega), i0])
 have n1 : ∀ x : Later (W.alloc (.cells #[.int .i64 x1, .int .i64 x2, .int .i64 x3] 50)), x.at.cell? ⟨g0, p * 7 + 1, none⟩ = some (.int .i64 y2) := Later.cell (by rw [(hn0.below hbB).cell (by omega), i1])
 have n2 : ∀ x : Later (W.alloc (.cells #[.int .i64 x1, .int .i64 x2, .int .i64 x3] 50)), x.at.cell? ⟨g0, p * 7 + 2, none⟩ = some (.int .i64 y3) := Later.cell (by rw [(hn0.below hbB).cell (by omega), i2])
 have n3 : ∀ x : Later (W.alloc (.cells #[.int .i64 x1, .int .i64 x2, .int .i64 x3] 50)), x.at.cell? ⟨g0, p * 7 + 3, none⟩ = some (.int .i64 (a (p * 7 + 3))) := Later.cell ((hn0.below hbB).cell (by omega))
 have hd : decide (cmpF ⟨x1, x2, x3⟩ ⟨y1, y2, y3⟩ < 0) = true := decide_eq_true (cmpF_lt.2 hlt)
 have h0 : (0 : Int) ≤ (p : Int) := by omega
 have h1 : (p : Int) < (nn : Int) := by omega
 have hpm : ((p : Int) == -1) = false := by simp
 clear h hh hnd hw hpl hb bh ih i0 i1 i2 hn0 hlt hbB
 generalize a (p * 7 + 3) = k3 at *
 unfold Puts
 rw [HE.out]
 clear HE
 go_enter Try.func60, Try.ntmps60
 go_wp2_with fail
 refine wp_region_later (by kernel_rfl) (by kernel_rfl) ?_
 repeat (go_big_quiet_step (first
  | (go_at_call 55; with_reducible exact later_of (compare_is x1 x2 x3 y1 y2 y3 _))))
 refine wpQuiet_nil ?_
 rintro _ ⟨xl, rfl⟩
 have HX1 := Lib.hid xl.below
 have HA1 := Lib.hid (HA0.out.below HX1.out)
 have HB1 := Lib.hid (below_then HBB.out HBQ.out HX1.out)
 have z0 := z0 xl
 have z1 := z1 xl
 have z2 := z2 xl
 have zq := zq xl
 have n3 := n3 xl
 clear n0 n1 n2 HX1 HA0
 generalize xl.at = w1 at *
 clear xl
 go_wp2_with fail
 go_still_tail 11, (by kernel_rfl)
 change wpList _ _ _ _ _ w1.drew
 have HA2 := Lib.hid (HA1.out.below (below_drew (Below.refl _ _)))
 have HB2 : Hid (Below base W w1.drew) := Lib.hid (below_drew HB1.out)
 generalize w1.drew = w2 at HA2 HB2 ⊢
 clear z0 z1 z2 zq n3 HA1 HB1
 go_wp2_with fail
 refine (HIH.out w2 HA2.out).mono ?_
 rintro e w3 ⟨rfl, hb3, A3, cn3, a3, vf3, hA3, hg3, ho3⟩
 obtain ⟨g, rfl, hn3, hqg, hbg⟩ := hA3.nds (by omega)
 obtain ⟨hhf, hnd'⟩ := HPH.out a3 hg3 ho3
 have c0 := hA3.hd.cell
 have h2 : (p : Int) < (nn' : Int) := by omega
 have n3 := hn3.cell (j := p * 7 + 3) (by omega)
 have f3 := hn3.frozen (p * 7 + 3)
 have HB3 := Lib.hid (HB2.out.trans hb3)
 have HA3 := Lib.hid hA3
 have HN3 := Lib.hid hn3
 have HHF := Lib.hid hhf
 have HND := Lib.hid hnd'
 have HO3 := Lib.hid ho3
 clear hb3 hA3 hg3 ho3 hn3 hhf hnd' HIH HA2 HB2 HPH
 go_wp2_with fail
 have HG4 : Hid (But g w3 (w3.setCell ⟨g, p * 7 + 3, none⟩ (.int .i64 (plc (put l ⟨x1, x2, x3⟩ pl))))) := Lib.hid (But.set g (p * 7 + 3) w3 _)
 have HN4 : Hid (Nds (w3.setCell ⟨g, p * 7 + 3, none⟩ (.int .i64 (plc (put l ⟨x1, x2, x3⟩ pl)))) g nn' (upd a3 (p * 7 + 3) (plc (put l ⟨x1, x2, x3⟩ pl)))) := Lib.hid (HN3.out.set _ _)
 have HA4 := Lib.hid (HA3.out.but HG4.out HN4.out)
 have HB4 := Lib.hid (HB3.out.trans (HG4.out.below hbg (by have := HA3.out.qlt; have := HA3.out.hq; omega)))
 have HOF2 := Lib.hid (fun a5 => HOF.out a3 a5 HO3.out)
 clear c0 n3 f3 HB3 HA3 HN3 HO3 HG4 HOF
 generalize w3.setCell ⟨g, p * 7 + 3, none⟩ (.int .i64 (plc (put l ⟨x1, x2, x3⟩ pl))) = w4 at *
 generalize upd a3 (p * 7 + 3) (plc (put l ⟨x1, x2, x3⟩ pl)) = a4 at *
 have HEV := Lib.hid (even_is q g nn' cn3 p a4 ⟨y1, y2, y3⟩ (put l ⟨x1, x2, x3⟩ pl) r w4 HA4.out.hd HN4.out hqg HHF.out HND.out HW'.out HBL.out.1 HBL.out.2)
 refine (HEV.out).mono ?_
 rintro e w5 ⟨rfl, hb5, a5, hn5, hg5, ho5⟩
 have HF : Hid (Below base W w5 ∧ ∃ A' cn' a' vf', Ar w5 base q A' nn' cn' a' vf' fr' root ∧ Hang a' (even p ⟨y1, y2, y3⟩ (put l ⟨x1, x2, x3⟩ pl) r) (plc (even p ⟨y1, y2, y3⟩ (put l ⟨x1, x2, x3⟩ pl) r)) ∧ Off (fun s => s ∈ places (.node p ⟨y1, y2, y3⟩ l r) ∨ s = pl) a a') := Lib.hid ⟨HB4.out.trans (hb5.below hbg (by have := HA4.out.qlt; have := HA4.out.hq; omega)), _, _, a5, _, HA4.out.but hb5 hn5, hg5, HOF2.out a5 ho5⟩
 clear hb5 hn5 hg5 ho5 HEV
 go_wp2
 go_ret
 exact ⟨rfl, HF.out⟩
set_option maxHeartbeats 2000000 in
set_option maxRecDepth 100000 in
theorem put_r (W : World) (base q : Nat) (A : Option Addr) (nn cn : Nat) (a : Cells) (vf : Value) (fr : List Int) (root : Int) (x : Itm) (pl nn' : Nat) (fr' : List Int) (p : Nat) (y : Itm) (l r : T) (h : Ar W base q A nn cn a vf fr root) (hh : Hang a (.node p y l r) (p : Int)) (hnd : (places (.node p y l r)).Nodup) (hw : Within nn (.node p y l r)) (hpl : pl ∉ places (.node p y l r)) (hpn : pl < nn') (hnn : nn ≤ nn') (hb : bal (.node p y l r)) (bh : hgt (.node p y l r) ≤ 800) (hlt : ¬ lt x y)
  (ih : ∀ W', Ar W' base q A nn cn a vf fr root → Puts W' base q root a r (a (p * 7 + 4)) x pl nn' fr') :
  Puts W base q root a (.node p y l r) (p : Int) x pl nn' fr' := by
 have HE : Hid (put (.node p y l r) x pl = even p y l (put r x pl)) := Lib.hid (by rw [put, if_neg hlt])
 have hp : p < nn := hw.p
 have HW' : Hid (Within nn' (.node p y l (put r x pl))) := Lib.hid (by
  intro s hs
  have hs : s ∈ places (.node p y l (put r x pl)) := hs
  simp only [places, List.mem_append, List.mem_cons, mem_put] at hs
  have hm : s = pl ∨ s ∈ places (.node p y l r) := by simp only [places, List.mem_append, List.mem_cons]; rcases hs with hs | hs | hs <;> first | exact .inr (.inl hs) | exact .inr (.inr (.inl hs)) | exact .inr (.inr (.inr hs)) | (rcases hs with hs | hs; exact .inl hs; first | exact .inr (.inl hs) | exact .inr (.inr (.inr hs)))
  rcases hm with hm | hm
  ·omega
  ·have := hw s hm; omega)
 have HBL : Hid (hgt (put r x pl) ≤ 900 ∧ hgt l ≤ 900) := Lib.hid (by have := (put_bal x pl r hb.2.1).2; simp only [hgt] at bh; omega)
 have HPH : Hid (∀ a3, Hang a3 (put r x pl) (plc (put r x pl)) → Off (fun s => s ∈ places r ∨ s = pl) a a3 → Half (upd a3 (p * 7 + 4) (plc (put r x pl))) p y l (put r x pl) ∧ (places (.node p y l (put r x pl))).Nodup) := Lib.hid fun a3 g1 g2 => put_half_r hh hnd hpl g1 g2
 have HOF : Hid (∀ a3 a5, Off (fun s => s ∈ places r ∨ s = pl) a a3 → Off (fun s => s ∈ places (.node p y l (put r x pl))) (upd a3 (p * 7 + 4) (plc (put r x pl))) a5 → Off (fun s => s ∈ places (.node p y l r) ∨ s = pl) a a5) := Lib.hid (by
  intro a3 a5 g1 g2
  refine (g1.mono (fun s hs => ?_)).trans (((Off.upd a3 p 4 _ (by omega)).mono (fun s hs => ?_)).trans (g2.mono (fun s hs => ?_)))
  ·rcases hs with hs | hs
   ·exact .inl (by simp [places, hs])
   ·exact .inr hs
  ·exact .inl (by simp [places, hs])
  ·simp only [places, List.mem_append, List.mem_cons, mem_put] at hs ⊢
   rcases hs with hs | hs | hs <;> first | exact .inl (.inl hs) | exact .inl (.inr (.inl hs)) | exact .inl (.inr (.inr hs)) | (rcases hs with hs | hs; exact .inr hs; first | exact .inl (.inl hs) | exact .inl (.inr (.inr hs))))
 obtain ⟨g0, rfl, hn0, hqg0, hbg0⟩ := h.nds (by omega)
 have hIt : ItAt a p y := hh.2.1
 have HIH := Lib.hid ih
 obtain ⟨x1, x2, x3⟩ := x
 obtain ⟨y1, y2, y3⟩ := y
 obtain ⟨i0, i1, i2⟩ := hIt
 simp only at i0 i1 i2
 have hbB : Below W.heap.size W (W.alloc (.cells #[.int .i64 x1, .int .i64 x2, .int .i64 x3] 50)) := (Below.refl _ _).alloc (Nat.le_refl _) _
 have HBB : Hid (Below base W (W.alloc (.cells #[.int .i64 x1, .int .i64 x2, .int .i64 x3] 50))) := Lib.hid ((Below.refl _ _).alloc (by have := h.qlt; have := h.hq; omega) _)
 have HA0 := Lib.hid (h.below hbB)
 have HBQ : Hid (base ≤ (W.alloc (.cells #[.int .i64 x1, .int .i64 x2, .int .i64 x3] 50)).heap.size) := Lib.hid (by have := HBB.out.size; have := h.qlt; have := h.hq; omega)
 have z0 : ∀ x : Later (W.alloc (.cells #[.int .i64 x1, .int .i64 x2, .int .i64 x3] 50)), x.at.cell? ⟨W.heap.size, 0, none⟩ = some (.int .i64 x1) := fun x => Later.cell (by rw [blk_cell (blk_new W _) 0]; rfl) x
 have z1 : ∀ x : Later (W.alloc (.cells #[.int .i64 x1, .int .i64 x2, .int .i64 x3] 50)), x.at.cell? ⟨W.heap.size, 1, none⟩ = some (.int .i64 x2) := fun x => Later.cell (by rw [blk_cell (blk_new W _) 1]; rfl) x
 have z2 : ∀ x : Later (W.alloc (.cells #[.int .i64 x1, .int .i64 x2, .int .i64 x3] 50)), x.at.cell? ⟨W.heap.size, 2, none⟩ = some (.int .i64 x3) := fun x => Later.cell (by rw [blk_cell (blk_new W _) 2]; rfl) x
 have zq : ∀ x : Later (W.alloc (.cells #[.int .i64 x1, .int .i64 x2, .int .i64 x3] 50)), x.at.cell? ⟨q, 0, none⟩ = some (.slice (some ⟨g0, 0, none⟩) nn cn) := Later.cell (h.hd.below hbB).cell
 have n0 : ∀ x : Later (W.alloc (.cells #[.int .i64 x1, .int .i64 x2, .int .i64 x3] 50)), x.at.cell? ⟨g0, p * 7, none⟩ = some (.int .i64 y1) := Later.cell (by rw [(hn0.below hbB).cell (by omega), i0])
 have n1 : ∀ x : Later (W.alloc (.cells #[.int .i64 x1, .int .i64 x2, .int .i64 x3] 50)), x.at.cell? ⟨g0, p * 7 + 1, none⟩ = some (.int .i64 y2) := Later.cell (by rw [(hn0.below hbB).cell (by omega), i1])
 have n2 : ∀ x : Later (W.alloc (.cells #[.int .i64 x1, .int .i64 x2, .int .i64 x3] 50)), x.at.cell? ⟨g0, p * 7 + 2, none⟩ = some (.int .i64 y3) := Later.cell (by rw [(hn0.below hbB).cell (by omega), i2])
 have n3 : ∀ x : Later (W.alloc (.cells #[.int .i64 x1, .int .i64 x2, .int .i64 x3] 50)), x.at.cell? ⟨g0, p * 7 + 4, none⟩ = some (.int .i64 (a (p * 7 + 4))) := Later.cell ((hn0.below hbB).cell (by omega))
 have hd : decide (cmpF ⟨x1, x2, x3⟩ ⟨y1, y2, y3⟩ < 0) = false := decide_eq_false (fun e => hlt (cmpF_lt.1 e))
 have h0 : (0 : Int) ≤ (p : Int) := by omega
 have h1 : (p : Int) < (nn : Int) := by omega
 have hpm : ((p : Int) == -1) = false := by simp
 clear h hh hnd hw hpl hb bh ih i0 i1 i2 hn0 hlt hbB
 generalize a (p * 7 + 4) = k3 at *
 unfold Puts
 rw [HE.out]
 clear HE
 go_enter Try.func60, Try.ntmps60
 go_wp2_with fail
 refine wp_region_later (by kernel_rfl) (by kernel_rfl) ?_
 repeat (go_big_quiet_step (first
  | (go_at_call 55; with_reducible exact later_of (compare_is x1 x2 x3 y1 y2 y3 _))))
 refine wpQuiet_nil ?_
 rintro _ ⟨xl, rfl⟩
 have HX1 := Lib.hid xl.below
 have HA1 := Lib.hid (HA0.out.below HX1.out)
 have HB1 := Lib.hid (below_then HBB.out HBQ.out HX1.out)
 have z0 := z0 xl
 have z1 := z1 xl
 have z2 := z2 xl
 have zq := zq xl
 have n3 := n3 xl
 clear n0 n1 n2 HX1 HA0
 generalize xl.at = w1 at *
 clear xl
 go_wp2_with fail
 go_still_tail 11, (by kernel_rfl)
 change wpList _ _ _ _ _ w1.drew
 have HA2 := Lib.hid (HA1.out.below (below_drew (Below.refl _ _)))
 have HB2 : Hid (Below base W w1.drew) := Lib.hid (below_drew HB1.out)
 generalize w1.drew = w2 at HA2 HB2 ⊢
 clear z0 z1 z2 zq n3 HA1 HB1
 go_wp2_with fail
 refine (HIH.out w2 HA2.out).mono ?_
 rintro e w3 ⟨rfl, hb3, A3, cn3, a3, vf3, hA3, hg3, ho3⟩
 obtain ⟨g, rfl, hn3, hqg, hbg⟩ := hA3.nds (by omega)
 obtain ⟨hhf, hnd'⟩ := HPH.out a3 hg3 ho3
 have c0 := hA3.hd.cell
 have h2 : (p : Int) < (nn' : Int) := by omega
 have n3 := hn3.cell (j := p * 7 + 4) (by omega)
 have f3 := hn3.frozen (p * 7 + 4)
 have HB3 := Lib.hid (HB2.out.trans hb3)
 have HA3 := Lib.hid hA3
 have HN3 := Lib.hid hn3
 have HHF := Lib.hid hhf
 have HND := Lib.hid hnd'
 have HO3 := Lib.hid ho3
 clear hb3 hA3 hg3 ho3 hn3 hhf hnd' HIH HA2 HB2 HPH
 go_wp2_with fail
 have HG4 : Hid (But g w3 (w3.setCell ⟨g, p * 7 + 4, none⟩ (.int .i64 (plc (put r ⟨x1, x2, x3⟩ pl))))) := Lib.hid (But.set g (p * 7 + 4) w3 _)
 have HN4 : Hid (Nds (w3.setCell ⟨g, p * 7 + 4, none⟩ (.int .i64 (plc (put r ⟨x1, x2, x3⟩ pl)))) g nn' (upd a3 (p * 7 + 4) (plc (put r ⟨x1, x2, x3⟩ pl)))) := Lib.hid (HN3.out.set _ _)
 have HA4 := Lib.hid (HA3.out.but HG4.out HN4.out)
 have HB4 := Lib.hid (HB3.out.trans (HG4.out.below hbg (by have := HA3.out.qlt; have := HA3.out.hq; omega)))
 have HOF2 := Lib.hid (fun a5 => HOF.out a3 a5 HO3.out)
 clear c0 n3 f3 HB3 HA3 HN3 HO3 HG4 HOF
 generalize w3.setCell ⟨g, p * 7 + 4, none⟩ (.int .i64 (plc (put r ⟨x1, x2, x3⟩ pl))) = w4 at *
 generalize upd a3 (p * 7 + 4) (plc (put r ⟨x1, x2, x3⟩ pl)) = a4 at *
 have HEV := Lib.hid (even_is q g nn' cn3 p a4 ⟨y1, y2, y3⟩ l (put r ⟨x1, x2, x3⟩ pl) w4 HA4.out.hd HN4.out hqg HHF.out HND.out HW'.out HBL.out.2 HBL.out.1)
 refine (HEV.out).mono ?_
 rintro e w5 ⟨rfl, hb5, a5, hn5, hg5, ho5⟩
 have HF : Hid (Below base W w5 ∧ ∃ A' cn' a' vf', Ar w5 base q A' nn' cn' a' vf' fr' root ∧ Hang a' (even p ⟨y1, y2, y3⟩ l (put r ⟨x1, x2, x3⟩ pl)) (plc (even p ⟨y1, y2, y3⟩ l (put r ⟨x1, x2, x3⟩ pl))) ∧ Off (fun s => s ∈ places (.node p ⟨y1, y2, y3⟩ l r) ∨ s = pl) a a') := Lib.hid ⟨HB4.out.trans (hb5.below hbg (by have := HA4.out.qlt; have := HA4.out.hq; omega)), _, _, a5, _, HA4.out.but hb5 hn5, hg5, HOF2.out a5 ho5⟩
 clear hb5 hn5 hg5 ho5 HEV
 go_wp2
 go_ret
 exact ⟨rfl, HF.out⟩
theorem put_is : ∀ (t : T) (W : World) (base q : Nat) (A : Option Addr) (nn cn : Nat) (a : Cells) (vf : Value) (fr : List Int) (root : Int) (x : Itm) (pl nn' : Nat) (fr' : List Int) (i : Int) (h : Ar W base q A nn cn a vf fr root) (ht : Takes nn fr pl nn' fr') (hl : nn ≤ 1000000) (hlf : fr.length ≤ 1000000) (hh : Hang a t i) (hnd : (places t).Nodup) (hw : Within nn t) (hpl : pl ∉ places t) (hb : bal t) (bh : hgt t ≤ 800),
  Puts W base q root a t i x pl nn' fr'
 | .nil, W, base, q, A, nn, cn, a, vf, fr, root, x, pl, nn', fr', i, h, ht, hl, hlf, hh, _, _, _, _, _ => by
  have e : i = -1 := hh
  subst e
  exact put_nil W base q A nn cn a vf fr root x pl nn' fr' h ht hl hlf
 | .node p y l r, W, base, q, A, nn, cn, a, vf, fr, root, x, pl, nn', fr', i, h, ht, hl, hlf, hh, hnd, hw, hpl, hb, bh => by
  have e : i = (p : Int) := hh.1
  subst e
  have ap := Apart.of hnd
  by_cases hlt : lt x y
  ·exact put_l W base q A nn cn a vf fr root x pl nn' fr' p y l r h hh hnd hw hpl ht.lt ht.le hb bh hlt (fun W' h' => put_is l W' base q A nn cn a vf fr root x pl nn' fr' _ h' ht hl hlf hh.2.2.1 ap.dl hw.l (fun e => hpl (by simp [places, e])) hb.1 (by simp only [hgt] at bh; omega))
  ·exact put_r W base q A nn cn a vf fr root x pl nn' fr' p y l r h hh hnd hw hpl ht.lt ht.le hb bh hlt (fun W' h' => put_is r W' base q A nn cn a vf fr root x pl nn' fr' _ h' ht hl hlf hh.2.2.2.1 ap.dr hw.r (fun e => hpl (by simp [places, e])) hb.2.1 (by simp only [hgt] at bh; omega))
end Go.Proofs.Ytgkjpffbgnljeaa.Man
/- arena.first, has, clear. -/
set_option linter.unusedVariables false
set_option linter.unusedSimpArgs false
namespace Go.Proofs.Ytgkjpffbgnljeaa.Man
open Go.RowKit Go.Proofs.Ytgkjpffbgnljeaa.QT Go.Proofs.Ytgkjpffbgnljeaa.TreeM Go.Proofs.YtgkjpffbgnljeaaW.PrintWords Go.Proofs.YtgkjpffbgnljeaaW.PrintLast Go.Proofs.YtgkjpffbgnljeaaW.PrintMore
noncomputable def highAt (a : Cells) (i : Int) : Nat := open Classical in if h : ∃ t, Hang a t i then hgt h.choose else 0
theorem highAt_is {a : Cells} {t : T} {i : Int} (h : Hang a t i) : highAt a i = hgt t := by
 have hx : ∃ t, Hang a t i := ⟨t, h⟩
 unfold highAt
 rw [dif_pos hx, Hang.one hx.choose_spec h]
def FirstAt (w : World) (a : Cells) (nn : Nat) (t : T) (i : Value) (W : World) : Prop := ∃ p x l r, i = .int .i64 ((p : Nat) : Int) ∧ Hang a (.node p x l r) (p : Int) ∧ Within nn (.node p x l r) ∧ first (.node p x l r) = first t ∧ W = w
set_option maxHeartbeats 2000000 in
set_option maxRecDepth 100000 in
theorem first_is (q : Nat) (A : Option Addr) (nn cn : Nat) (a : Cells) (t : T) (i : Int) (W : World) (hq : Hd W q (.slice A nn cn)) (hn : Rd W A nn a) (hh : Hang a t i) (hw : Within nn t) (ht : t ≠ .nil) :
  Calls Try.prog 92 #[.pointer (some ⟨q, 0, none⟩), .int .i64 i] W fun e W' => e = .returned (.agg #[.int .i64 (first t).fr, .int .i64 (first t).to_, .int .i64 (first t).id]) ∧ Below W.heap.size W W' := by
 have hB0 : Below W.heap.size W (W.alloc (.cells #[.int .i64 0, .int .i64 0, .int .i64 0] 50)) := (Below.refl _ _).alloc (Nat.le_refl _) _
 have HB0 := Lib.hid hB0
 have c0 := (hq.below hB0).cell
 have HN := Lib.hid (hn.below hB0)
 have HX := Lib.hid (blk_new W (.cells #[.int .i64 0, .int .i64 0, .int .i64 0] 50 (0, 0)))
 have HS : Hid (FirstAt (W.alloc (.cells #[.int .i64 0, .int .i64 0, .int .i64 0] 50)) a nn t (.int .i64 i) (W.alloc (.cells #[.int .i64 0, .int .i64 0, .int .i64 0] 50))) := Lib.hid (by
  match t, hh, hw, ht with
  | .nil, _, _, ht => exact absurd rfl ht
  | .node p x l r, hh, hw, _ => exact ⟨p, x, l, r, by rw [hh.1], by have := hh.1; subst this; exact hh, hw, rfl, rfl⟩)
 clear hq hn hh hw ht hB0
 go_enter Try.func92, Try.ntmps92
 go_wp2_with fail
 go_loopw [1] (FirstAt (W.alloc (.cells #[.int .i64 0, .int .i64 0, .int .i64 0] 50)) a nn t) (fun i _ => highAt a (intOf i))
 case atStart => exact HS.out
 case round =>
  obtain ⟨p, x, l, r, rfl, hh, hw, hf, rfl⟩ := hrel
  have HH := Lib.hid hh
  have HW := Lib.hid hw
  have HF := Lib.hid hf
  have hp := hw.p
  obtain ⟨ad, rfl, m0, mk⟩ := HN.out.at hp
  obtain ⟨_, ⟨i0, i1, i2⟩, hl, hr, _⟩ := hh
  rw [i0] at m0
  have m1 := mk 1 (by omega) (by omega)
  have m2 := mk 2 (by omega) (by omega)
  have m3 := mk 3 (by omega) (by omega)
  rw [i1] at m1
  rw [i2] at m2
  have h0 : (0 : Int) ≤ (p : Int) := by omega
  have h1 : (p : Int) < (nn : Int) := by omega
  match l, hl, HH, HW, HF with
  | .nil, hl, HH, HW, HF =>
   have hl' : a (p * 7 + 3) = -1 := hl
   rw [hl'] at m3
   have HV : Hid (first t = x) := Lib.hid HF.out.symm
   clear hl hl' hr hw hf hp mk i0 i1 i2 HH HW HF
   go_wp2
   have hb2 := blk_new W (.cells #[.int .i64 x.fr, .int .i64 x.to_, .int .i64 x.id] 50 (0, 0))
   have q0 := blk_cell hb2 0
   have q1 := blk_cell hb2 1
   have q2 := blk_cell hb2 2
   simp at q0 q1 q2
   have HBB : Hid (Below W.heap.size W (W.alloc (.cells #[.int .i64 x.fr, .int .i64 x.to_, .int .i64 x.id] 50))) := Lib.hid ((Below.refl _ _).alloc (Nat.le_refl _) _)
   exact bodyPost_ret (v := .agg #[.int .i64 x.fr, .int .i64 x.to_, .int .i64 x.id]) (by simp [results, Try.results92, go_sem, q0, q1, q2]) rfl ⟨by rw [HV.out], HBB.out⟩
  | .node p2 x2 l2 r2, hl, HH, HW, HF =>
   have hl' : a (p * 7 + 3) = (p2 : Int) := hl.1
   rw [hl'] at m3
   have hd : ((p2 : Int) != -1) = true := by simp
   have HHL : Hid (Hang a (.node p2 x2 l2 r2) (p2 : Int)) := Lib.hid (by have := hl.1; rw [this] at hl; exact hl)
   have HM : Hid (highAt a (p2 : Int) < highAt a (p : Int)) := Lib.hid (by rw [highAt_is HHL.out, highAt_is HH.out]; simp only [hgt]; omega)
   have HF2 : Hid (first (.node p2 x2 l2 r2) = first t) := Lib.hid HF.out
   clear hl hl' hr hw hf hp mk i0 i1 i2 HF
   go_wp2
   go_roundw
   case rel => exact ⟨p2, x2, l2, r2, rfl, HHL.out, HW.out.l, HF2.out, rfl⟩
   case measure => have := HM.out; simpa [intOf] using this
def HasAt (w : World) (a : Cells) (nn : Nat) (t : T) (x : Itm) (i : Value) (W : World) : Prop := ∃ S j, i = .int .i64 j ∧ Hang a S j ∧ Within nn S ∧ Row (items S) ∧ (x ∈ items t ↔ x ∈ items S) ∧ Below w.heap.size w W
set_option maxHeartbeats 4000000 in
set_option maxRecDepth 100000 in
theorem has_is (q : Nat) (A : Option Addr) (nn cn : Nat) (a : Cells) (t : T) (i : Int) (x : Itm) (W : World) (hq : Hd W q (.slice A nn cn)) (hn : Rd W A nn a) (hh : Hang a t i) (hw : Within nn t) (hrow : Row (items t)) :
  Calls Try.prog 59 #[.pointer (some ⟨q, 0, none⟩), .int .i64 i, .agg #[.int .i64 x.fr, .int .i64 x.to_, .int .i64 x.id]] W fun e W' => e = .returned (.bool (decide (x ∈ items t))) ∧ Below W.heap.size W W' := by
 obtain ⟨x1, x2, x3⟩ := x
 have hB0 : Below W.heap.size W (W.alloc (.cells #[.int .i64 x1, .int .i64 x2, .int .i64 x3] 50)) := (Below.refl _ _).alloc (Nat.le_refl _) _
 have HB0 := Lib.hid hB0
 have HQ := Lib.hid (hq.below hB0)
 have HN := Lib.hid (hn.below hB0)
 have HX := Lib.hid (blk_new W (.cells #[.int .i64 x1, .int .i64 x2, .int .i64 x3] 50 (0, 0)))
 have HS : Hid (HasAt (W.alloc (.cells #[.int .i64 x1, .int .i64 x2, .int .i64 x3] 50)) a nn t ⟨x1, x2, x3⟩ (.int .i64 i) (W.alloc (.cells #[.int .i64 x1, .int .i64 x2, .int .i64 x3] 50))) := Lib.hid ⟨t, i, rfl, hh, hw, hrow, Iff.rfl, Below.refl _ _⟩
 have HSZ : Hid (W.heap.size ≤ (W.alloc (.cells #[.int .i64 x1, .int .i64 x2, .int .i64 x3] 50)).heap.size) := Lib.hid HB0.out.size
 clear hq hn hh hw hrow hB0
 go_enter Try.func59, Try.ntmps59
 go_wp2_with fail
 generalize (W.alloc (.cells #[.int .i64 x1, .int .i64 x2, .int .i64 x3] 50)) = w1 at *
 go_loopw [1] (HasAt w1 a nn t ⟨x1, x2, x3⟩) (fun i _ => highAt a (intOf i))
 case atStart => exact HS.out
 case round =>
  obtain ⟨S, j, rfl, hh, hw, hrow, hiff, hb⟩ := hrel
  have HB := Lib.hid hb
  clear hb
  match S, hh, hw, hrow, hiff with
  | .nil, hh, hw, hrow, hiff =>
   have hj : j = -1 := hh
   subst hj
   have HV : Hid (decide ((⟨x1, x2, x3⟩ : Itm) ∈ items t) = false) := Lib.hid (by rw [decide_eq_false_iff_not, hiff]; simp [items])
   clear hh hw hrow hiff
   go_wp2
   go_ret
   exact ⟨by rw [HV.out]; rfl, below_then HB0.out HSZ.out HB.out⟩
  | .node p y l r, hh, hw, hrow, hiff =>
   have hj : j = (p : Int) := hh.1
   subst hj
   have hp := hw.p
   have HBL : Hid (Row (items l) ∧ Row (items r)) := Lib.hid ⟨(row_parts hrow).1, (row_parts hrow).2.1⟩
   have HMl : Hid (highAt a (a (p * 7 + 3)) < highAt a (p : Int)) := Lib.hid (by rw [highAt_is hh, highAt_is hh.2.2.1]; simp only [hgt]; omega)
   have HMr : Hid (highAt a (a (p * 7 + 4)) < highAt a (p : Int)) := Lib.hid (by rw [highAt_is hh, highAt_is hh.2.2.2.1]; simp only [hgt]; omega)
   have HHl := Lib.hid hh.2.2.1
   have HHr := Lib.hid hh.2.2.2.1
   have HWl := Lib.hid hw.l
   have HWr := Lib.hid hw.r
   have hd : ((p : Int) != -1) = true := by simp
   have h0 : (0 : Int) ≤ (p : Int) := by omega
   have h1 : (p : Int) < (nn : Int) := by omega
   obtain ⟨y1, y2, y3⟩ := y
   obtain ⟨i0, i1, i2⟩ := hh.2.1
   simp only at i0 i1 i2
   obtain ⟨ad, eA, m0, mk⟩ := (HN.out.below HB.out).at hp
   subst eA
   rw [i0] at m0
   have m1 := mk 1 (by omega) (by omega)
   have m2 := mk 2 (by omega) (by omega)
   rw [i1] at m1
   rw [i2] at m2
   have z0 : ∀ x : Later wr, x.at.cell? ⟨W.heap.size, 0, none⟩ = some (.int .i64 x1) := fun x => Later.cell (by rw [blk_cell (blk_below HX.out HB.out) 0]; rfl) x
   have z1 : ∀ x : Later wr, x.at.cell? ⟨W.heap.size, 1, none⟩ = some (.int .i64 x2) := fun x => Later.cell (by rw [blk_cell (blk_below HX.out HB.out) 1]; rfl) x
   have z2 : ∀ x : Later wr, x.at.cell? ⟨W.heap.size, 2, none⟩ = some (.int .i64 x3) := fun x => Later.cell (by rw [blk_cell (blk_below HX.out HB.out) 2]; rfl) x
   have zq : ∀ x : Later wr, x.at.cell? ⟨q, 0, none⟩ = some (.slice (some ad) nn cn) := Later.cell (HQ.out.below HB.out).cell
   have n0 : ∀ x : Later wr, x.at.cell? (ad.add (p * 7)) = some (.int .i64 y1) := Later.cell m0
   have n1 : ∀ x : Later wr, x.at.cell? ⟨(ad.add (p * 7)).block, (ad.add (p * 7)).off + 1, none⟩ = some (.int .i64 y2) := Later.cell m1
   have n2 : ∀ x : Later wr, x.at.cell? ⟨(ad.add (p * 7)).block, (ad.add (p * 7)).off + 2, none⟩ = some (.int .i64 y3) := Later.cell m2
   have n3 : ∀ x : Later wr, x.at.cell? ⟨(ad.add (p * 7)).block, (ad.add (p * 7)).off + 3, none⟩ = some (.int .i64 (a (p * 7 + 3))) := Later.cell (mk 3 (by omega) (by omega))
   have n4 : ∀ x : Later wr, x.at.cell? ⟨(ad.add (p * 7)).block, (ad.add (p * 7)).off + 4, none⟩ = some (.int .i64 (a (p * 7 + 4))) := Later.cell (mk 4 (by omega) (by omega))
   have HROW := Lib.hid hrow
   have HIFF := Lib.hid hiff
   clear hh hw hrow hiff hp i0 i1 i2 m0 m1 m2 mk
   go_wp2_with fail
   refine wp_region_later (by kernel_rfl) (by kernel_rfl) ?_
   repeat (go_big_quiet_step (first
    | (go_at_call 55; with_reducible exact later_of (compare_is x1 x2 x3 y1 y2 y3 _))))
   refine wpQuiet_nil ?_
   rintro _ ⟨xl, rfl⟩
   have HB2 := Lib.hid (below_then HB.out HB.out.size xl.below)
   have zq := zq xl
   have n3 := n3 xl
   have n4 := n4 xl
   clear n0 n1 n2 z0 z1 z2
   by_cases hlt : lt ⟨x1, x2, x3⟩ ⟨y1, y2, y3⟩
   ·have he : (cmpF ⟨x1, x2, x3⟩ ⟨y1, y2, y3⟩ == 0) = false := by rw [beq_eq_false_iff_ne]; have := cmpF_lt.2 hlt; omega
    have hl : decide (cmpF ⟨x1, x2, x3⟩ ⟨y1, y2, y3⟩ < 0) = true := decide_eq_true (cmpF_lt.2 hlt)
    have HI2 : Hid ((⟨x1, x2, x3⟩ : Itm) ∈ items t ↔ (⟨x1, x2, x3⟩ : Itm) ∈ items l) := Lib.hid (HIFF.out.trans ⟨fun hm => mem_low HROW.out hlt hm, fun hm => List.mem_append_left _ hm⟩)
    clear hlt HIFF HROW
    generalize cmpF ⟨x1, x2, x3⟩ ⟨y1, y2, y3⟩ = cv at *
    go_wp2
    go_roundw
    case rel => exact ⟨l, _, rfl, HHl.out, HWl.out, HBL.out.1, HI2.out, HB2.out⟩
    case measure => have := HMl.out; simpa [intOf] using this
   ·by_cases hgt : lt ⟨y1, y2, y3⟩ ⟨x1, x2, x3⟩
    ·have he : (cmpF ⟨x1, x2, x3⟩ ⟨y1, y2, y3⟩ == 0) = false := by rw [beq_eq_false_iff_ne]; have := cmpF_gt.2 hgt; omega
     have hl : decide (cmpF ⟨x1, x2, x3⟩ ⟨y1, y2, y3⟩ < 0) = false := decide_eq_false (fun e => hlt (cmpF_lt.1 e))
     have HI2 : Hid ((⟨x1, x2, x3⟩ : Itm) ∈ items t ↔ (⟨x1, x2, x3⟩ : Itm) ∈ items r) := Lib.hid (HIFF.out.trans ⟨fun hm => mem_up HROW.out hgt hm, fun hm => List.mem_append_right _ (List.mem_cons_of_mem _ hm)⟩)
     clear hlt hgt HIFF HROW
     generalize cmpF ⟨x1, x2, x3⟩ ⟨y1, y2, y3⟩ = cv at *
     go_wp2
     go_roundw
     case rel => exact ⟨r, _, rfl, HHr.out, HWr.out, HBL.out.2, HI2.out, HB2.out⟩
     case measure => have := HMr.out; simpa [intOf] using this
    ·have hxy : (⟨x1, x2, x3⟩ : Itm) = ⟨y1, y2, y3⟩ := lt_total hlt hgt
     have he : (cmpF ⟨x1, x2, x3⟩ ⟨y1, y2, y3⟩ == 0) = true := by rw [beq_iff_eq]; exact cmpF_eq.2 hxy
     have HV : Hid (decide ((⟨x1, x2, x3⟩ : Itm) ∈ items t) = true) := Lib.hid (decide_eq_true (HIFF.out.2 (by rw [hxy]; exact List.mem_append_right _ List.mem_cons_self)))
     clear hlt hgt hxy HIFF HROW
     generalize cmpF ⟨x1, x2, x3⟩ ⟨y1, y2, y3⟩ = cv at *
     go_wp2
     go_ret
     exact ⟨by rw [HV.out]; rfl, below_then HB0.out HSZ.out HB2.out⟩
def blank (a : Cells) (p : Nat) : Cells := fun j => if p * 7 ≤ j ∧ j < p * 7 + 7 then 0 else a j
theorem blank_off (a : Cells) (p : Nat) : Off (fun s => s = p) a (blank a p) := by
 intro s hs k hk
 unfold blank
 rw [if_neg (by omega)]
theorem blank_at (a : Cells) (p k : Nat) (hk : k < 7) : blank a p (p * 7 + k) = 0 := by unfold blank; rw [if_pos (by omega)]
theorem blank_upd (a : Cells) (p j : Nat) : upd (upd (upd (upd (upd (upd (upd a (p * 7) 0) (p * 7 + 1) 0) (p * 7 + 2) 0) (p * 7 + 3) 0) (p * 7 + 4) 0) (p * 7 + 5) 0) (p * 7 + 6) 0 j = blank a p j := by
 unfold upd blank
 split <;> rename_i h6
 ·rw [if_pos (by omega)]
 split <;> rename_i h5
 ·rw [if_pos (by omega)]
 split <;> rename_i h4
 ·rw [if_pos (by omega)]
 split <;> rename_i h3
 ·rw [if_pos (by omega)]
 split <;> rename_i h2
 ·rw [if_pos (by omega)]
 split <;> rename_i h1
 ·rw [if_pos (by omega)]
 split <;> rename_i h0
 ·rw [if_pos (by omega)]
 ·rw [if_neg (by omega)]
theorem Ar.nd_grown {W w1 : World} {base q : Nat} {A : Option Addr} {nn cn : Nat} {a : Cells} {vf : Value} {fr : List Int} {root : Int} (h : Ar W base q A nn cn a vf fr root) (hg : W.grownBy w1 vf.ownBlock) : Kd.R k64 64 w1 base (fun _ => True) (.slice A nn cn) (listN nn a) := by
 refine Kd.R_mono (Kd.R_step (ok := fun k => some k ≠ vf.ownBlock) ?_ (fun k hk hlt => hg.block k hlt hk)) (fun _ _ => trivial)
 obtain ⟨_, inner, ho, _⟩ := h.fr
 rcases ho.2 with ⟨hv, _⟩ | ⟨g, cap, cur, hv, hb, hh, _⟩
 ·rw [hv]
  exact Kd.R_mono h.nd (fun k _ => by simp [Value.ownBlock])
 ·rw [hv]
  refine Kd.R_mono (Kd.R_types h.nd hh (by intro t ht; simp [k64, k50, k27, Kd.iso, Kd.pair, Kd.int, Kd.scalar] at ht; subst ht; decide)) (fun k hk => ?_)
  simp [Value.ownBlock]
  exact hk.2
set_option maxHeartbeats 2000000 in
set_option maxRecDepth 100000 in
theorem clear_is (W : World) (base q : Nat) (A : Option Addr) (nn cn : Nat) (a : Cells) (vf : Value) (fr : List Int) (root : Int) (p : Nat) (h : Ar W base q A nn cn a vf fr root) (hp : p < nn) (hl : fr.length ≤ 1000000) :
  Calls Try.prog 91 #[.pointer (some ⟨q, 0, none⟩), .int .i64 (p : Int)] W fun e W' => e = .returned (.tuple #[]) ∧ Below base W W' ∧ ∃ vf', Ar W' base q A nn cn (blank a p) vf' (fr ++ [(p : Int)]) root := by
 obtain ⟨g, rfl, hn, hqg, hbg⟩ := h.nds (by omega)
 have c0 := h.hd.cell
 have h0 : (0 : Int) ≤ (p : Int) := by omega
 have h1 : (p : Int) < (nn : Int) := by omega
 have n0 := hn.cell (j := p * 7) (by omega)
 have n1 := hn.cell (j := p * 7 + 1) (by omega)
 have n2 := hn.cell (j := p * 7 + 2) (by omega)
 have n3 := hn.cell (j := p * 7 + 3) (by omega)
 have n4 := hn.cell (j := p * 7 + 4) (by omega)
 have n5 := hn.cell (j := p * 7 + 5) (by omega)
 have n6 := hn.cell (j := p * 7 + 6) (by omega)
 have f0 := hn.frozen (p * 7)
 have f1 := hn.frozen (p * 7 + 1)
 have f2 := hn.frozen (p * 7 + 2)
 have f3 := hn.frozen (p * 7 + 3)
 have f4 := hn.frozen (p * 7 + 4)
 have f5 := hn.frozen (p * 7 + 5)
 have f6 := hn.frozen (p * 7 + 6)
 have HG1 : Hid (But g W ((((((((W.setCell ⟨g, p * 7, none⟩ (.int .i64 0)).setCell ⟨g, p * 7 + 1, none⟩ (.int .i64 0)).setCell ⟨g, p * 7 + 2, none⟩ (.int .i64 0)).setCell ⟨g, p * 7 + 3, none⟩ (.int .i64 0)).setCell ⟨g, p * 7 + 4, none⟩ (.int .i64 0)).setCell ⟨g, p * 7 + 5, none⟩ (.int .i64 0)).setCell ⟨g, p * 7 + 6, none⟩ (.int .i64 0)))) := Lib.hid ((((((((But.set g (p * 7) W (.int .i64 0)).trans (But.set g (p * 7 + 1) _ (.int .i64 0))).trans (But.set g (p * 7 + 2) _ (.int .i64 0))).trans (But.set g (p * 7 + 3) _ (.int .i64 0))).trans (But.set g (p * 7 + 4) _ (.int .i64 0))).trans (But.set g (p * 7 + 5) _ (.int .i64 0))).trans (But.set g (p * 7 + 6) _ (.int .i64 0))))
 have HN1 : Hid (Nds ((((((((W.setCell ⟨g, p * 7, none⟩ (.int .i64 0)).setCell ⟨g, p * 7 + 1, none⟩ (.int .i64 0)).setCell ⟨g, p * 7 + 2, none⟩ (.int .i64 0)).setCell ⟨g, p * 7 + 3, none⟩ (.int .i64 0)).setCell ⟨g, p * 7 + 4, none⟩ (.int .i64 0)).setCell ⟨g, p * 7 + 5, none⟩ (.int .i64 0)).setCell ⟨g, p * 7 + 6, none⟩ (.int .i64 0))) g nn (blank a p)) := Lib.hid (Nds.ext (((((((hn.set (p * 7) 0).set (p * 7 + 1) 0).set (p * 7 + 2) 0).set (p * 7 + 3) 0).set (p * 7 + 4) 0).set (p * 7 + 5) 0).set (p * 7 + 6) 0) (fun j _ => (blank_upd a p j).symm))
 have HA1 := Lib.hid (h.but HG1.out HN1.out)
 have HB1 : Hid (Below base W ((((((((W.setCell ⟨g, p * 7, none⟩ (.int .i64 0)).setCell ⟨g, p * 7 + 1, none⟩ (.int .i64 0)).setCell ⟨g, p * 7 + 2, none⟩ (.int .i64 0)).setCell ⟨g, p * 7 + 3, none⟩ (.int .i64 0)).setCell ⟨g, p * 7 + 4, none⟩ (.int .i64 0)).setCell ⟨g, p * 7 + 5, none⟩ (.int .i64 0)).setCell ⟨g, p * 7 + 6, none⟩ (.int .i64 0)))) := Lib.hid (HG1.out.below hbg (by have := h.qlt; have := h.hq; omega))
 obtain ⟨Af, cf, rfl, hcf, hC⟩ := Kd.R_reads h.fr
 have c2 := blk_cell HA1.out.blk 2
 simp at c2
 have f2q := blk_frozen HA1.out.blk 2
 have hqq : base ≤ q := h.hq
 have HBB : Hid (base ≤ W.heap.size) := Lib.hid (by have := h.qlt; have := h.hq; omega)
 have HSZ : Hid (((((((((W.setCell ⟨g, p * 7, none⟩ (.int .i64 0)).setCell ⟨g, p * 7 + 1, none⟩ (.int .i64 0)).setCell ⟨g, p * 7 + 2, none⟩ (.int .i64 0)).setCell ⟨g, p * 7 + 3, none⟩ (.int .i64 0)).setCell ⟨g, p * 7 + 4, none⟩ (.int .i64 0)).setCell ⟨g, p * 7 + 5, none⟩ (.int .i64 0)).setCell ⟨g, p * 7 + 6, none⟩ (.int .i64 0))).heap.size = W.heap.size) := Lib.hid (by simp)
 have HLL : Hid ((fr.length + 1) * 8 ≤ 140737488355328) := Lib.hid (by omega)
 clear h hn hC hp
 go_enter Try.func91, Try.ntmps91
 go_upto_region 1 with fail
 clear n0 n1 n2 n3 n4 n5 n6 f0 f1 f2 f3 f4 f5 f6 HG1 HN1 c0
 generalize (((((((W.setCell ⟨g, p * 7, none⟩ (.int .i64 0)).setCell ⟨g, p * 7 + 1, none⟩ (.int .i64 0)).setCell ⟨g, p * 7 + 2, none⟩ (.int .i64 0)).setCell ⟨g, p * 7 + 3, none⟩ (.int .i64 0)).setCell ⟨g, p * 7 + 4, none⟩ (.int .i64 0)).setCell ⟨g, p * 7 + 5, none⟩ (.int .i64 0)).setCell ⟨g, p * 7 + 6, none⟩ (.int .i64 0)) = w2 at *
 have HBQ : Hid (base ≤ w2.heap.size) := Lib.hid (by rw [HSZ.out]; exact HBB.out)
 go_wp2_with (first | ((with_reducible refine gate_builtin (b := .append) (xs := #[.tmp 17, .tmp 19]) rfl ?_); at_builtin; refine Kd.R_append (Kd.int .i64) (w0 := w2) base rfl (.tmp 17) (.tmp 19) 23 3 (.int .i64 0) 8 rfl Try.underlying23 info3 rfl (by decide) (by omega) (.slice Af fr.length cf) fr (p : Int) [.int .i64 (p : Int)] (fun _ => True) (fun _ => False) rfl rfl ?aP (fun _ hk => hk.elim) ?aF ?aO ?aB ?aS ?aL ?_; (case aP => exact rfl); (case aF => exact (fun _ _ => trivial)); (case aO => exact HA1.out.fr); (case aB => exact Below.refl _ _); (case aS => exact HBQ.out); (case aL => exact HLL.out); intro v4 w4 ho4 hb4 hg4 _; obtain ⟨A4, c4, e4⟩ := Kd.R_slice ho4; rw [show (fr ++ [(p : Int)]).length = fr.length + 1 by simp] at e4; subst e4; have hq4 := blk_grown HA1.out.blk hg4 (Kd.R_ne HA1.out.fr HA1.out.blk (by decide)); have f24 := blk_frozen hq4 2; have q24 := blk_cell hq4 2; simp at q24; have HQ4 := Lib.hid hq4; have HO4 := Lib.hid ho4; have HB4 := Lib.hid hb4; have HG4 := Lib.hid hg4; clear ho4 hb4 hg4 hq4))
 go_end0
 refine ⟨rfl, (HB1.out.trans HB4.out).setCell (p := ⟨q, 2, none⟩) hqq _, _, ⟨blk_set HQ4.out 2 _, hqq, Kd.R_set (HA1.out.nd_grown HG4.out) HQ4.out (by intro t ht; simp [k64, k50, k27, Kd.iso, Kd.pair, Kd.int, Kd.scalar] at ht; subst ht; decide) 2 _, Kd.R_set HO4.out HQ4.out (by intro t ht; simp [Kd.int, Kd.scalar] at ht; subst ht; decide) 2 _⟩⟩
end Go.Proofs.Ytgkjpffbgnljeaa.Man
