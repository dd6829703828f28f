/- Texts of this claim laid together: QGd, QG3, OpsGTreeOrders, TreePa, TreePc, TreePi, PureTreeOrders. -/
import Derived.Test.YtgkjpffbgnljeaaCax
import Derived.Test.YtgkjpffbgnljeaaCbd
import Derived.Test.YtgkjpffbgnljeaaCav
import Derived.Test.YtgkjpffbgnljeaaCba
import Derived.Below
import Derived.Deep.Draws
import Derived.Deep.AppendLies
import Derived.Maps.AppendAt
import Derived.OwnWalk
import Derived.Laws.BytesArg
import Derived.Laws.MakeOwn
import Derived.Laws.OwnMore
import Derived.Deep.OwnRows
import Derived.Tactics
import Derived.Lib.ConvBytes
import Derived.Laws.Slices
import Derived.WalkKit
import Derived.KernelRfl
import Derived.RowKit3
import Derived.Deep.LoopGhost
import Derived.Deep.QuietTactic
import Derived.BigQuiet
import Derived.WideLaws
import Derived.Deep.DeepCutAuto
import Derived.Deep.CutBlock
import Derived.Deep.RegionHeld3
import Derived.Laws.Rows
import Derived.Lib.AppendStr
import Derived.ArgAppend
import Derived.Laws.IdiomCopy
import Derived.OrdersHeld
import Derived.Laws.BitsLemmas
import Derived.RowKit
-- written by this session's program mprint.py: functions of the Go program, and their contracts
namespace Go.Proofs.Ytgkjpffbgnljeaa.QG
open Go.RowKit Go.Proofs.Ytgkjpffbgnljeaa.QT Go.Proofs.Ytgkjpffbgnljeaa.Man Go.Proofs.Ytgkjpffbgnljeaa.QA Go.Proofs.YtgkjpffbgnljeaaW.PrintWords Go.Proofs.YtgkjpffbgnljeaaW.PrintLast Go.Proofs.YtgkjpffbgnljeaaW.PrintMore
attribute [local go_sem] max2_int min2_int max_two min_two max_three min_three max_four min_four
set_option linter.unusedVariables false
set_option linter.unusedSimpArgs false
mutual
noncomputable def tollbarlaw17_TreeOrders.j0 : Nat → List (S50) → Int → Bool → Int → Int → Option (Bool)
 | 0, _, _, _, _, _ => none
 | k + 1, x0, x1, x35, x151000, x151001 => if x35 = true then (some true) else ((tree_New.f).bind fun bt151 => ((tree_New.f).bind fun bt158 => ((some (([] : List (S50)) : List (S50))).bind fun y167 => (if 0 ≤ x1 then (if x1 ≤ (x0.length : Int) then ((some (x0.drop (x1 : Int).toNat : List (S50))).bind fun y170 => (if y167.length + y170.length < 5864062014805 then ((some (y167 ++ y170 : List (S50))).bind fun y174 => ((some (x0.take (x1 : Int).toNat : List (S50))).bind fun y177 => (if y174.length + y177.length < 5864062014805 then (tollbarlaw17_TreeOrders.l0 k x0 (y174 ++ y177) 0 x151000 x151001 bt151.1 bt151.2.1 bt151.2.2 bt158.1 bt158.2.1 bt158.2.2) else (none)))) else (none))) else (none)) else (none)))))
noncomputable def tollbarlaw17_TreeOrders.l0 : Nat → List (S50) → List (S50) → Int → Int → Int → List (S64) → Int → List Int → List (S64) → Int → List Int → Option (Bool)
 | 0, _, _, _, _, _, _, _, _, _, _, _ => none
 | k + 1, x0, x9, x10, x151000, x151001, x166000, x166001, x166002, x167000, x167001, x167002 => if x10 < (x0.length : Int) then (if 0 ≤ x10 then ((tree_Insert.f x166000 x166001 x166002 ((rd_T50 x0 x10).f0.f0) ((rd_T50 x0 x10).f0.f1) ((rd_T50 x0 x10).f1)).bind fun bt185 => ((tollbarlaw0_Num.f bt185.2.2.2).bind fun t194 => (if t194 = 0 then (tollbarlaw17_TreeOrders.j2 k x0 x9 x10 x151000 x151001 bt185.1 bt185.2.1 bt185.2.2.1 x167000 x167001 x167002) else (tollbarlaw17_TreeOrders.j2 k x0 x9 x10 x151000 x151001 x166000 x166001 x166002 x167000 x167001 x167002)))) else (none)) else ((tree_Items.f x166000 x166001 x166002).bind fun bt206 => ((tree_Items.f x167000 x167001 x167002).bind fun bt210 => ((tree_Meets.f x166000 x166001 x166002 x151000 x151001).bind fun bt214 => ((tree_Meets.f x167000 x167001 x167002 x151000 x151001).bind fun bt218 => ((tollbarlaw17_awake.f).bind fun t222 => (if t222 = true then ((tollbarlaw0_Num.f bt206.2).bind fun t223 => (if t223 = 0 then ((tollbarlaw0_Num.f bt210.2).bind fun t224 => (if t224 = 0 then ((tollbarlaw0_SameItems.f k bt206.1 bt210.1).bind fun t225 => (if t225 = true then ((tollbarlaw0_Num.f bt214.2).bind fun t226 => ((tollbarlaw0_Num.f bt218.2).bind fun t227 => (if t226 = t227 then ((tollbarlaw0_SameItems.f k bt214.1 bt218.1).bind fun t228 => (some t228)) else (some false)))) else (some false))) else (some false))) else (some false))) else (some false)))))))
noncomputable def tollbarlaw17_TreeOrders.j2 : Nat → List (S50) → List (S50) → Int → Int → Int → List (S64) → Int → List Int → List (S64) → Int → List Int → Option (Bool)
 | 0, _, _, _, _, _, _, _, _, _, _, _ => none
 | k + 1, x0, x9, x10, x151000, x151001, x166000, x166001, x166002, x167000, x167001, x167002 => if 0 ≤ x10 then (if x10 < (x9.length : Int) then ((tree_Insert.f x167000 x167001 x167002 ((rd_T50 x9 x10).f0.f0) ((rd_T50 x9 x10).f0.f1) ((rd_T50 x9 x10).f1)).bind fun bt196 => ((tollbarlaw0_Num.f bt196.2.2.2).bind fun t205 => (if t205 = 0 then (tollbarlaw17_TreeOrders.l0 k x0 x9 (wrap64 (x10 + 1)) x151000 x151001 x166000 x166001 x166002 bt196.1 bt196.2.1 bt196.2.2.1) else (tollbarlaw17_TreeOrders.l0 k x0 x9 (wrap64 (x10 + 1)) x151000 x151001 x166000 x166001 x166002 x167000 x167001 x167002)))) else (none)) else (none)
end
noncomputable def tollbarlaw17_TreeOrders.f (k : Nat) (l0 : List (S50)) (a1 : Int) (a2_0 : Int) (a2_1 : Int) : Option (Bool) := if a1 < 0 then (tollbarlaw17_TreeOrders.j0 k l0 a1 true a2_0 a2_1) else (if a1 > (l0.length : Int) then (tollbarlaw17_TreeOrders.j0 k l0 a1 true a2_0 a2_1) else (tollbarlaw17_TreeOrders.j0 k l0 a1 (decide ((l0.length : Int) > 32)) a2_0 a2_1))
end Go.Proofs.Ytgkjpffbgnljeaa.QG
-- written by this session's program mprint.py: functions of the Go program, and their contracts
namespace Go.Proofs.Ytgkjpffbgnljeaa.QG
open Go.RowKit Go.Proofs.Ytgkjpffbgnljeaa.Au Go.Proofs.Ytgkjpffbgnljeaa.QT Go.Proofs.Ytgkjpffbgnljeaa.Man Go.Proofs.Ytgkjpffbgnljeaa.QA Go.Proofs.YtgkjpffbgnljeaaW.PrintWords Go.Proofs.YtgkjpffbgnljeaaW.PrintLast Go.Proofs.YtgkjpffbgnljeaaW.PrintMore
attribute [local go_sem] max2_int min2_int max_two min_two max_three min_three max_four min_four
set_option linter.unusedVariables false
set_option linter.unusedSimpArgs false
noncomputable def tollbarlaw17_TreeOrders.T4 : Bool × List (List Nat × List Nat) := (true, [([], []), ([], []), ([], []), ([1, 2], [1, 2]), ([0, 3], [0, 3]), ([], []), ([], []), ([5, 6], [5, 6]), ([4, 7, 4], [4, 7]), ([8, 8, 0, 1, 2, 3, 4, 5, 6, 7, 8], [8])])
noncomputable def tollbarlaw17_TreeOrders.B4 : List Nat := [0, 0, 0, 6, 15, 0, 0, 96, 255, 511]
theorem tollbarlaw17_TreeOrders.tab4 : rtab .any (opsOf Try.f7 4) = tollbarlaw17_TreeOrders.T4 := by kernel_rfl
theorem tollbarlaw17_TreeOrders.bits4 : waitsOk tollbarlaw17_TreeOrders.T4.2 tollbarlaw17_TreeOrders.B4 = true := by kernel_rfl
noncomputable def tollbarlaw17_TreeOrders.T8 : Bool × List (List Nat × List Nat) := (true, [([], []), ([], []), ([], []), ([1, 2], [1, 2]), ([3], [3]), ([0, 4], [0, 4]), ([5], [5]), ([6], [6]), ([6], [6]), ([], []), ([9, 7, 5, 0, 1, 2, 3, 4, 5, 6, 7, 9], [7, 9]), ([8, 10, 0, 1, 2, 3, 4, 5, 6, 7, 8, 9, 10], [8])])
noncomputable def tollbarlaw17_TreeOrders.B8 : List Nat := [0, 0, 0, 6, 14, 31, 63, 127, 127, 0, 767, 2047]
theorem tollbarlaw17_TreeOrders.tab8 : rtab .any (opsOf Try.f7 8) = tollbarlaw17_TreeOrders.T8 := by kernel_rfl
theorem tollbarlaw17_TreeOrders.bits8 : waitsOk tollbarlaw17_TreeOrders.T8.2 tollbarlaw17_TreeOrders.B8 = true := by kernel_rfl
noncomputable def tollbarlaw17_TreeOrders.T11 : Bool × List (List Nat × List Nat) := (true, [([], []), ([], []), ([], []), ([1, 2], [1, 2]), ([3], [3]), ([0, 4], [0, 4]), ([5], [5]), ([6], [6]), ([6], [6]), ([], []), ([9, 7, 5, 0, 1, 2, 3, 4, 5, 6, 7, 9], [7, 9]), ([8, 10, 0, 1, 2, 3, 4, 5, 6, 7, 8, 9, 10], [8])])
noncomputable def tollbarlaw17_TreeOrders.B11 : List Nat := [0, 0, 0, 6, 14, 31, 63, 127, 127, 0, 767, 2047]
theorem tollbarlaw17_TreeOrders.tab11 : rtab .any (opsOf Try.f7 11) = tollbarlaw17_TreeOrders.T11 := by kernel_rfl
theorem tollbarlaw17_TreeOrders.bits11 : waitsOk tollbarlaw17_TreeOrders.T11.2 tollbarlaw17_TreeOrders.B11 = true := by kernel_rfl
set_option maxHeartbeats 8000000 in
set_option maxRecDepth 100000 in
theorem tollbarlaw17_TreeOrders.calls (k : Nat) (A0 : Option Addr) (c0 : Nat) (l0 : List (S50)) (a1 : Int) (a2_0 : Int) (a2_1 : Int) (r : Bool) (w : World) (hr0 : Kd.C k50 w A0 l0.length l0) (hc0 : l0.length ≤ c0) (h : r = true ∧ tollbarlaw17_TreeOrders.f k l0 a1 a2_0 a2_1 = some r) :
  Calls Try.prog 7 #[.slice A0 l0.length c0, .int .i64 a1, .agg #[.int .i64 a2_0, .int .i64 a2_1]] w fun e w' => e = .returned (.bool r) ∧ Below w.heap.size w w' := by
 have hrt_ := zK h.1
 replace h := h.2
 have hu27 := Try.underlying27
 have hu25 := Try.underlying25
 have hu50 := Try.underlying50
 have HR0 := zK hr0
 have HC0 := zK hc0
 clear hr0 hc0
 have HB := zK (Below.refl w.heap.size w)
 have H : (if a1 < 0 then (tollbarlaw17_TreeOrders.j0 k l0 a1 true a2_0 a2_1) else (if a1 > (l0.length : Int) then (tollbarlaw17_TreeOrders.j0 k l0 a1 true a2_0 a2_1) else (tollbarlaw17_TreeOrders.j0 k l0 a1 (decide ((l0.length : Int) > 32)) a2_0 a2_1))) = some r := h
 clear h
 have HC4 := zK H
 clear H
 go_enter Try.func7, Try.ntmps7
 go_upto_region 1 with (first | ((with_reducible refine gate_dst (N := 5) rfl ?_); (try (refine gate_guard (by rfl) ?_; dsimp only)); refine box_event ?hg (N := 5) ?hd (cs := #[.int .i64 a2_0, .int .i64 a2_1]) (t := 27) ?hr ?_; (case hd => rfl); (case hg => rfl); (case hr => first | (go_simp; done) | (go_simp; rfl)); intro gb150 hg w5 hbox hb; have n0_ := zK (yF (zl HB.out) hb); have n1_ := zK (hbox); have n2_ := zK ((by rw [hg]; exact (yG (zl HB.out)) : w.heap.size ≤ gb150)); have n3_ := zK ((by rw [hg]; exact (yG (zl HB.out)) : w.heap.size ≤ gb150)); clear HB; have HB := n0_; have BK150 := n1_; have GW150 := n2_; have GE150 := n3_; clear n0_ n1_ n2_ n3_; clear hb hbox hg))
 (try simp only [Act.put, zY, zZ, yA])
 go_cut [35] (fun v35 wc => ∃ (kq : Nat) (x35_3 : Bool), v35 = .bool x35_3 ∧ Aside0 (tollbarlaw17_TreeOrders.j0 kq l0 a1 x35_3 a2_0 a2_1 = some r) ∧ Aside0 (kq ≤ k) ∧ Aside0 (wc.heap[gb150]? = some (.cells #[.int .i64 a2_0, .int .i64 a2_1] 27 (0, 0))) ∧ Aside0 (Below w.heap.size w wc))
 case first =>
  have H := HC4.out
  clear HC4
  by_cases c6 : a1 < 0
  ·rw [if_pos c6] at H
   have c6b0 : decide (a1 < 0) = true := decide_eq_true c6
   clear c6
   (first | rw [c6b0] | (simp only [i64_w, i32_w]; rw [c6b0]) | skip)
   have H' := zK H
   clear H
   go_wp2
   go_meet
   case rel => exact ⟨_, (true), zz, H', ⟨by first | omega | exact Nat.le_refl _⟩, ⟨by (with_reducible repeat (first | refine zD ?_ _ | refine zE ?_ | refine zF ?_ _)); exact BK150.out⟩, ⟨by repeat (first | (with_reducible first | exact HB.out | apply zG | apply zH | apply zI | refine zL ?_ GE150.out) | exact HB.out)⟩⟩
  ·rw [if_neg c6] at H
   have c6b0 : decide (a1 < 0) = false := decide_eq_false c6
   clear c6
   (first | rw [c6b0] | (simp only [i64_w, i32_w]; rw [c6b0]) | skip)
   by_cases c7 : a1 > (l0.length : Int)
   ·rw [if_pos c7] at H
    have c7b0 : decide ((l0.length : Int) < a1) = true := decide_eq_true c7
    clear c7
    have H' := zK H
    clear H
    go_wp2
    go_meet
    case rel => exact ⟨_, (true), zz, H', ⟨by first | omega | exact Nat.le_refl _⟩, ⟨by (with_reducible repeat (first | refine zD ?_ _ | refine zE ?_ | refine zF ?_ _)); exact BK150.out⟩, ⟨by repeat (first | (with_reducible first | exact HB.out | apply zG | apply zH | apply zI | refine zL ?_ GE150.out) | exact HB.out)⟩⟩
   ·rw [if_neg c7] at H
    have c7b0 : decide ((l0.length : Int) < a1) = false := decide_eq_false c7
    clear c7
    have H' := zK H
    clear H
    go_wp2
    go_meet
    case rel => exact ⟨_, (decide ((l0.length : Int) > 32)), zz, H', ⟨by first | omega | exact Nat.le_refl _⟩, ⟨by (with_reducible repeat (first | refine zD ?_ _ | refine zE ?_ | refine zF ?_ _)); exact BK150.out⟩, ⟨by repeat (first | (with_reducible first | exact HB.out | apply zG | apply zH | apply zI | refine zL ?_ GE150.out) | exact HB.out)⟩⟩
 case rest =>
  clear HC4
  try clear p2
  try clear c6
  try clear c6b0
  try clear c7
  try clear c7b0
  obtain ⟨kq, x35_3, rfl, HA, HJ3, BK150, HB⟩ := hcut
  cases kq with
  | zero => exact absurd HA.out (by simp [tollbarlaw17_TreeOrders.j0])
  | succ kj3 =>
   have H := HA.out
   clear HA
   simp only [tollbarlaw17_TreeOrders.j0] at H
   by_cases c8 : x35_3 = true
   ·subst c8
    have H1 : (some true) = some r := by rw [if_pos rfl] at H; exact H
    clear H
    have H := H1
    clear H1
    obtain rfl := Option.some.inj H
    go_wp2
    go_ret
    exact ⟨ze, zl HB.out⟩
   ·replace c8 := Bool.eq_false_iff.mpr c8
    subst c8
    have H1 : ((tree_New.f).bind fun bt151 => ((tree_New.f).bind fun bt158 => ((some (([] : List (S50)) : List (S50))).bind fun y167 => (if 0 ≤ a1 then (if a1 ≤ (l0.length : Int) then ((some (l0.drop (a1 : Int).toNat : List (S50))).bind fun y170 => (if y167.length + y170.length < 5864062014805 then ((some (y167 ++ y170 : List (S50))).bind fun y174 => ((some (l0.take (a1 : Int).toNat : List (S50))).bind fun y177 => (if y174.length + y177.length < 5864062014805 then (tollbarlaw17_TreeOrders.l0 kj3 l0 (y174 ++ y177) 0 a2_0 a2_1 bt151.1 bt151.2.1 bt151.2.2 bt158.1 bt158.2.1 bt158.2.2) else (none)))) else (none))) else (none)) else (none))))) = some r := by rw [if_neg (show ¬ (false = true) by decide)] at H; exact H
    clear H
    have H := H1
    clear H1
    replace H := yH.mp H
    obtain ⟨⟨t151, t154, t155⟩, A90, H⟩ := H
    replace H : ((tree_New.f).bind fun bt158 => ((some (([] : List (S50)) : List (S50))).bind fun y167 => (if 0 ≤ a1 then (if a1 ≤ (l0.length : Int) then ((some (l0.drop (a1 : Int).toNat : List (S50))).bind fun y170 => (if y167.length + y170.length < 5864062014805 then ((some (y167 ++ y170 : List (S50))).bind fun y174 => ((some (l0.take (a1 : Int).toNat : List (S50))).bind fun y177 => (if y174.length + y177.length < 5864062014805 then (tollbarlaw17_TreeOrders.l0 kj3 l0 (y174 ++ y177) 0 a2_0 a2_1 t151 t154 t155 bt158.1 bt158.2.1 bt158.2.2) else (none)))) else (none))) else (none)) else (none)))) = some r := H
    have A9 := zK A90
    clear A90
    replace H := yH.mp H
    obtain ⟨⟨t158, t161, t162⟩, A100, H⟩ := H
    replace H : ((some (([] : List (S50)) : List (S50))).bind fun y167 => (if 0 ≤ a1 then (if a1 ≤ (l0.length : Int) then ((some (l0.drop (a1 : Int).toNat : List (S50))).bind fun y170 => (if y167.length + y170.length < 5864062014805 then ((some (y167 ++ y170 : List (S50))).bind fun y174 => ((some (l0.take (a1 : Int).toNat : List (S50))).bind fun y177 => (if y174.length + y177.length < 5864062014805 then (tollbarlaw17_TreeOrders.l0 kj3 l0 (y174 ++ y177) 0 a2_0 a2_1 t151 t154 t155 t158 t161 t162) else (none)))) else (none))) else (none)) else (none))) = some r := H
    have A10 := zK A100
    clear A100
    obtain ⟨y167, hy167⟩ : ∃ y_ : List (S50), y_ = (([] : List (S50))) := ⟨_, rfl⟩
    replace H : (if 0 ≤ a1 then (if a1 ≤ (l0.length : Int) then ((some (l0.drop (a1 : Int).toNat : List (S50))).bind fun y170 => (if y167.length + y170.length < 5864062014805 then ((some (y167 ++ y170 : List (S50))).bind fun y174 => ((some (l0.take (a1 : Int).toNat : List (S50))).bind fun y177 => (if y174.length + y177.length < 5864062014805 then (tollbarlaw17_TreeOrders.l0 kj3 l0 (y174 ++ y177) 0 a2_0 a2_1 t151 t154 t155 t158 t161 t162) else (none)))) else (none))) else (none)) else (none)) = some r := by first | (rw [hy167]; with_reducible exact H) | (have H2_ := (Option.bind_some _ _).symm.trans H; rw [hy167]; with_reducible exact H2_) | (have H2_ := (Option.bind_some _ _).symm.trans H; with_reducible exact H2_) | with_reducible exact H | (rw [hy167]; exact H) | exact H
    have Ny167 := zK hy167
    clear hy167
    by_cases c11 : 0 ≤ a1
    ·rw [if_pos c11] at H
     have c11b0 := eq_true c11
     have c11b1 : decide (0 ≤ a1) = true := decide_eq_true c11
     clear c11
     by_cases c12 : a1 ≤ (l0.length : Int)
     ·rw [if_pos c12] at H
      have c12b0 := eq_true c12
      have c12b1 : decide (a1 ≤ (l0.length : Int)) = true := decide_eq_true c12
      clear c12
      obtain ⟨y170, hy170⟩ : ∃ y_ : List (S50), y_ = (l0.drop (a1 : Int).toNat) := ⟨_, rfl⟩
      replace H : (if y167.length + y170.length < 5864062014805 then ((some (y167 ++ y170 : List (S50))).bind fun y174 => ((some (l0.take (a1 : Int).toNat : List (S50))).bind fun y177 => (if y174.length + y177.length < 5864062014805 then (tollbarlaw17_TreeOrders.l0 kj3 l0 (y174 ++ y177) 0 a2_0 a2_1 t151 t154 t155 t158 t161 t162) else (none)))) else (none)) = some r := by first | (rw [hy170]; with_reducible exact H) | (have H2_ := (Option.bind_some _ _).symm.trans H; rw [hy170]; with_reducible exact H2_) | (have H2_ := (Option.bind_some _ _).symm.trans H; with_reducible exact H2_) | with_reducible exact H | (rw [hy170]; exact H) | exact H
      have Ny170 := zK hy170
      clear hy170
      by_cases c13 : y167.length + y170.length < 5864062014805
      ·rw [if_pos c13] at H
       have LMc13 := zK c13
       clear c13
       obtain ⟨y174, hy174⟩ : ∃ y_ : List (S50), y_ = (y167 ++ y170) := ⟨_, rfl⟩
       replace H : ((some (l0.take (a1 : Int).toNat : List (S50))).bind fun y177 => (if y174.length + y177.length < 5864062014805 then (tollbarlaw17_TreeOrders.l0 kj3 l0 (y174 ++ y177) 0 a2_0 a2_1 t151 t154 t155 t158 t161 t162) else (none))) = some r := by first | (rw [hy174]; with_reducible exact H) | (have H2_ := (Option.bind_some _ _).symm.trans H; rw [hy174]; with_reducible exact H2_) | (have H2_ := (Option.bind_some _ _).symm.trans H; with_reducible exact H2_) | with_reducible exact H | (rw [hy174]; exact H) | exact H
       have Ny174 := zK hy174
       clear hy174
       have c14b0 := eq_true (of_decide_eq_true (by first | (with_reducible assumption) | assumption) : 0 ≤ a1)
       have c15b0 := eq_true (of_decide_eq_true (by first | (with_reducible assumption) | assumption) : a1 ≤ (l0.length : Int))
       obtain ⟨y177, hy177⟩ : ∃ y_ : List (S50), y_ = (l0.take (a1 : Int).toNat) := ⟨_, rfl⟩
       replace H : (if y174.length + y177.length < 5864062014805 then (tollbarlaw17_TreeOrders.l0 kj3 l0 (y174 ++ y177) 0 a2_0 a2_1 t151 t154 t155 t158 t161 t162) else (none)) = some r := by first | (rw [hy177]; with_reducible exact H) | (have H2_ := (Option.bind_some _ _).symm.trans H; rw [hy177]; with_reducible exact H2_) | (have H2_ := (Option.bind_some _ _).symm.trans H; with_reducible exact H2_) | with_reducible exact H | (rw [hy177]; exact H) | exact H
       have Ny177 := zK hy177
       clear hy177
       by_cases c16 : y174.length + y177.length < 5864062014805
       ·rw [if_pos c16] at H
        have LMc16 := zK c16
        clear c16
        obtain ⟨y181, hy181⟩ : ∃ y_ : List (S50), y_ = (y174 ++ y177) := ⟨_, rfl⟩
        replace H : (tollbarlaw17_TreeOrders.l0 kj3 l0 y181 0 a2_0 a2_1 t151 t154 t155 t158 t161 t162) = some r := by first | (rw [hy181]; with_reducible exact H) | (have H2_ := (Option.bind_some _ _).symm.trans H; rw [hy181]; with_reducible exact H2_) | (have H2_ := (Option.bind_some _ _).symm.trans H; with_reducible exact H2_) | with_reducible exact H | (rw [hy181]; exact H) | exact H
        have Ny181 := zK hy181
        clear hy181
        have H' := zK H
        clear H
        try go_wp2_with (first | ((with_reducible refine gate_callee (f := 33) rfl ?_); refine goesL_ (some 36) rfl rfl Try.func33 (by kernel_rfl) rfl #[] rfl zt ?_; (with_reducible refine (tree_New.calls  t151 t154 t155 _ A9.out).mono ?_); rintro e w17 ⟨v152, v156, rfl, ho0, ho1, hb⟩; refine ⟨_, rfl, ?_⟩; have n0_ := zK (zV ho0 (yG (zl HB.out))); have n1_ := zK (zV ho1 (yG (zl HB.out))); have n2_ := zK (zP (g := gb150) (o := .cells #[.int .i64 a2_0, .int .i64 a2_1] 27 (0, 0)) (zb BK150.out) hb); have n3_ := zK (yF (zl HB.out) hb); clear BK150; clear HB; have HO153 := n0_; have HO157 := n1_; have BK150 := n2_; have HB := n3_; clear n0_ n1_ n2_ n3_; (try clear hb); (try clear hb2); (try clear hk); (try clear hi); (try clear ho0); (try clear ho1)) | ((with_reducible refine gate_callee (f := 33) rfl ?_); refine goesL_ (some 37) rfl rfl Try.func33 (by kernel_rfl) rfl #[] rfl zt ?_; (with_reducible refine (tree_New.calls  t158 t161 t162 _ A10.out).mono ?_); rintro e w18 ⟨v159, v163, rfl, ho0, ho1, hb⟩; refine ⟨_, rfl, ?_⟩; have n0_ := zK (yC (zr HO153.out) (Kd.R_base ho0) hb); have n1_ := zK (yC (zr HO157.out) (Kd.R_base ho1) hb); have n2_ := zK (zV (zW ho0 (yB (zr HO153.out))) (yG (zl HB.out))); have n3_ := zK (zV (zW ho1 (yB (zr HO157.out))) (yG (zl HB.out))); have n4_ := zK (zP (g := gb150) (o := .cells #[.int .i64 a2_0, .int .i64 a2_1] 27 (0, 0)) (zb BK150.out) hb); have n5_ := zK (yF (zl HB.out) hb); clear HO153; clear HO157; clear BK150; clear HB; have HO153 := n0_; have HO157 := n1_; have HO160 := n2_; have HO164 := n3_; have BK150 := n4_; have HB := n5_; clear n0_ n1_ n2_ n3_ n4_ n5_; (try clear hb); (try clear hb2); (try clear hk); (try clear hi); (try clear ho0); (try clear ho1)) | ((with_reducible refine gate_dst (N := 7) rfl ?_); (try (refine gate_guard (by rfl) ?_; dsimp only)); refine box_event ?hg (N := 7) ?hd (cs := #[.slice none 0 0, .int .i64 0, .slice none 0 0]) (t := 25) ?hr ?_; (case hd => rfl); (case hg => rfl); (case hr => first | (go_simp; done) | (go_simp; rfl)); intro gb165 hg w19 hbox hb; have n0_ := zK (zO (zr HO153.out) hb); have n1_ := zK (zO (zr HO157.out) hb); have n2_ := zK (zO (zr HO160.out) hb); have n3_ := zK (zO (zr HO164.out) hb); have n4_ := zK (zP (g := gb150) (o := .cells #[.int .i64 a2_0, .int .i64 a2_1] 27 (0, 0)) (zb BK150.out) hb); have n5_ := zK (yF (zl HB.out) hb); have n6_ := zK (hbox); have n7_ := zK ((by rw [hg]; exact (yG (zl HB.out)) : w.heap.size ≤ gb165)); have n8_ := zK ((by rw [hg]; exact (yG (zl HB.out)) : w.heap.size ≤ gb165)); have n9_ := zK ((by rw [hg]; exact zN (blk_lt (g := gb150) (o := .cells #[.int .i64 a2_0, .int .i64 a2_1] 27 (0, 0)) (zb BK150.out)) : gb150 ≠ gb165)); have n10_ := zK ((by rw [hg]; exact Nat.ne_of_gt (blk_lt (g := gb150) (o := .cells #[.int .i64 a2_0, .int .i64 a2_1] 27 (0, 0)) (zb BK150.out)) : gb165 ≠ gb150)); clear HO153; clear HO157; clear HO160; clear HO164; clear BK150; clear HB; have HO153 := n0_; have HO157 := n1_; have HO160 := n2_; have HO164 := n3_; have BK150 := n4_; have HB := n5_; have BK165 := n6_; have GW165 := n7_; have GE165 := n8_; have NB150_165 := n9_; have NB165_150 := n10_; clear n0_ n1_ n2_ n3_ n4_ n5_ n6_ n7_ n8_ n9_ n10_; clear hb hbox hg) | ((with_reducible refine gate_dst (N := 8) rfl ?_); (try (refine gate_guard (by rfl) ?_; dsimp only)); refine box_event ?hg (N := 8) ?hd (cs := #[.slice none 0 0, .int .i64 0, .slice none 0 0]) (t := 25) ?hr ?_; (case hd => rfl); (case hg => rfl); (case hr => first | (go_simp; done) | (go_simp; rfl)); intro gb166 hg w20 hbox hb; have n0_ := zK (zO (zr HO153.out) hb); have n1_ := zK (zO (zr HO157.out) hb); have n2_ := zK (zO (zr HO160.out) hb); have n3_ := zK (zO (zr HO164.out) hb); have n4_ := zK (zP (g := gb150) (o := .cells #[.int .i64 a2_0, .int .i64 a2_1] 27 (0, 0)) (zb BK150.out) hb); have n5_ := zK (zP (g := gb165) (o := .cells #[.slice none 0 0, .int .i64 0, .slice none 0 0] 25 (0, 0)) (zb BK165.out) hb); have n6_ := zK (yF (zl HB.out) hb); have n7_ := zK (hbox); have n8_ := zK ((by rw [hg]; exact (yG (zl HB.out)) : w.heap.size ≤ gb166)); have n9_ := zK ((by rw [hg]; exact (yG (zl HB.out)) : w.heap.size ≤ gb166)); have n10_ := zK ((by rw [hg]; exact zN (blk_lt (g := gb150) (o := .cells #[.int .i64 a2_0, .int .i64 a2_1] 27 (0, 0)) (zb BK150.out)) : gb150 ≠ gb166)); have n11_ := zK ((by rw [hg]; exact Nat.ne_of_gt (blk_lt (g := gb150) (o := .cells #[.int .i64 a2_0, .int .i64 a2_1] 27 (0, 0)) (zb BK150.out)) : gb166 ≠ gb150)); have n12_ := zK ((by rw [hg]; exact zN (blk_lt (g := gb165) (o := .cells #[.slice none 0 0, .int .i64 0, .slice none 0 0] 25 (0, 0)) (zb BK165.out)) : gb165 ≠ gb166)); have n13_ := zK ((by rw [hg]; exact Nat.ne_of_gt (blk_lt (g := gb165) (o := .cells #[.slice none 0 0, .int .i64 0, .slice none 0 0] 25 (0, 0)) (zb BK165.out)) : gb166 ≠ gb165)); clear HO153; clear HO157; clear HO160; clear HO164; clear BK150; clear BK165; clear HB; have HO153 := n0_; have HO157 := n1_; have HO160 := n2_; have HO164 := n3_; have BK150 := n4_; have BK165 := n5_; have HB := n6_; have BK166 := n7_; have GW166 := n8_; have GE166 := n9_; have NB150_166 := n10_; have NB166_150 := n11_; have NB165_166 := n12_; have NB166_165 := n13_; clear n0_ n1_ n2_ n3_ n4_ n5_ n6_ n7_ n8_ n9_ n10_ n11_ n12_ n13_; clear hb hbox hg; obtain ⟨Ao21, co21, eo21⟩ := yE HO153.out; subst eo21; have hnb22 := NB165_150.out; have hnc22 := NB150_165.out; have hnb23 := NB165_166.out; have hnc23 := NB166_165.out; have hcz24_0 : w20.cell? ⟨gb165, 0, none⟩ = some (.slice none 0 0) := (zQ BK165.out 0).trans rfl; have hcz24_1 : w20.cell? ⟨gb165, 1, none⟩ = some (.int .i64 0) := (zQ BK165.out 1).trans rfl; have hcz24_2 : w20.cell? ⟨gb165, 2, none⟩ = some (.slice none 0 0) := (zQ BK165.out 2).trans rfl; have hfz24_0 := zR BK165.out 0; have hfz24_1 := zR BK165.out 1; have hfz24_2 := zR BK165.out 2; obtain ⟨Ao25, co25, eo25⟩ := yE HO157.out; subst eo25; obtain ⟨Ao26, co26, eo26⟩ := yE HO160.out; subst eo26; have hnb27 := NB166_150.out; have hnc27 := NB150_166.out; have hcz28_0 : w20.cell? ⟨gb166, 0, none⟩ = some (.slice none 0 0) := (zQ BK166.out 0).trans rfl; have hcz28_1 : w20.cell? ⟨gb166, 1, none⟩ = some (.int .i64 0) := (zQ BK166.out 1).trans rfl; have hcz28_2 : w20.cell? ⟨gb166, 2, none⟩ = some (.slice none 0 0) := (zQ BK166.out 2).trans rfl; have hfz28_0 := zR BK166.out 0; have hfz28_1 := zR BK166.out 1; have hfz28_2 := zR BK166.out 2; obtain ⟨Ao29, co29, eo29⟩ := yE HO164.out; subst eo29))
        have n0_ : Aside0 (Kd.R k64 64 ((((((w20.setCell ⟨gb165, 0, none⟩ (.slice Ao21 t151.length co21)).setCell ⟨gb165, 1, none⟩ (.int .i64 t154)).setCell ⟨gb165, 2, none⟩ (.slice Ao25 t155.length co25)).setCell ⟨gb166, 0, none⟩ (.slice Ao26 t158.length co26)).setCell ⟨gb166, 1, none⟩ (.int .i64 t161)).setCell ⟨gb166, 2, none⟩ (.slice Ao29 t162.length co29)) w.heap.size (fun _ => True) (.slice Ao21 t151.length co21) t151) := ⟨by (with_reducible repeat (first | apply zA | apply zB | apply zC)); exact Kd.R_mono (Kd.R_far (p := ⟨gb166, 2, none⟩) (Kd.R_far (p := ⟨gb166, 1, none⟩) (Kd.R_far (p := ⟨gb166, 0, none⟩) (Kd.R_far (p := ⟨gb165, 2, none⟩) (Kd.R_far (p := ⟨gb165, 1, none⟩) (Kd.R_far (p := ⟨gb165, 0, none⟩) (Kd.R_types (Kd.R_types HO153.out BK165.out (by decide)) BK166.out (by decide)) (fun _ hk => hk.1.2) (.slice Ao21 t151.length co21)) (fun _ hk => hk.1.2) (.int .i64 t154)) (fun _ hk => hk.1.2) (.slice Ao25 t155.length co25)) (fun _ hk => hk.2) (.slice Ao26 t158.length co26)) (fun _ hk => hk.2) (.int .i64 t161)) (fun _ hk => hk.2) (.slice Ao29 t162.length co29)) (fun _ _ => by trivial)⟩
        have n1_ : Aside0 (Kd.R (Kd.int .i64) 3 ((((((w20.setCell ⟨gb165, 0, none⟩ (.slice Ao21 t151.length co21)).setCell ⟨gb165, 1, none⟩ (.int .i64 t154)).setCell ⟨gb165, 2, none⟩ (.slice Ao25 t155.length co25)).setCell ⟨gb166, 0, none⟩ (.slice Ao26 t158.length co26)).setCell ⟨gb166, 1, none⟩ (.int .i64 t161)).setCell ⟨gb166, 2, none⟩ (.slice Ao29 t162.length co29)) w.heap.size (fun _ => True) (.slice Ao25 t155.length co25) t155) := ⟨by (with_reducible repeat (first | apply zA | apply zB | apply zC)); exact Kd.R_mono (Kd.R_far (p := ⟨gb166, 2, none⟩) (Kd.R_far (p := ⟨gb166, 1, none⟩) (Kd.R_far (p := ⟨gb166, 0, none⟩) (Kd.R_far (p := ⟨gb165, 2, none⟩) (Kd.R_far (p := ⟨gb165, 1, none⟩) (Kd.R_far (p := ⟨gb165, 0, none⟩) (Kd.R_types (Kd.R_types HO157.out BK165.out (by decide)) BK166.out (by decide)) (fun _ hk => hk.1.2) (.slice Ao21 t151.length co21)) (fun _ hk => hk.1.2) (.int .i64 t154)) (fun _ hk => hk.1.2) (.slice Ao25 t155.length co25)) (fun _ hk => hk.2) (.slice Ao26 t158.length co26)) (fun _ hk => hk.2) (.int .i64 t161)) (fun _ hk => hk.2) (.slice Ao29 t162.length co29)) (fun _ _ => by trivial)⟩
        have n2_ : Aside0 (Kd.R k64 64 ((((((w20.setCell ⟨gb165, 0, none⟩ (.slice Ao21 t151.length co21)).setCell ⟨gb165, 1, none⟩ (.int .i64 t154)).setCell ⟨gb165, 2, none⟩ (.slice Ao25 t155.length co25)).setCell ⟨gb166, 0, none⟩ (.slice Ao26 t158.length co26)).setCell ⟨gb166, 1, none⟩ (.int .i64 t161)).setCell ⟨gb166, 2, none⟩ (.slice Ao29 t162.length co29)) w.heap.size (fun _ => True) (.slice Ao26 t158.length co26) t158) := ⟨by (with_reducible repeat (first | apply zA | apply zB | apply zC)); exact Kd.R_mono (Kd.R_far (p := ⟨gb166, 2, none⟩) (Kd.R_far (p := ⟨gb166, 1, none⟩) (Kd.R_far (p := ⟨gb166, 0, none⟩) (Kd.R_far (p := ⟨gb165, 2, none⟩) (Kd.R_far (p := ⟨gb165, 1, none⟩) (Kd.R_far (p := ⟨gb165, 0, none⟩) (Kd.R_types (Kd.R_types HO160.out BK165.out (by decide)) BK166.out (by decide)) (fun _ hk => hk.1.2) (.slice Ao21 t151.length co21)) (fun _ hk => hk.1.2) (.int .i64 t154)) (fun _ hk => hk.1.2) (.slice Ao25 t155.length co25)) (fun _ hk => hk.2) (.slice Ao26 t158.length co26)) (fun _ hk => hk.2) (.int .i64 t161)) (fun _ hk => hk.2) (.slice Ao29 t162.length co29)) (fun _ _ => by trivial)⟩
        have n3_ : Aside0 (Kd.R (Kd.int .i64) 3 ((((((w20.setCell ⟨gb165, 0, none⟩ (.slice Ao21 t151.length co21)).setCell ⟨gb165, 1, none⟩ (.int .i64 t154)).setCell ⟨gb165, 2, none⟩ (.slice Ao25 t155.length co25)).setCell ⟨gb166, 0, none⟩ (.slice Ao26 t158.length co26)).setCell ⟨gb166, 1, none⟩ (.int .i64 t161)).setCell ⟨gb166, 2, none⟩ (.slice Ao29 t162.length co29)) w.heap.size (fun _ => True) (.slice Ao29 t162.length co29) t162) := ⟨by (with_reducible repeat (first | apply zA | apply zB | apply zC)); exact Kd.R_mono (Kd.R_far (p := ⟨gb166, 2, none⟩) (Kd.R_far (p := ⟨gb166, 1, none⟩) (Kd.R_far (p := ⟨gb166, 0, none⟩) (Kd.R_far (p := ⟨gb165, 2, none⟩) (Kd.R_far (p := ⟨gb165, 1, none⟩) (Kd.R_far (p := ⟨gb165, 0, none⟩) (Kd.R_types (Kd.R_types HO164.out BK165.out (by decide)) BK166.out (by decide)) (fun _ hk => hk.1.2) (.slice Ao21 t151.length co21)) (fun _ hk => hk.1.2) (.int .i64 t154)) (fun _ hk => hk.1.2) (.slice Ao25 t155.length co25)) (fun _ hk => hk.2) (.slice Ao26 t158.length co26)) (fun _ hk => hk.2) (.int .i64 t161)) (fun _ hk => hk.2) (.slice Ao29 t162.length co29)) (fun _ _ => by trivial)⟩
        have n4_ : Aside0 (((((((w20.setCell ⟨gb165, 0, none⟩ (.slice Ao21 t151.length co21)).setCell ⟨gb165, 1, none⟩ (.int .i64 t154)).setCell ⟨gb165, 2, none⟩ (.slice Ao25 t155.length co25)).setCell ⟨gb166, 0, none⟩ (.slice Ao26 t158.length co26)).setCell ⟨gb166, 1, none⟩ (.int .i64 t161)).setCell ⟨gb166, 2, none⟩ (.slice Ao29 t162.length co29)).heap[gb150]? = some (.cells #[.int .i64 a2_0, .int .i64 a2_1] 27 (0, 0))) := ⟨by (with_reducible repeat (first | refine zD ?_ _ | refine zE ?_ | refine zF ?_ _)); refine blk_far ?_ NB150_166.out _; (with_reducible repeat (first | refine zD ?_ _ | refine zE ?_ | refine zF ?_ _)); refine blk_far ?_ NB150_166.out _; (with_reducible repeat (first | refine zD ?_ _ | refine zE ?_ | refine zF ?_ _)); refine blk_far ?_ NB150_166.out _; (with_reducible repeat (first | refine zD ?_ _ | refine zE ?_ | refine zF ?_ _)); refine blk_far ?_ NB150_165.out _; (with_reducible repeat (first | refine zD ?_ _ | refine zE ?_ | refine zF ?_ _)); refine blk_far ?_ NB150_165.out _; (with_reducible repeat (first | refine zD ?_ _ | refine zE ?_ | refine zF ?_ _)); refine blk_far ?_ NB150_165.out _; (with_reducible repeat (first | refine zD ?_ _ | refine zE ?_ | refine zF ?_ _)); exact BK150.out⟩
        have n5_ : Aside0 (((((((w20.setCell ⟨gb165, 0, none⟩ (.slice Ao21 t151.length co21)).setCell ⟨gb165, 1, none⟩ (.int .i64 t154)).setCell ⟨gb165, 2, none⟩ (.slice Ao25 t155.length co25)).setCell ⟨gb166, 0, none⟩ (.slice Ao26 t158.length co26)).setCell ⟨gb166, 1, none⟩ (.int .i64 t161)).setCell ⟨gb166, 2, none⟩ (.slice Ao29 t162.length co29)).heap[gb165]? = some (.cells #[.slice Ao21 t151.length co21, .int .i64 t154, .slice Ao25 t155.length co25] 25 (0, 0))) := ⟨by (with_reducible repeat (first | refine zD ?_ _ | refine zE ?_ | refine zF ?_ _)); refine blk_far ?_ NB165_166.out _; (with_reducible repeat (first | refine zD ?_ _ | refine zE ?_ | refine zF ?_ _)); refine blk_far ?_ NB165_166.out _; (with_reducible repeat (first | refine zD ?_ _ | refine zE ?_ | refine zF ?_ _)); refine blk_far ?_ NB165_166.out _; (with_reducible repeat (first | refine zD ?_ _ | refine zE ?_ | refine zF ?_ _)); refine blk_put (cs := #[.slice Ao21 t151.length co21, .int .i64 t154, .slice none 0 0]) ?_ 2 _ rfl; (with_reducible repeat (first | refine zD ?_ _ | refine zE ?_ | refine zF ?_ _)); refine blk_put (cs := #[.slice Ao21 t151.length co21, .int .i64 0, .slice none 0 0]) ?_ 1 _ rfl; (with_reducible repeat (first | refine zD ?_ _ | refine zE ?_ | refine zF ?_ _)); refine blk_put (cs := #[.slice none 0 0, .int .i64 0, .slice none 0 0]) ?_ 0 _ rfl; (with_reducible repeat (first | refine zD ?_ _ | refine zE ?_ | refine zF ?_ _)); exact BK165.out⟩
        have n6_ : Aside0 (((((((w20.setCell ⟨gb165, 0, none⟩ (.slice Ao21 t151.length co21)).setCell ⟨gb165, 1, none⟩ (.int .i64 t154)).setCell ⟨gb165, 2, none⟩ (.slice Ao25 t155.length co25)).setCell ⟨gb166, 0, none⟩ (.slice Ao26 t158.length co26)).setCell ⟨gb166, 1, none⟩ (.int .i64 t161)).setCell ⟨gb166, 2, none⟩ (.slice Ao29 t162.length co29)).heap[gb166]? = some (.cells #[.slice Ao26 t158.length co26, .int .i64 t161, .slice Ao29 t162.length co29] 25 (0, 0))) := ⟨by (with_reducible repeat (first | refine zD ?_ _ | refine zE ?_ | refine zF ?_ _)); refine blk_put (cs := #[.slice Ao26 t158.length co26, .int .i64 t161, .slice none 0 0]) ?_ 2 _ rfl; (with_reducible repeat (first | refine zD ?_ _ | refine zE ?_ | refine zF ?_ _)); refine blk_put (cs := #[.slice Ao26 t158.length co26, .int .i64 0, .slice none 0 0]) ?_ 1 _ rfl; (with_reducible repeat (first | refine zD ?_ _ | refine zE ?_ | refine zF ?_ _)); refine blk_put (cs := #[.slice none 0 0, .int .i64 0, .slice none 0 0]) ?_ 0 _ rfl; (with_reducible repeat (first | refine zD ?_ _ | refine zE ?_ | refine zF ?_ _)); refine blk_far ?_ NB166_165.out _; (with_reducible repeat (first | refine zD ?_ _ | refine zE ?_ | refine zF ?_ _)); refine blk_far ?_ NB166_165.out _; (with_reducible repeat (first | refine zD ?_ _ | refine zE ?_ | refine zF ?_ _)); refine blk_far ?_ NB166_165.out _; (with_reducible repeat (first | refine zD ?_ _ | refine zE ?_ | refine zF ?_ _)); exact BK166.out⟩
        have n7_ : Aside0 (Below w.heap.size w ((((((w20.setCell ⟨gb165, 0, none⟩ (.slice Ao21 t151.length co21)).setCell ⟨gb165, 1, none⟩ (.int .i64 t154)).setCell ⟨gb165, 2, none⟩ (.slice Ao25 t155.length co25)).setCell ⟨gb166, 0, none⟩ (.slice Ao26 t158.length co26)).setCell ⟨gb166, 1, none⟩ (.int .i64 t161)).setCell ⟨gb166, 2, none⟩ (.slice Ao29 t162.length co29))) := ⟨by repeat (first | (with_reducible first | exact HB.out | apply zG | apply zH | apply zI | refine zL ?_ GE150.out | refine zL ?_ GE165.out | refine zL ?_ GE166.out) | exact HB.out)⟩
        (try clear HO153)
        (try clear HO157)
        (try clear HO160)
        (try clear HO164)
        (try clear BK150)
        (try clear BK165)
        (try clear BK166)
        (try clear HB)
        generalize ((((((w20.setCell ⟨gb165, 0, none⟩ (.slice Ao21 t151.length co21)).setCell ⟨gb165, 1, none⟩ (.int .i64 t154)).setCell ⟨gb165, 2, none⟩ (.slice Ao25 t155.length co25)).setCell ⟨gb166, 0, none⟩ (.slice Ao26 t158.length co26)).setCell ⟨gb166, 1, none⟩ (.int .i64 t161)).setCell ⟨gb166, 2, none⟩ (.slice Ao29 t162.length co29)) = w30 at n0_ n1_ n2_ n3_ n4_ n5_ n6_ n7_ ⊢
        have HO153 := n0_
        have HO157 := n1_
        have HO160 := n2_
        have HO164 := n3_
        have BK150 := n4_
        have BK165 := n5_
        have BK166 := n6_
        have HB := n7_
        clear n0_ n1_ n2_ n3_ n4_ n5_ n6_ n7_
        have n0_ := zK (zC HO153.out)
        have n1_ := zK (zC HO157.out)
        have n2_ := zK (zC HO160.out)
        have n3_ := zK (zC HO164.out)
        have n4_ := zK (zE BK150.out)
        have n5_ := zK (zE BK165.out)
        have n6_ := zK (zE BK166.out)
        have n7_ := zK (zI HB.out)
        clear HO153
        clear HO157
        clear HO160
        clear HO164
        clear BK150
        clear BK165
        clear BK166
        clear HB
        have HO153 := n0_
        have HO157 := n1_
        have HO160 := n2_
        have HO164 := n3_
        have BK150 := n4_
        have BK165 := n5_
        have BK166 := n6_
        have HB := n7_
        clear n0_ n1_ n2_ n3_ n4_ n5_ n6_ n7_
        have q32 : (a1 : Int) ≤ ((l0.length : Int) : Int) := of_decide_eq_true (by first | (with_reducible assumption) | assumption)
        obtain ⟨i032, hi032, _, hsz32, _⟩ := info_parts info50
        have hroom32 : l0.length ≤ c0 := HC0.out
        have hC32 : Kd.C k50 _ A0 l0.length l0 := HR0.out
        have q032 : (0 : Int) ≤ (a1 : Int) := of_decide_eq_true (by first | (with_reducible assumption) | assumption)
        have hcut32 := cut_from (P := Try.prog) 29 50 .i64 Try.underlying29 hi032 3 hsz32 A0 l0.length c0 a1 q032 q32
        have hr32 := Kd.C_drop (m := (a1 : Int).toNat) (c := c0) hC32 (by omega) hroom32
        obtain ⟨A32, hA32⟩ : ∃ A1, A1 = (if c0 = (a1 : Int).toNat then A0 else (A0 : Option Addr).map (·.add ((a1 : Int).toNat * 3))) := ⟨_, rfl⟩
        obtain ⟨c32, hc32⟩ : ∃ c1, c1 = c0 - (a1 : Int).toNat := ⟨_, rfl⟩
        have hy32 : y170.length = l0.length - (a1 : Int).toNat := (by rw [Ny170.out, List.length_drop] <;> omega)
        rw [show (l0).drop (a1 : Int).toNat = y170 from Ny170.out.symm] at hr32
        replace hr32 : Kd.C k50 _ A32 y170.length y170 := (by rw [hA32]; exact hr32)
        rw [← hy32, ← hA32, ← hc32] at hcut32
        have HR173 := zK hr32
        have HC173 := zK (show y170.length ≤ c32 from by rw [hy32, hc32]; exact Nat.sub_le_sub_right hroom32 _)
        clear hr32 hC32 hroom32 hi032 hsz32 hc32
        have KY32 := zK hy32
        have KA32 := zK hA32
        clear hy32 hA32
        replace q32 := eq_true q32
        have q33 : (a1 : Int) ≤ ((l0.length : Int) : Int) := of_decide_eq_true (by first | (with_reducible assumption) | assumption)
        obtain ⟨i033, hi033, _, hsz33, _⟩ := info_parts info50
        have hroom33 : l0.length ≤ c0 := HC0.out
        have hC33 : Kd.C k50 _ A0 l0.length l0 := HR0.out
        have hcut33 := cut_to (P := Try.prog) 29 50 .i64 Try.underlying29 hi033 A0 l0.length c0 a1 (of_decide_eq_true (by first | (with_reducible assumption) | assumption)) q33 hroom33
        have hr33 := Kd.C_take (m := (a1 : Int).toNat) hC33 (by omega)
        have hy33 : y177.length = (a1 : Int).toNat := (by rw [Ny177.out, List.length_take]; omega)
        rw [← Ny177.out] at hr33
        rw [← hy33] at hcut33
        have HR180 := zK hr33
        have HC180 := zK (show y177.length ≤ c0 from by omega)
        clear hr33 hC33 hroom33 hi033 hsz33
        have KY33 := zK hy33
        clear hy33
        replace q33 := eq_true q33
        refine start_ (n := 10) (S := fun w' => True) (ds := []) #[false, false, false, false, false, false, false, false, false, false] (by kernel_rfl) rfl rfl trivial (fun hHeld => ?_); refine with_tabW tollbarlaw17_TreeOrders.tab4 tollbarlaw17_TreeOrders.bits4 (fun HT_ HW_ => ?_)
        generalize w30.drew = w31 at HO153 HO157 HO160 HO164 BK150 BK165 BK166 HB HR173 HR180 hHeld ⊢
        refine pure_ (i := 1) (N := some 39) (v := ?_) (a' := ?_) #[false, true, false, false, false, false, false, false, false, false] rfl rfl (any_of HT_.out (by kernel_rfl)) (fun _ _ _ h => h) (Or.inl ⟨by rfl, ?_⟩) ?_ ?_
        rotate_left
        ·intro w'
         go_simp
         with_reducible rfl
        rotate_left
        ·simp only [Act.put, zY, zZ, yA, i64_w, i32_w]
         rfl
        refine pure_ (i := 2) (N := some 40) (v := ?_) (a' := ?_) #[false, true, true, false, false, false, false, false, false, false] rfl rfl (any_of HT_.out (by kernel_rfl)) (fun _ _ _ h => h) (Or.inl ⟨by rfl, ?_⟩) ?_ ?_
        rotate_left
        ·intro w'
         go_simp
         with_reducible rfl
        rotate_left
        ·simp only [Act.put, zY, zZ, yA, i64_w, i32_w]
         rfl
        refine pure_ (i := 3) (N := some 41) (v := ?_) (a' := ?_) #[false, true, true, true, false, false, false, false, false, false] rfl rfl (any_of HT_.out (by kernel_rfl)) (fun _ _ _ h => h) (Or.inl ⟨by rfl, ?_⟩) ?_ ?_
        rotate_left
        ·intro w'
         go_simp
         with_reducible rfl
        rotate_left
        ·simp only [Act.put, zY, zZ, yA, i64_w, i32_w]
         rfl
        refine pure_ (i := 5) (N := some 43) (v := ?_) (a' := ?_) #[false, true, true, true, false, true, false, false, false, false] rfl rfl (any_of HT_.out (by kernel_rfl)) (fun _ _ _ h => h) (Or.inl ⟨by rfl, ?_⟩) ?_ ?_
        rotate_left
        ·intro w'
         go_simp
         with_reducible rfl
        rotate_left
        ·simp only [Act.put, zY, zZ, yA, i64_w, i32_w]
         rfl
        refine pure_ (i := 6) (N := some 44) (v := ?_) (a' := ?_) #[false, true, true, true, false, true, true, false, false, false] rfl rfl (any_of HT_.out (by kernel_rfl)) (fun _ _ _ h => h) (Or.inl ⟨by rfl, ?_⟩) ?_ ?_
        rotate_left
        ·intro w'
         go_simp
         with_reducible rfl
        rotate_left
        ·simp only [Act.put, zY, zZ, yA, i64_w, i32_w]
         rfl
        refine pure_ (i := 7) (N := some 45) (v := ?_) (a' := ?_) #[false, true, true, true, false, true, true, true, false, false] rfl rfl (any_of HT_.out (by kernel_rfl)) (fun _ _ _ h => h) (Or.inl ⟨by rfl, ?_⟩) ?_ ?_
        rotate_left
        ·intro w'
         go_simp
         with_reducible rfl
        rotate_left
        ·simp only [Act.put, zY, zZ, yA, i64_w, i32_w]
         rfl
        refine one_ (i := 0) (N := some 38) #[true, true, true, true, false, true, true, true, false, false] rfl rfl (one_of HT_.out (by kernel_rfl)) (by decide) (fun K hK => ?_)
        refine Kd.R_lit_step k50 _ 50 ?hg (N := 38) ?hd (xs := ([] : List (S50))) (inner := []) (ok := fun _ => True) (okp := fun _ => True) ?hr ?hp (fun _ hk => hk) trivial (Below.refl _ _) (Nat.le_refl _) (by simp) ?_; (case hd => rfl); (case hg => rfl); (case hr => first | (go_simp; done) | (go_simp; rfl)); (case hp => exact (Reps.none _ _))
        intro v168 w34 ho35 hb hg_ hnew_
        clear hg_ hnew_
        (first | rw [← Ny167.out] at ho35 | (simp only [Int.reduceToNat] at ho35; rw [← Ny167.out] at ho35))
        have n0_ := zK (zO (zr HO153.out) hb)
        have n1_ := zK (zO (zr HO157.out) hb)
        have n2_ := zK (zO (zr HO160.out) hb)
        have n3_ := zK (zO (zr HO164.out) hb)
        have n4_ := zK (zV ho35 (yG (zl HB.out)))
        have n5_ := zK (zP (g := gb150) (o := .cells #[.int .i64 a2_0, .int .i64 a2_1] 27 (0, 0)) (zb BK150.out) hb)
        have n6_ := zK (zP (g := gb165) (o := .cells #[.slice Ao21 t151.length co21, .int .i64 t154, .slice Ao25 t155.length co25] 25 (0, 0)) (zb BK165.out) hb)
        have n7_ := zK (zP (g := gb166) (o := .cells #[.slice Ao26 t158.length co26, .int .i64 t161, .slice Ao29 t162.length co29] 25 (0, 0)) (zb BK166.out) hb)
        have n8_ := zK (yF (zl HB.out) hb)
        clear HO153
        clear HO157
        clear HO160
        clear HO164
        clear BK150
        clear BK165
        clear BK166
        clear HB
        have HO153 := n0_
        have HO157 := n1_
        have HO160 := n2_
        have HO164 := n3_
        have HO169 := n4_
        have BK150 := n5_
        have BK165 := n6_
        have BK166 := n7_
        have HB := n8_
        clear n0_ n1_ n2_ n3_ n4_ n5_ n6_ n7_ n8_
        clear hb ho35
        refine hK.out _ _ trivial (fun hHeld => ?_)
        clear hK K
        refine norm_ (a' := ?_) ?_ ?_
        rotate_left
        ·show Act.put _ (some 38) _ = _
         simp only [Act.put, zY, zZ, yA, i64_w, i32_w]
         rfl
        refine one_ (i := 4) (N := some 42) #[true, true, true, true, true, true, true, true, false, false] rfl rfl (one_of HT_.out (by kernel_rfl)) (by decide) (fun K hK => ?_)
        refine Kd.R_append_rows_step k50 (w0 := w) w.heap.size (by rfl) (.tmp 38) (.tmp 41) 29 50 (.agg #[(.int .i64 0), (.int .i64 0), (.int .i64 0)]) 24 rfl Try.underlying29 info50 rfl (by decide) (by omega) v168 y167 y170 _ _ _ (fun _ => True) (fun _ => False) rfl rfl ?aO ?aR (fun _ _ h => h) (fun _ h => h.elim) ?aF ?aB ?aS ?aL ?_
        (case aR => repeat (first | exact (yD HR173.out HB.out) | (with_reducible refine zS ?_ _) | (with_reducible refine zT ?_ _) | (with_reducible refine zU ?_)))
        (case aB => exact (zl HB.out))
        (case aF => exact (fun _ _ => trivial))
        (case aO => exact (zr HO169.out))
        (case aS => exact (yG (zl HB.out)))
        (case aL => have := LMc13.out; omega)
        intro v175 w36 ho hb hg hat
        rw [← Ny174.out] at ho
        have n0_ := zK (blk_grown (g := gb150) (o := .cells #[.int .i64 a2_0, .int .i64 a2_1] 27 (0, 0)) (zb BK150.out) hg (Kd.R_ne HO169.out BK150.out (by decide)))
        have n1_ := zK (Kd.R_over' (zr HO153.out) (Kd.R_typed (zr HO169.out)) (by decide) hg)
        have n2_ := zK (Kd.R_over' (zr HO157.out) (Kd.R_typed (zr HO169.out)) (by decide) hg)
        have n3_ := zK (Kd.R_over' (zr HO160.out) (Kd.R_typed (zr HO169.out)) (by decide) hg)
        have n4_ := zK (Kd.R_over' (zr HO164.out) (Kd.R_typed (zr HO169.out)) (by decide) hg)
        have n5_ := zK (blk_grown (g := gb165) (o := .cells #[.slice Ao21 t151.length co21, .int .i64 t154, .slice Ao25 t155.length co25] 25 (0, 0)) (zb BK165.out) hg (Kd.R_ne HO169.out BK165.out (by decide)))
        have n6_ := zK (blk_grown (g := gb166) (o := .cells #[.slice Ao26 t158.length co26, .int .i64 t161, .slice Ao29 t162.length co29] 25 (0, 0)) (zb BK166.out) hg (Kd.R_ne HO169.out BK166.out (by decide)))
        have n7_ := zK (hb)
        have n8_ := zK (ho)
        clear BK150
        clear HO153
        clear HO157
        clear HO160
        clear HO164
        clear BK165
        clear BK166
        clear HB
        clear HO169
        have BK150 := n0_
        have HO153 := n1_
        have HO157 := n2_
        have HO160 := n3_
        have HO164 := n4_
        have BK165 := n5_
        have BK166 := n6_
        have HB := n7_
        have HO176 := n8_
        clear n0_ n1_ n2_ n3_ n4_ n5_ n6_ n7_ n8_
        clear ho hb hg hat
        refine hK.out _ _ trivial (fun hHeld => ?_)
        clear hK K
        refine norm_ (a' := ?_) ?_ ?_
        rotate_left
        ·show Act.put _ (some 42) _ = _
         simp only [Act.put, zY, zZ, yA, i64_w, i32_w]
         rfl
        refine one_ (i := 8) (N := some 46) #[true, true, true, true, true, true, true, true, true, false] rfl rfl (one_of HT_.out (by kernel_rfl)) (by decide) (fun K hK => ?_)
        refine Kd.R_append_rows_step k50 (w0 := w) w.heap.size (by rfl) (.tmp 42) (.tmp 45) 29 50 (.agg #[(.int .i64 0), (.int .i64 0), (.int .i64 0)]) 24 rfl Try.underlying29 info50 rfl (by decide) (by omega) v175 y174 y177 _ _ _ (fun _ => True) (fun _ => False) rfl rfl ?aO ?aR (fun _ _ h => h) (fun _ h => h.elim) ?aF ?aB ?aS ?aL ?_
        (case aR => repeat (first | exact (yD HR180.out HB.out) | (with_reducible refine zS ?_ _) | (with_reducible refine zT ?_ _) | (with_reducible refine zU ?_)))
        (case aB => exact (zl HB.out))
        (case aF => exact (fun _ _ => trivial))
        (case aO => exact (zr HO176.out))
        (case aS => exact (yG (zl HB.out)))
        (case aL => have := LMc16.out; omega)
        intro v182 w37 ho hb hg hat
        rw [← Ny181.out] at ho
        have n0_ := zK (blk_grown (g := gb150) (o := .cells #[.int .i64 a2_0, .int .i64 a2_1] 27 (0, 0)) (zb BK150.out) hg (Kd.R_ne HO176.out BK150.out (by decide)))
        have n1_ := zK (Kd.R_over' (zr HO153.out) (Kd.R_typed (zr HO176.out)) (by decide) hg)
        have n2_ := zK (Kd.R_over' (zr HO157.out) (Kd.R_typed (zr HO176.out)) (by decide) hg)
        have n3_ := zK (Kd.R_over' (zr HO160.out) (Kd.R_typed (zr HO176.out)) (by decide) hg)
        have n4_ := zK (Kd.R_over' (zr HO164.out) (Kd.R_typed (zr HO176.out)) (by decide) hg)
        have n5_ := zK (blk_grown (g := gb165) (o := .cells #[.slice Ao21 t151.length co21, .int .i64 t154, .slice Ao25 t155.length co25] 25 (0, 0)) (zb BK165.out) hg (Kd.R_ne HO176.out BK165.out (by decide)))
        have n6_ := zK (blk_grown (g := gb166) (o := .cells #[.slice Ao26 t158.length co26, .int .i64 t161, .slice Ao29 t162.length co29] 25 (0, 0)) (zb BK166.out) hg (Kd.R_ne HO176.out BK166.out (by decide)))
        have n7_ := zK (hb)
        have n8_ := zK (ho)
        clear BK150
        clear HO153
        clear HO157
        clear HO160
        clear HO164
        clear BK165
        clear BK166
        clear HB
        clear HO176
        have BK150 := n0_
        have HO153 := n1_
        have HO157 := n2_
        have HO160 := n3_
        have HO164 := n4_
        have BK165 := n5_
        have BK166 := n6_
        have HB := n7_
        have HO183 := n8_
        clear n0_ n1_ n2_ n3_ n4_ n5_ n6_ n7_ n8_
        clear ho hb hg hat
        refine hK.out _ _ trivial (fun hHeld => ?_)
        clear hK K
        refine norm_ (a' := ?_) ?_ ?_
        rotate_left
        ·show Act.put _ (some 46) _ = _
         simp only [Act.put, zY, zZ, yA, i64_w, i32_w]
         rfl
        refine pure_ (i := 9) (N := some 9) (v := ?_) (a' := ?_) #[true, true, true, true, true, true, true, true, true, true] rfl rfl (any_of HT_.out (by kernel_rfl)) (fun _ _ _ h => h) (Or.inl ⟨by rfl, ?_⟩) ?_ ?_
        rotate_left
        ·intro w'
         go_simp
         with_reducible rfl
        rotate_left
        ·simp only [Act.put, zY, zZ, yA, i64_w, i32_w]
         rfl
        refine done_ (done_of HT_.out (by kernel_rfl)) ?_
        try go_wp2
        go_loopg [10] kj3 (fun kq v10 w' => ∃ (x10_2 : Int) (xqa_2 : List (S64)) (xqb_2 : Int) (xqc_2 : List Int) (xqd_2 : List (S64)) (xqe_2 : Int) (xqf_2 : List Int) (uqa : Value) (uqc : Value) (uqd : Value) (uqf : Value), v10 = .int .i64 x10_2 ∧ Aside0 (tollbarlaw17_TreeOrders.l0 kq l0 y181 x10_2 a2_0 a2_1 xqa_2 xqb_2 xqc_2 xqd_2 xqe_2 xqf_2 = some r) ∧ Aside0 (kq ≤ kj3) ∧ Aside0 (Kd.R k50 50 w' w.heap.size (fun _ => True) v182 y181) ∧ Aside0 (Kd.R k64 64 w' w.heap.size (fun _ => True) uqa xqa_2) ∧ Aside0 (Kd.R (Kd.int .i64) 3 w' w.heap.size (fun _ => True) uqc xqc_2) ∧ Aside0 (Kd.R k64 64 w' w.heap.size (fun _ => True) uqd xqd_2) ∧ Aside0 (Kd.R (Kd.int .i64) 3 w' w.heap.size (fun _ => True) uqf xqf_2) ∧ Aside0 (w'.heap[gb150]? = some (.cells #[.int .i64 a2_0, .int .i64 a2_1] 27 (0, 0))) ∧ Aside0 (w'.heap[gb165]? = some (.cells #[uqa, .int .i64 xqb_2, uqc] 25 (0, 0))) ∧ Aside0 (w'.heap[gb166]? = some (.cells #[uqd, .int .i64 xqe_2, uqf] 25 (0, 0))) ∧ Aside0 (Below w.heap.size w w'))
        case atStart => exact ⟨(0), (t151), (t154), (t155), (t158), (t161), (t162), (.slice Ao21 t151.length co21), (.slice Ao25 t155.length co25), (.slice Ao26 t158.length co26), (.slice Ao29 t162.length co29), zz, H', ⟨Nat.le_refl _⟩, ⟨by (with_reducible repeat (first | apply zA | apply zB | apply zC)); exact HO183.out⟩, ⟨by (with_reducible repeat (first | apply zA | apply zB | apply zC)); exact HO153.out⟩, ⟨by (with_reducible repeat (first | apply zA | apply zB | apply zC)); exact HO157.out⟩, ⟨by (with_reducible repeat (first | apply zA | apply zB | apply zC)); exact HO160.out⟩, ⟨by (with_reducible repeat (first | apply zA | apply zB | apply zC)); exact HO164.out⟩, ⟨by (with_reducible repeat (first | refine zD ?_ _ | refine zE ?_ | refine zF ?_ _)); exact BK150.out⟩, ⟨by (with_reducible repeat (first | refine zD ?_ _ | refine zE ?_ | refine zF ?_ _)); exact BK165.out⟩, ⟨by (with_reducible repeat (first | refine zD ?_ _ | refine zE ?_ | refine zF ?_ _)); exact BK166.out⟩, ⟨by repeat (first | (with_reducible first | exact HB.out | apply zG | apply zH | apply zI | refine zL ?_ GE150.out | refine zL ?_ GE165.out | refine zL ?_ GE166.out) | exact HB.out)⟩⟩
        case round =>
         clear H'
         try clear c1
         try clear c2
         try clear p2
         try clear c3
         try clear q3
         try clear c6
         try clear c6b0
         try clear c7
         try clear c7b0
         try clear c8
         try clear c11
         try clear c11b0
         try clear c11b1
         try clear c12
         try clear c12b0
         try clear c12b1
         try clear c13
         try clear c14
         try clear c14b0
         try clear c15
         try clear c15b0
         try clear c16
         try clear c22
         try clear c23
         try clear c27
         try clear c32
         try clear q32
         try clear c33
         try clear q33
         try clear hcz24_0
         try clear hcz24_1
         try clear hcz24_2
         try clear hcz28_0
         try clear hcz28_1
         try clear hcz28_2
         try clear hfz24_0
         try clear hfz24_1
         try clear hfz24_2
         try clear hfz28_0
         try clear hfz28_1
         try clear hfz28_2
         try clear p2
         try clear q032
         try clear q32
         try clear q33
         obtain ⟨x10_2, xqa_2, xqb_2, xqc_2, xqd_2, xqe_2, xqf_2, uqa, uqc, uqd, uqf, rfl, HA, HK2, HO_9, HO_qa, HO_qc, HO_qd, HO_qf, BK150, BK165, BK166, HB⟩ := hrel
         cases gk with
         | zero => exact absurd HA.out (by simp [tollbarlaw17_TreeOrders.l0])
         | succ k2 =>
          have H := HA.out
          clear HA
          simp only [tollbarlaw17_TreeOrders.l0] at H
          by_cases c38 : x10_2 < (l0.length : Int)
          ·rw [if_pos c38] at H
           have c38b0 : decide (x10_2 < (l0.length : Int)) = true := decide_eq_true c38
           clear c38
           by_cases c39 : 0 ≤ x10_2
           ·rw [if_pos c39] at H
            have c39b0 : decide (0 ≤ x10_2) = true := decide_eq_true c39
            clear c39
            replace H := yH.mp H
            obtain ⟨⟨t185, t188, t189, t192⟩, A400, H⟩ := H
            replace H : ((tollbarlaw0_Num.f t192).bind fun t194 => (if t194 = 0 then (tollbarlaw17_TreeOrders.j2 k2 l0 y181 x10_2 a2_0 a2_1 t185 t188 t189 xqd_2 xqe_2 xqf_2) else (tollbarlaw17_TreeOrders.j2 k2 l0 y181 x10_2 a2_0 a2_1 xqa_2 xqb_2 xqc_2 xqd_2 xqe_2 xqf_2))) = some r := H
            have A40 := zK A400
            clear A400
            replace H := yH.mp H
            obtain ⟨t194, A410, H⟩ := H
            replace H : (if t194 = 0 then (tollbarlaw17_TreeOrders.j2 k2 l0 y181 x10_2 a2_0 a2_1 t185 t188 t189 xqd_2 xqe_2 xqf_2) else (tollbarlaw17_TreeOrders.j2 k2 l0 y181 x10_2 a2_0 a2_1 xqa_2 xqb_2 xqc_2 xqd_2 xqe_2 xqf_2)) = some r := H
            have A41 := zK A410
            clear A410
            have HC42 := zK H
            clear H
            obtain ⟨Ao43, co43, eo43⟩ := yE HO_qa.out
            subst eo43
            obtain ⟨Ao44, co44, eo44⟩ := yE HO_qc.out
            subst eo44
            try go_wp2
            have n0_ := zK (zC HO_9.out)
            have n1_ := zK (zC HO_qa.out)
            have n2_ := zK (zC HO_qc.out)
            have n3_ := zK (zC HO_qd.out)
            have n4_ := zK (zC HO_qf.out)
            have n5_ := zK (zE BK150.out)
            have n6_ := zK (zE BK165.out)
            have n7_ := zK (zE BK166.out)
            have n8_ := zK (zI HB.out)
            clear HO_9
            clear HO_qa
            clear HO_qc
            clear HO_qd
            clear HO_qf
            clear BK150
            clear BK165
            clear BK166
            clear HB
            have HO_9 := n0_
            have HO_qa := n1_
            have HO_qc := n2_
            have HO_qd := n3_
            have HO_qf := n4_
            have BK150 := n5_
            have BK165 := n6_
            have BK166 := n7_
            have HB := n8_
            clear n0_ n1_ n2_ n3_ n4_ n5_ n6_ n7_ n8_
            have p184 : 0 ≤ (x10_2 : Int) := of_decide_eq_true (by first | (with_reducible assumption) | assumption)
            have q184 : x10_2 < (l0.length : Int) := of_decide_eq_true (by first | (with_reducible assumption) | assumption)
            obtain ⟨ad184, e184, hx184_0, hx184_1, hx184_2⟩ := at_T50 HR0.out x10_2 p184 q184
            have hw184_2 := hx184_2
            have hw184_1 := hx184_1
            have hw184_0 := hx184_0
            cases e184
            replace hx184_0 := (HB.out.cell (zJ w _ hx184_0)).trans hx184_0
            replace hx184_1 := (HB.out.cell (zJ w _ hx184_1)).trans hx184_1
            replace hx184_2 := (HB.out.cell (zJ w _ hx184_2)).trans hx184_2
            replace p184 := eq_true p184
            replace q184 := eq_true q184
            refine start_ (n := 12) (S := fun w' => w'.cell? ⟨gb165, 0, none⟩ = some (.slice Ao43 xqa_2.length co43) ∧ w'.cell? ⟨gb165, 1, none⟩ = some (.int .i64 xqb_2) ∧ w'.cell? ⟨gb165, 2, none⟩ = some (.slice Ao44 xqc_2.length co44) ∧ w'.cell? (ad184.add ((x10_2).toNat * 3)) = some (.int .i64 ((rd_T50 l0 x10_2).f0.f0)) ∧ w'.cell? ⟨(ad184.add ((x10_2).toNat * 3)).block, (ad184.add ((x10_2).toNat * 3)).off + 1, none⟩ = some (.int .i64 ((rd_T50 l0 x10_2).f0.f1)) ∧ w'.cell? ⟨(ad184.add ((x10_2).toNat * 3)).block, (ad184.add ((x10_2).toNat * 3)).off + 2, none⟩ = some (.int .i64 ((rd_T50 l0 x10_2).f1))) (ds := []) #[false, false, false, false, false, false, false, false, false, false, false, false] (by kernel_rfl) rfl rfl ⟨(zQ BK165.out 0).trans rfl, (zQ BK165.out 1).trans rfl, (zQ BK165.out 2).trans rfl, ((HB.out.cell (zJ w _ hw184_0)).trans hw184_0), ((HB.out.cell (zJ w _ hw184_1)).trans hw184_1), ((HB.out.cell (zJ w _ hw184_2)).trans hw184_2)⟩ (fun hHeld => ?_); refine with_tabW tollbarlaw17_TreeOrders.tab8 tollbarlaw17_TreeOrders.bits8 (fun HT_ HW_ => ?_)
            generalize wr.drew = w45 at HO_9 HO_qa HO_qc HO_qd HO_qf BK150 BK165 BK166 HB hx184_0 hx184_1 hx184_2 hHeld ⊢
            refine pure_ (i := 1) (N := some 55) (v := ?_) (a' := ?_) #[false, true, false, false, false, false, false, false, false, false, false, false] rfl rfl (any_of HT_.out (by kernel_rfl)) (fun _ _ _ h => h) (Or.inl ⟨by rfl, ?_⟩) ?_ ?_
            rotate_left
            ·intro w'
             go_simp
             with_reducible rfl
            rotate_left
            ·simp only [Act.put, zY, zZ, yA, i64_w, i32_w]
             rfl
            refine pure_ (i := 2) (N := some 56) (v := ?_) (a' := ?_) #[false, true, true, false, false, false, false, false, false, false, false, false] rfl rfl (any_of HT_.out (by kernel_rfl)) (fun _ _ _ h => h) (Or.inl ⟨by rfl, ?_⟩) ?_ ?_
            rotate_left
            ·intro w'
             go_simp
             with_reducible rfl
            rotate_left
            ·simp only [Act.put, zY, zZ, yA, i64_w, i32_w]
             rfl
            refine pure_ (i := 3) (N := some 57) (v := ?_) (a' := ?_) #[false, true, true, true, false, false, false, false, false, false, false, false] rfl rfl (any_of HT_.out (by kernel_rfl)) (fun _ _ _ h => h) (Or.inl ⟨by rfl, ?_⟩) ?_ ?_
            rotate_left
            ·intro w'
             go_simp
             with_reducible rfl
            rotate_left
            ·simp only [Act.put, zY, zZ, yA, i64_w, i32_w]
             rfl
            refine take_ (i := 0) (N := some 54) (v := ?_) (a' := ?_) #[true, true, true, true, false, false, false, false, false, false, false, false] rfl rfl (take_ofW HT_.out HW_.out (by kernel_rfl)) (fun _ _ _ h => h) (Or.inl ⟨by rfl, ?_⟩) hHeld ?_ ?_
            rotate_left
            ·rintro w' ⟨s0, s1, s2, s3, s4, s5⟩
             go_simp
             with_reducible rfl
            rotate_left
            ·simp only [Act.put, zY, zZ, yA, i64_w, i32_w]
             rfl
            refine take_ (i := 4) (N := some 58) (v := ?_) (a' := ?_) #[true, true, true, true, true, false, false, false, false, false, false, false] rfl rfl (take_ofW HT_.out HW_.out (by kernel_rfl)) (fun _ _ _ h => h) (Or.inl ⟨by rfl, ?_⟩) hHeld ?_ ?_
            rotate_left
            ·rintro w' ⟨s0, s1, s2, s3, s4, s5⟩
             go_simp
             with_reducible rfl
            rotate_left
            ·simp only [Act.put, zY, zZ, yA, i64_w, i32_w]
             rfl
            refine join_ (σ := Value × Value × Nat) 2 #[true, true, true, true, true, true, true, true, true, true, false, false] (fun s_ => [(59, .tuple #[.agg #[s_.1, .int .i64 t188, s_.2.1], .int .i64 t192]), (11, .pointer (some ⟨s_.2.2, 0, none⟩)), (53, .tuple #[.agg #[s_.1, .int .i64 t188, s_.2.1], .int .i64 t192]), (60, .agg #[s_.1, .int .i64 t188, s_.2.1]), (61, .int .i64 t192)]) (fun s_ w' => (w'.cell? ⟨gb165, 0, none⟩ = some (.slice Ao43 xqa_2.length co43) ∧ w'.cell? ⟨gb165, 1, none⟩ = some (.int .i64 xqb_2) ∧ w'.cell? ⟨gb165, 2, none⟩ = some (.slice Ao44 xqc_2.length co44) ∧ w'.cell? (ad184.add ((x10_2).toNat * 3)) = some (.int .i64 ((rd_T50 l0 x10_2).f0.f0)) ∧ w'.cell? ⟨(ad184.add ((x10_2).toNat * 3)).block, (ad184.add ((x10_2).toNat * 3)).off + 1, none⟩ = some (.int .i64 ((rd_T50 l0 x10_2).f0.f1)) ∧ w'.cell? ⟨(ad184.add ((x10_2).toNat * 3)).block, (ad184.add ((x10_2).toNat * 3)).off + 2, none⟩ = some (.int .i64 ((rd_T50 l0 x10_2).f1))) ∧ (Kd.R k64 64 w' w.heap.size (fun k_ => some k_ ≠ (.slice Ao43 xqa_2.length co43 : Value).ownBlock ∧ some k_ ≠ (uqd : Value).ownBlock) s_.1 t185) ∧ (Kd.R (Kd.int .i64) 3 w' w.heap.size (fun k_ => some k_ ≠ (.slice Ao44 xqc_2.length co44 : Value).ownBlock ∧ some k_ ≠ (uqf : Value).ownBlock) s_.2.1 t189) ∧ (Kd.R k64 64 w' w.heap.size (fun k_ => some k_ ≠ (s_.1 : Value).ownBlock ∧ True) (.slice Ao43 xqa_2.length co43) xqa_2) ∧ (Kd.R (Kd.int .i64) 3 w' w.heap.size (fun k_ => some k_ ≠ (s_.2.1 : Value).ownBlock ∧ True) (.slice Ao44 xqc_2.length co44) xqc_2) ∧ (Kd.R k64 64 w' w.heap.size (fun k_ => some k_ ≠ (s_.1 : Value).ownBlock ∧ True) uqd xqd_2) ∧ (Kd.R (Kd.int .i64) 3 w' w.heap.size (fun k_ => some k_ ≠ (s_.2.1 : Value).ownBlock ∧ True) uqf xqf_2) ∧ (Kd.R k50 50 w' w.heap.size (fun _ => True) v182 y181) ∧ (w'.heap[gb150]? = some (.cells #[.int .i64 a2_0, .int .i64 a2_1] 27 (0, 0))) ∧ (w'.heap[gb165]? = some (.cells #[.slice Ao43 xqa_2.length co43, .int .i64 xqb_2, .slice Ao44 xqc_2.length co44] 25 (0, 0))) ∧ (w'.heap[gb166]? = some (.cells #[uqd, .int .i64 xqe_2, uqf] 25 (0, 0))) ∧ (w'.heap[s_.2.2]? = some (.cells #[.slice none 0 0, .int .i64 0, .slice none 0 0] 25 (0, 0))) ∧ (w.heap.size ≤ s_.2.2) ∧ (w.heap.size ≤ s_.2.2) ∧ (gb150 ≠ s_.2.2) ∧ (s_.2.2 ≠ gb150) ∧ (gb165 ≠ s_.2.2) ∧ (s_.2.2 ≠ gb165) ∧ (gb166 ≠ s_.2.2) ∧ (s_.2.2 ≠ gb166) ∧ (Below w.heap.size w w')) ?_ ?_
            rotate_left
            ·intro hCont
             refine two_ (i := 5) (j := 9) (Ni := some 59) (Nj := some 11) #[true, true, true, true, true, true, false, false, false, false, false, false] #[true, true, true, true, true, false, false, false, false, true, false, false] rfl rfl rfl rfl (two_of HT_.out (by kernel_rfl)) (by decide) (by decide) (fun K hK => ?_) (fun K hK => ?_)
             ·skip
              refine goes_ Try.func26 (by kernel_rfl) rfl #[.agg #[.slice Ao43 xqa_2.length co43, .int .i64 xqb_2, .slice Ao44 xqc_2.length co44], .agg #[.int .i64 ((rd_T50 l0 x10_2).f0.f0), .int .i64 ((rd_T50 l0 x10_2).f0.f1), .int .i64 ((rd_T50 l0 x10_2).f1)]] (by rfl) rfl rfl zt ?_
              with_reducible refine (tree_Insert.calls _ _ xqa_2 xqb_2 _ _ xqc_2 ((rd_T50 l0 x10_2).f0.f0) ((rd_T50 l0 x10_2).f0.f1) ((rd_T50 l0 x10_2).f1) t185 t188 t189 t192 _ ?side1 ?side2 ?side3 ?side4 A40.out).mono ?_
              (case side1 => exact zc (zX HO_qa.out).2.2)
              (case side2 => exact (zX HO_qa.out).2.1)
              (case side3 => exact zc (zX HO_qc.out).2.2)
              (case side4 => exact (zX HO_qc.out).2.1)
              rintro e w46 ⟨v186, v190, rfl, ho0, ho1, hb⟩
              refine ⟨_, rfl, ?_⟩
              have n0_ := zK (zO (zr HO_9.out) hb)
              have n1_ := zK (yC (zr HO_qa.out) (Kd.R_base ho0) hb)
              have n2_ := zK (yC (zr HO_qc.out) (Kd.R_base ho1) hb)
              have n3_ := zK (yC (zr HO_qd.out) (Kd.R_base ho0) hb)
              have n4_ := zK (yC (zr HO_qf.out) (Kd.R_base ho1) hb)
              have n5_ := zK (zV (zW (zW ho0 (yB (zr HO_qa.out))) (yB (zr HO_qd.out))) (yG (zl HB.out)))
              have n6_ := zK (zV (zW (zW ho1 (yB (zr HO_qc.out))) (yB (zr HO_qf.out))) (yG (zl HB.out)))
              have n7_ := zK (zP (g := gb150) (o := .cells #[.int .i64 a2_0, .int .i64 a2_1] 27 (0, 0)) (zb BK150.out) hb)
              have n8_ := zK (zP (g := gb165) (o := .cells #[.slice Ao43 xqa_2.length co43, .int .i64 xqb_2, .slice Ao44 xqc_2.length co44] 25 (0, 0)) (zb BK165.out) hb)
              have n9_ := zK (zP (g := gb166) (o := .cells #[uqd, .int .i64 xqe_2, uqf] 25 (0, 0)) (zb BK166.out) hb)
              have n10_ := zK (yF (zl HB.out) hb)
              clear HO_9
              clear HO_qa
              clear HO_qc
              clear HO_qd
              clear HO_qf
              clear BK150
              clear BK165
              clear BK166
              clear HB
              have HO_9 := n0_
              have HO_qa := n1_
              have HO_qc := n2_
              have HO_qd := n3_
              have HO_qf := n4_
              have HO187 := n5_
              have HO191 := n6_
              have BK150 := n7_
              have BK165 := n8_
              have BK166 := n9_
              have HB := n10_
              clear n0_ n1_ n2_ n3_ n4_ n5_ n6_ n7_ n8_ n9_ n10_
              (try clear hb)
              (try clear hb2)
              (try clear hk)
              (try clear hi)
              (try clear ho0)
              (try clear ho1)
              refine hK.out _ _ ⟨(zQ BK165.out 0).trans rfl, (zQ BK165.out 1).trans rfl, (zQ BK165.out 2).trans rfl, ((HB.out.cell (zJ w _ hw184_0)).trans hw184_0), ((HB.out.cell (zJ w _ hw184_1)).trans hw184_1), ((HB.out.cell (zJ w _ hw184_2)).trans hw184_2)⟩ (fun hHeld => ?_)
              clear hK K
              refine norm_ (a' := ?_) ?_ ?_
              rotate_left
              ·show Act.put _ (some 59) _ = _
               simp only [Act.put, zY, zZ, yA, i64_w, i32_w]
               rfl
              refine pure_ (i := 6) (N := some 53) (v := ?_) (a' := ?_) #[true, true, true, true, true, true, true, false, false, false, false, false] rfl rfl (any_of HT_.out (by kernel_rfl)) (fun _ _ _ h => h) (Or.inl ⟨by rfl, ?_⟩) ?_ ?_
              rotate_left
              ·intro w'
               go_simp
               with_reducible rfl
              rotate_left
              ·simp only [Act.put, zY, zZ, yA, i64_w, i32_w]
               rfl
              refine pure_ (i := 7) (N := some 60) (v := ?_) (a' := ?_) #[true, true, true, true, true, true, true, true, false, false, false, false] rfl rfl (any_of HT_.out (by kernel_rfl)) (fun _ _ _ h => h) (Or.inl ⟨by rfl, ?_⟩) ?_ ?_
              rotate_left
              ·intro w'
               go_simp
               with_reducible rfl
              rotate_left
              ·simp only [Act.put, zY, zZ, yA, i64_w, i32_w]
               rfl
              refine pure_ (i := 8) (N := some 61) (v := ?_) (a' := ?_) #[true, true, true, true, true, true, true, true, true, false, false, false] rfl rfl (any_of HT_.out (by kernel_rfl)) (fun _ _ _ h => h) (Or.inl ⟨by rfl, ?_⟩) ?_ ?_
              rotate_left
              ·intro w'
               go_simp
               with_reducible rfl
              rotate_left
              ·simp only [Act.put, zY, zZ, yA, i64_w, i32_w]
               rfl
              refine one_ (i := 9) (N := some 11) #[true, true, true, true, true, true, true, true, true, true, false, false] rfl rfl (one_of HT_.out (by kernel_rfl)) (by decide) (fun K hK => ?_)
              refine box_step ?hg (N := 11) ?hd (cs := #[.slice none 0 0, .int .i64 0, .slice none 0 0]) (t := 25) ?hr ?_; (case hd => rfl); (case hg => rfl); (case hr => first | (go_simp; done) | (go_simp; rfl))
              intro gb193 hg w47 hbox hb
              have n0_ := zK (zO (zr HO_9.out) hb)
              have n1_ := zK (zO (zr HO_qa.out) hb)
              have n2_ := zK (zO (zr HO_qc.out) hb)
              have n3_ := zK (zO (zr HO_qd.out) hb)
              have n4_ := zK (zO (zr HO_qf.out) hb)
              have n5_ := zK (zO (zr HO187.out) hb)
              have n6_ := zK (zO (zr HO191.out) hb)
              have n7_ := zK (zP (g := gb150) (o := .cells #[.int .i64 a2_0, .int .i64 a2_1] 27 (0, 0)) (zb BK150.out) hb)
              have n8_ := zK (zP (g := gb165) (o := .cells #[.slice Ao43 xqa_2.length co43, .int .i64 xqb_2, .slice Ao44 xqc_2.length co44] 25 (0, 0)) (zb BK165.out) hb)
              have n9_ := zK (zP (g := gb166) (o := .cells #[uqd, .int .i64 xqe_2, uqf] 25 (0, 0)) (zb BK166.out) hb)
              have n10_ := zK (yF (zl HB.out) hb)
              have n11_ := zK (hbox)
              have n12_ := zK ((by rw [hg]; exact (yG (zl HB.out)) : w.heap.size ≤ gb193))
              have n13_ := zK ((by rw [hg]; exact (yG (zl HB.out)) : w.heap.size ≤ gb193))
              have n14_ := zK ((by rw [hg]; exact zN (blk_lt (g := gb150) (o := .cells #[.int .i64 a2_0, .int .i64 a2_1] 27 (0, 0)) (zb BK150.out)) : gb150 ≠ gb193))
              have n15_ := zK ((by rw [hg]; exact Nat.ne_of_gt (blk_lt (g := gb150) (o := .cells #[.int .i64 a2_0, .int .i64 a2_1] 27 (0, 0)) (zb BK150.out)) : gb193 ≠ gb150))
              have n16_ := zK ((by rw [hg]; exact zN (blk_lt (g := gb165) (o := .cells #[.slice Ao43 xqa_2.length co43, .int .i64 xqb_2, .slice Ao44 xqc_2.length co44] 25 (0, 0)) (zb BK165.out)) : gb165 ≠ gb193))
              have n17_ := zK ((by rw [hg]; exact Nat.ne_of_gt (blk_lt (g := gb165) (o := .cells #[.slice Ao43 xqa_2.length co43, .int .i64 xqb_2, .slice Ao44 xqc_2.length co44] 25 (0, 0)) (zb BK165.out)) : gb193 ≠ gb165))
              have n18_ := zK ((by rw [hg]; exact zN (blk_lt (g := gb166) (o := .cells #[uqd, .int .i64 xqe_2, uqf] 25 (0, 0)) (zb BK166.out)) : gb166 ≠ gb193))
              have n19_ := zK ((by rw [hg]; exact Nat.ne_of_gt (blk_lt (g := gb166) (o := .cells #[uqd, .int .i64 xqe_2, uqf] 25 (0, 0)) (zb BK166.out)) : gb193 ≠ gb166))
              clear HO_9
              clear HO_qa
              clear HO_qc
              clear HO_qd
              clear HO_qf
              clear HO187
              clear HO191
              clear BK150
              clear BK165
              clear BK166
              clear HB
              have HO_9 := n0_
              have HO_qa := n1_
              have HO_qc := n2_
              have HO_qd := n3_
              have HO_qf := n4_
              have HO187 := n5_
              have HO191 := n6_
              have BK150 := n7_
              have BK165 := n8_
              have BK166 := n9_
              have HB := n10_
              have BK193 := n11_
              have GW193 := n12_
              have GE193 := n13_
              have NB150_193 := n14_
              have NB193_150 := n15_
              have NB165_193 := n16_
              have NB193_165 := n17_
              have NB166_193 := n18_
              have NB193_166 := n19_
              clear n0_ n1_ n2_ n3_ n4_ n5_ n6_ n7_ n8_ n9_ n10_ n11_ n12_ n13_ n14_ n15_ n16_ n17_ n18_ n19_
              clear hb hbox hg
              refine hK.out _ _ ⟨(zQ BK165.out 0).trans rfl, (zQ BK165.out 1).trans rfl, (zQ BK165.out 2).trans rfl, ((HB.out.cell (zJ w _ hw184_0)).trans hw184_0), ((HB.out.cell (zJ w _ hw184_1)).trans hw184_1), ((HB.out.cell (zJ w _ hw184_2)).trans hw184_2)⟩ (fun hHeld => ?_)
              clear hK K
              refine norm_ (a' := ?_) ?_ ?_
              rotate_left
              ·show Act.put _ (some 11) _ = _
               simp only [Act.put, zY, zZ, yA, i64_w, i32_w]
               rfl
              exact norm_ (by simp only [putAll, Act.put, zY, zZ, yA]) (hCont (v186, v190, gb193) _ ⟨hHeld, (by (with_reducible repeat (first | apply zA | apply zB | apply zC)); exact Kd.R_mono HO187.out (fun _ hk => ⟨hk.1.2, hk.2⟩)), (by (with_reducible repeat (first | apply zA | apply zB | apply zC)); exact Kd.R_mono HO191.out (fun _ hk => ⟨hk.1.2, hk.2⟩)), (by (with_reducible repeat (first | apply zA | apply zB | apply zC)); exact Kd.R_mono HO_qa.out (fun _ hk => ⟨hk.2, hk.1⟩)), (by (with_reducible repeat (first | apply zA | apply zB | apply zC)); exact Kd.R_mono HO_qc.out (fun _ hk => ⟨hk.2, hk.1⟩)), (by (with_reducible repeat (first | apply zA | apply zB | apply zC)); exact Kd.R_mono HO_qd.out (fun _ hk => ⟨hk.2, hk.1⟩)), (by (with_reducible repeat (first | apply zA | apply zB | apply zC)); exact Kd.R_mono HO_qf.out (fun _ hk => ⟨hk.2, hk.1⟩)), (zr HO_9.out), (zb BK150.out), (zb BK165.out), (zb BK166.out), (zb BK193.out), GW193.out, GE193.out, NB150_193.out, NB193_150.out, NB165_193.out, NB193_165.out, NB166_193.out, NB193_166.out, (zl HB.out)⟩)
             ·skip
              refine box_step ?hg (N := 11) ?hd (cs := #[.slice none 0 0, .int .i64 0, .slice none 0 0]) (t := 25) ?hr ?_; (case hd => rfl); (case hg => rfl); (case hr => first | (go_simp; done) | (go_simp; rfl))
              intro gb193 hg w46 hbox hb
              have n0_ := zK (zO (zr HO_9.out) hb)
              have n1_ := zK (zO (zr HO_qa.out) hb)
              have n2_ := zK (zO (zr HO_qc.out) hb)
              have n3_ := zK (zO (zr HO_qd.out) hb)
              have n4_ := zK (zO (zr HO_qf.out) hb)
              have n5_ := zK (zP (g := gb150) (o := .cells #[.int .i64 a2_0, .int .i64 a2_1] 27 (0, 0)) (zb BK150.out) hb)
              have n6_ := zK (zP (g := gb165) (o := .cells #[.slice Ao43 xqa_2.length co43, .int .i64 xqb_2, .slice Ao44 xqc_2.length co44] 25 (0, 0)) (zb BK165.out) hb)
              have n7_ := zK (zP (g := gb166) (o := .cells #[uqd, .int .i64 xqe_2, uqf] 25 (0, 0)) (zb BK166.out) hb)
              have n8_ := zK (yF (zl HB.out) hb)
              have n9_ := zK (hbox)
              have n10_ := zK ((by rw [hg]; exact (yG (zl HB.out)) : w.heap.size ≤ gb193))
              have n11_ := zK ((by rw [hg]; exact (yG (zl HB.out)) : w.heap.size ≤ gb193))
              have n12_ := zK ((by rw [hg]; exact zN (blk_lt (g := gb150) (o := .cells #[.int .i64 a2_0, .int .i64 a2_1] 27 (0, 0)) (zb BK150.out)) : gb150 ≠ gb193))
              have n13_ := zK ((by rw [hg]; exact Nat.ne_of_gt (blk_lt (g := gb150) (o := .cells #[.int .i64 a2_0, .int .i64 a2_1] 27 (0, 0)) (zb BK150.out)) : gb193 ≠ gb150))
              have n14_ := zK ((by rw [hg]; exact zN (blk_lt (g := gb165) (o := .cells #[.slice Ao43 xqa_2.length co43, .int .i64 xqb_2, .slice Ao44 xqc_2.length co44] 25 (0, 0)) (zb BK165.out)) : gb165 ≠ gb193))
              have n15_ := zK ((by rw [hg]; exact Nat.ne_of_gt (blk_lt (g := gb165) (o := .cells #[.slice Ao43 xqa_2.length co43, .int .i64 xqb_2, .slice Ao44 xqc_2.length co44] 25 (0, 0)) (zb BK165.out)) : gb193 ≠ gb165))
              have n16_ := zK ((by rw [hg]; exact zN (blk_lt (g := gb166) (o := .cells #[uqd, .int .i64 xqe_2, uqf] 25 (0, 0)) (zb BK166.out)) : gb166 ≠ gb193))
              have n17_ := zK ((by rw [hg]; exact Nat.ne_of_gt (blk_lt (g := gb166) (o := .cells #[uqd, .int .i64 xqe_2, uqf] 25 (0, 0)) (zb BK166.out)) : gb193 ≠ gb166))
              clear HO_9
              clear HO_qa
              clear HO_qc
              clear HO_qd
              clear HO_qf
              clear BK150
              clear BK165
              clear BK166
              clear HB
              have HO_9 := n0_
              have HO_qa := n1_
              have HO_qc := n2_
              have HO_qd := n3_
              have HO_qf := n4_
              have BK150 := n5_
              have BK165 := n6_
              have BK166 := n7_
              have HB := n8_
              have BK193 := n9_
              have GW193 := n10_
              have GE193 := n11_
              have NB150_193 := n12_
              have NB193_150 := n13_
              have NB165_193 := n14_
              have NB193_165 := n15_
              have NB166_193 := n16_
              have NB193_166 := n17_
              clear n0_ n1_ n2_ n3_ n4_ n5_ n6_ n7_ n8_ n9_ n10_ n11_ n12_ n13_ n14_ n15_ n16_ n17_
              clear hb hbox hg
              refine hK.out _ _ ⟨(zQ BK165.out 0).trans rfl, (zQ BK165.out 1).trans rfl, (zQ BK165.out 2).trans rfl, ((HB.out.cell (zJ w _ hw184_0)).trans hw184_0), ((HB.out.cell (zJ w _ hw184_1)).trans hw184_1), ((HB.out.cell (zJ w _ hw184_2)).trans hw184_2)⟩ (fun hHeld => ?_)
              clear hK K
              refine norm_ (a' := ?_) ?_ ?_
              rotate_left
              ·show Act.put _ (some 11) _ = _
               simp only [Act.put, zY, zZ, yA, i64_w, i32_w]
               rfl
              refine one_ (i := 5) (N := some 59) #[true, true, true, true, true, true, false, false, false, true, false, false] rfl rfl (one_of HT_.out (by kernel_rfl)) (by decide) (fun K hK => ?_)
              refine goes_ Try.func26 (by kernel_rfl) rfl #[.agg #[.slice Ao43 xqa_2.length co43, .int .i64 xqb_2, .slice Ao44 xqc_2.length co44], .agg #[.int .i64 ((rd_T50 l0 x10_2).f0.f0), .int .i64 ((rd_T50 l0 x10_2).f0.f1), .int .i64 ((rd_T50 l0 x10_2).f1)]] (by rfl) rfl rfl zt ?_
              with_reducible refine (tree_Insert.calls _ _ xqa_2 xqb_2 _ _ xqc_2 ((rd_T50 l0 x10_2).f0.f0) ((rd_T50 l0 x10_2).f0.f1) ((rd_T50 l0 x10_2).f1) t185 t188 t189 t192 _ ?side1 ?side2 ?side3 ?side4 A40.out).mono ?_
              (case side1 => exact zc (zX HO_qa.out).2.2)
              (case side2 => exact (zX HO_qa.out).2.1)
              (case side3 => exact zc (zX HO_qc.out).2.2)
              (case side4 => exact (zX HO_qc.out).2.1)
              rintro e w47 ⟨v186, v190, rfl, ho0, ho1, hb⟩
              refine ⟨_, rfl, ?_⟩
              have n0_ := zK (zO (zr HO_9.out) hb)
              have n1_ := zK (yC (zr HO_qa.out) (Kd.R_base ho0) hb)
              have n2_ := zK (yC (zr HO_qc.out) (Kd.R_base ho1) hb)
              have n3_ := zK (yC (zr HO_qd.out) (Kd.R_base ho0) hb)
              have n4_ := zK (yC (zr HO_qf.out) (Kd.R_base ho1) hb)
              have n5_ := zK (zV (zW (zW ho0 (yB (zr HO_qa.out))) (yB (zr HO_qd.out))) (yG (zl HB.out)))
              have n6_ := zK (zV (zW (zW ho1 (yB (zr HO_qc.out))) (yB (zr HO_qf.out))) (yG (zl HB.out)))
              have n7_ := zK (zP (g := gb150) (o := .cells #[.int .i64 a2_0, .int .i64 a2_1] 27 (0, 0)) (zb BK150.out) hb)
              have n8_ := zK (zP (g := gb165) (o := .cells #[.slice Ao43 xqa_2.length co43, .int .i64 xqb_2, .slice Ao44 xqc_2.length co44] 25 (0, 0)) (zb BK165.out) hb)
              have n9_ := zK (zP (g := gb166) (o := .cells #[uqd, .int .i64 xqe_2, uqf] 25 (0, 0)) (zb BK166.out) hb)
              have n10_ := zK (zP (g := gb193) (o := .cells #[.slice none 0 0, .int .i64 0, .slice none 0 0] 25 (0, 0)) (zb BK193.out) hb)
              have n11_ := zK (yF (zl HB.out) hb)
              clear HO_9
              clear HO_qa
              clear HO_qc
              clear HO_qd
              clear HO_qf
              clear BK150
              clear BK165
              clear BK166
              clear BK193
              clear HB
              have HO_9 := n0_
              have HO_qa := n1_
              have HO_qc := n2_
              have HO_qd := n3_
              have HO_qf := n4_
              have HO187 := n5_
              have HO191 := n6_
              have BK150 := n7_
              have BK165 := n8_
              have BK166 := n9_
              have BK193 := n10_
              have HB := n11_
              clear n0_ n1_ n2_ n3_ n4_ n5_ n6_ n7_ n8_ n9_ n10_ n11_
              (try clear hb)
              (try clear hb2)
              (try clear hk)
              (try clear hi)
              (try clear ho0)
              (try clear ho1)
              refine hK.out _ _ ⟨(zQ BK165.out 0).trans rfl, (zQ BK165.out 1).trans rfl, (zQ BK165.out 2).trans rfl, ((HB.out.cell (zJ w _ hw184_0)).trans hw184_0), ((HB.out.cell (zJ w _ hw184_1)).trans hw184_1), ((HB.out.cell (zJ w _ hw184_2)).trans hw184_2)⟩ (fun hHeld => ?_)
              clear hK K
              refine norm_ (a' := ?_) ?_ ?_
              rotate_left
              ·show Act.put _ (some 59) _ = _
               simp only [Act.put, zY, zZ, yA, i64_w, i32_w]
               rfl
              refine pure_ (i := 6) (N := some 53) (v := ?_) (a' := ?_) #[true, true, true, true, true, true, true, false, false, true, false, false] rfl rfl (any_of HT_.out (by kernel_rfl)) (fun _ _ _ h => h) (Or.inl ⟨by rfl, ?_⟩) ?_ ?_
              rotate_left
              ·intro w'
               go_simp
               with_reducible rfl
              rotate_left
              ·simp only [Act.put, zY, zZ, yA, i64_w, i32_w]
               rfl
              refine pure_ (i := 7) (N := some 60) (v := ?_) (a' := ?_) #[true, true, true, true, true, true, true, true, false, true, false, false] rfl rfl (any_of HT_.out (by kernel_rfl)) (fun _ _ _ h => h) (Or.inl ⟨by rfl, ?_⟩) ?_ ?_
              rotate_left
              ·intro w'
               go_simp
               with_reducible rfl
              rotate_left
              ·simp only [Act.put, zY, zZ, yA, i64_w, i32_w]
               rfl
              refine pure_ (i := 8) (N := some 61) (v := ?_) (a' := ?_) #[true, true, true, true, true, true, true, true, true, true, false, false] rfl rfl (any_of HT_.out (by kernel_rfl)) (fun _ _ _ h => h) (Or.inl ⟨by rfl, ?_⟩) ?_ ?_
              rotate_left
              ·intro w'
               go_simp
               with_reducible rfl
              rotate_left
              ·simp only [Act.put, zY, zZ, yA, i64_w, i32_w]
               rfl
              exact norm_ (by simp only [putAll, Act.put, zY, zZ, yA]) (hCont (v186, v190, gb193) _ ⟨hHeld, (by (with_reducible repeat (first | apply zA | apply zB | apply zC)); exact Kd.R_mono HO187.out (fun _ hk => ⟨hk.1.2, hk.2⟩)), (by (with_reducible repeat (first | apply zA | apply zB | apply zC)); exact Kd.R_mono HO191.out (fun _ hk => ⟨hk.1.2, hk.2⟩)), (by (with_reducible repeat (first | apply zA | apply zB | apply zC)); exact Kd.R_mono HO_qa.out (fun _ hk => ⟨hk.2, hk.1⟩)), (by (with_reducible repeat (first | apply zA | apply zB | apply zC)); exact Kd.R_mono HO_qc.out (fun _ hk => ⟨hk.2, hk.1⟩)), (by (with_reducible repeat (first | apply zA | apply zB | apply zC)); exact Kd.R_mono HO_qd.out (fun _ hk => ⟨hk.2, hk.1⟩)), (by (with_reducible repeat (first | apply zA | apply zB | apply zC)); exact Kd.R_mono HO_qf.out (fun _ hk => ⟨hk.2, hk.1⟩)), (zr HO_9.out), (zb BK150.out), (zb BK165.out), (zb BK166.out), (zb BK193.out), GW193.out, GE193.out, NB150_193.out, NB193_150.out, NB165_193.out, NB193_165.out, NB166_193.out, NB193_166.out, (zl HB.out)⟩)
            rintro ⟨v186, v190, gb193⟩ w48 ⟨hS_, h0_, h1_, h2_, h3_, h4_, h5_, h6_, h7_, h8_, h9_, h10_, h11_, h12_, h13_, h14_, h15_, h16_, h17_, h18_, h19_⟩
            have n0_ : Aside0 (Kd.R k64 64 w48 w.heap.size (fun k_ => some k_ ≠ (.slice Ao43 xqa_2.length co43 : Value).ownBlock ∧ some k_ ≠ (uqd : Value).ownBlock) v186 t185) := ⟨h0_⟩
            have n1_ : Aside0 (Kd.R (Kd.int .i64) 3 w48 w.heap.size (fun k_ => some k_ ≠ (.slice Ao44 xqc_2.length co44 : Value).ownBlock ∧ some k_ ≠ (uqf : Value).ownBlock) v190 t189) := ⟨h1_⟩
            have n2_ : Aside0 (Kd.R k64 64 w48 w.heap.size (fun k_ => some k_ ≠ (v186 : Value).ownBlock ∧ True) (.slice Ao43 xqa_2.length co43) xqa_2) := ⟨h2_⟩
            have n3_ : Aside0 (Kd.R (Kd.int .i64) 3 w48 w.heap.size (fun k_ => some k_ ≠ (v190 : Value).ownBlock ∧ True) (.slice Ao44 xqc_2.length co44) xqc_2) := ⟨h3_⟩
            have n4_ : Aside0 (Kd.R k64 64 w48 w.heap.size (fun k_ => some k_ ≠ (v186 : Value).ownBlock ∧ True) uqd xqd_2) := ⟨h4_⟩
            have n5_ : Aside0 (Kd.R (Kd.int .i64) 3 w48 w.heap.size (fun k_ => some k_ ≠ (v190 : Value).ownBlock ∧ True) uqf xqf_2) := ⟨h5_⟩
            have n6_ : Aside0 (Kd.R k50 50 w48 w.heap.size (fun _ => True) v182 y181) := ⟨h6_⟩
            have n7_ : Aside0 (w48.heap[gb150]? = some (.cells #[.int .i64 a2_0, .int .i64 a2_1] 27 (0, 0))) := ⟨h7_⟩
            have n8_ : Aside0 (w48.heap[gb165]? = some (.cells #[.slice Ao43 xqa_2.length co43, .int .i64 xqb_2, .slice Ao44 xqc_2.length co44] 25 (0, 0))) := ⟨h8_⟩
            have n9_ : Aside0 (w48.heap[gb166]? = some (.cells #[uqd, .int .i64 xqe_2, uqf] 25 (0, 0))) := ⟨h9_⟩
            have n10_ : Aside0 (w48.heap[gb193]? = some (.cells #[.slice none 0 0, .int .i64 0, .slice none 0 0] 25 (0, 0))) := ⟨h10_⟩
            have n11_ : Aside0 (w.heap.size ≤ gb193) := ⟨h11_⟩
            have n12_ : Aside0 (w.heap.size ≤ gb193) := ⟨h12_⟩
            have n13_ : Aside0 (gb150 ≠ gb193) := ⟨h13_⟩
            have n14_ : Aside0 (gb193 ≠ gb150) := ⟨h14_⟩
            have n15_ : Aside0 (gb165 ≠ gb193) := ⟨h15_⟩
            have n16_ : Aside0 (gb193 ≠ gb165) := ⟨h16_⟩
            have n17_ : Aside0 (gb166 ≠ gb193) := ⟨h17_⟩
            have n18_ : Aside0 (gb193 ≠ gb166) := ⟨h18_⟩
            have n19_ : Aside0 (Below w.heap.size w w48) := ⟨h19_⟩
            clear HO_9
            clear HO_qa
            clear HO_qc
            clear HO_qd
            clear HO_qf
            clear BK150
            clear BK165
            clear BK166
            clear HB
            clear h0_ h1_ h2_ h3_ h4_ h5_ h6_ h7_ h8_ h9_ h10_ h11_ h12_ h13_ h14_ h15_ h16_ h17_ h18_ h19_
            have HO187 := n0_
            have HO191 := n1_
            have HO_qa := n2_
            have HO_qc := n3_
            have HO_qd := n4_
            have HO_qf := n5_
            have HO_9 := n6_
            have BK150 := n7_
            have BK165 := n8_
            have BK166 := n9_
            have BK193 := n10_
            have GW193 := n11_
            have GE193 := n12_
            have NB150_193 := n13_
            have NB193_150 := n14_
            have NB165_193 := n15_
            have NB193_165 := n16_
            have NB166_193 := n17_
            have NB193_166 := n18_
            have HB := n19_
            clear n0_ n1_ n2_ n3_ n4_ n5_ n6_ n7_ n8_ n9_ n10_ n11_ n12_ n13_ n14_ n15_ n16_ n17_ n18_ n19_
            have hHeld : w48.cell? ⟨gb165, 0, none⟩ = some (.slice Ao43 xqa_2.length co43) ∧ w48.cell? ⟨gb165, 1, none⟩ = some (.int .i64 xqb_2) ∧ w48.cell? ⟨gb165, 2, none⟩ = some (.slice Ao44 xqc_2.length co44) ∧ w48.cell? (ad184.add ((x10_2).toNat * 3)) = some (.int .i64 ((rd_T50 l0 x10_2).f0.f0)) ∧ w48.cell? ⟨(ad184.add ((x10_2).toNat * 3)).block, (ad184.add ((x10_2).toNat * 3)).off + 1, none⟩ = some (.int .i64 ((rd_T50 l0 x10_2).f0.f1)) ∧ w48.cell? ⟨(ad184.add ((x10_2).toNat * 3)).block, (ad184.add ((x10_2).toNat * 3)).off + 2, none⟩ = some (.int .i64 ((rd_T50 l0 x10_2).f1)) := hS_
            obtain ⟨Ao49, co49, eo49⟩ := yE HO187.out
            (first | subst eo49 | (injection eo49 with f1_ f2_ f3_; have f4_ := f1_.symm; have f5_ := f3_.symm; clear f1_ f2_ f3_; subst f4_; subst f5_))
            obtain ⟨Ao52, co52, eo52⟩ := yE HO191.out
            (first | subst eo52 | (injection eo52 with f1_ f2_ f3_; have f4_ := f1_.symm; have f5_ := f3_.symm; clear f1_ f2_ f3_; subst f4_; subst f5_))
            refine norm_ (a' := ?_) ?_ ?_
            rotate_left
            ·simp only [putAll, Act.put, zY, zZ, yA]
             rfl
            refine one_ (i := 10) (N := none) #[true, true, true, true, true, true, true, true, true, true, true, false] rfl rfl (one_of HT_.out (by kernel_rfl)) (by decide) (fun K hK => ?_)
            have hs50 : w48.cell? ⟨gb193, 0, none⟩ = some (.slice none 0 0) := (zQ BK193.out 0).trans rfl
            have hfs50 := zR BK193.out 0
            have hns50_0 := NB150_193.out
            have hns50_1 := NB165_193.out
            have hns50_2 := NB166_193.out
            have hms50_0 := NB193_150.out
            have hms50_1 := NB193_165.out
            have hms50_2 := NB193_166.out
            have hs51 : w48.cell? ⟨gb193, 1, none⟩ = some (.int .i64 0) := (zQ BK193.out 1).trans rfl
            have hfs51 := zR BK193.out 1
            have hns51_0 := NB150_193.out
            have hns51_1 := NB165_193.out
            have hns51_2 := NB166_193.out
            have hms51_0 := NB193_150.out
            have hms51_1 := NB193_165.out
            have hms51_2 := NB193_166.out
            have hs53 : w48.cell? ⟨gb193, 2, none⟩ = some (.slice none 0 0) := (zQ BK193.out 2).trans rfl
            have hfs53 := zR BK193.out 2
            have hns53_0 := NB150_193.out
            have hns53_1 := NB165_193.out
            have hns53_2 := NB166_193.out
            have hms53_0 := NB193_150.out
            have hms53_1 := NB193_165.out
            have hms53_2 := NB193_166.out
            refine skip_ (w1 := ?_) (by rfl) rfl ?_ ?_
            rotate_left
            ·go_simp
             rfl
            refine hK.out _ _ ⟨((cell_far (p := ⟨gb193, _, none⟩) NB165_193.out _).trans (((cell_far (p := ⟨gb193, _, none⟩) NB165_193.out _).trans (((cell_far (p := ⟨gb193, _, none⟩) NB165_193.out _).trans (hHeld.1)))))), ((cell_far (p := ⟨gb193, _, none⟩) NB165_193.out _).trans (((cell_far (p := ⟨gb193, _, none⟩) NB165_193.out _).trans (((cell_far (p := ⟨gb193, _, none⟩) NB165_193.out _).trans (hHeld.2.1)))))), ((cell_far (p := ⟨gb193, _, none⟩) NB165_193.out _).trans (((cell_far (p := ⟨gb193, _, none⟩) NB165_193.out _).trans (((cell_far (p := ⟨gb193, _, none⟩) NB165_193.out _).trans (hHeld.2.2.1)))))), ((cell_far (p := ⟨gb193, _, none⟩) (by first | exact zN (zM (by have := zJ _ _ hw184_0; first | rwa [add_block] at this | exact this) GW193.out) | (rw [add_block]; exact zN (zM (by have := zJ _ _ hw184_0; first | rwa [add_block] at this | exact this) GW193.out)) | (show (Addr.add _ _).block ≠ _; rw [add_block]; exact zN (zM (by have := zJ _ _ hw184_0; first | rwa [add_block] at this | exact this) GW193.out)) | (dsimp only; exact zN (zM (by have := zJ _ _ hw184_0; first | rwa [add_block] at this | exact this) GW193.out))) _).trans (((cell_far (p := ⟨gb193, _, none⟩) (by first | exact zN (zM (by have := zJ _ _ hw184_0; first | rwa [add_block] at this | exact this) GW193.out) | (rw [add_block]; exact zN (zM (by have := zJ _ _ hw184_0; first | rwa [add_block] at this | exact this) GW193.out)) | (show (Addr.add _ _).block ≠ _; rw [add_block]; exact zN (zM (by have := zJ _ _ hw184_0; first | rwa [add_block] at this | exact this) GW193.out)) | (dsimp only; exact zN (zM (by have := zJ _ _ hw184_0; first | rwa [add_block] at this | exact this) GW193.out))) _).trans (((cell_far (p := ⟨gb193, _, none⟩) (by first | exact zN (zM (by have := zJ _ _ hw184_0; first | rwa [add_block] at this | exact this) GW193.out) | (rw [add_block]; exact zN (zM (by have := zJ _ _ hw184_0; first | rwa [add_block] at this | exact this) GW193.out)) | (show (Addr.add _ _).block ≠ _; rw [add_block]; exact zN (zM (by have := zJ _ _ hw184_0; first | rwa [add_block] at this | exact this) GW193.out)) | (dsimp only; exact zN (zM (by have := zJ _ _ hw184_0; first | rwa [add_block] at this | exact this) GW193.out))) _).trans (hHeld.2.2.2.1)))))), ((cell_far (p := ⟨gb193, _, none⟩) (by first | exact zN (zM (by have := zJ _ _ hw184_1; first | rwa [add_block] at this | exact this) GW193.out) | (rw [add_block]; exact zN (zM (by have := zJ _ _ hw184_1; first | rwa [add_block] at this | exact this) GW193.out)) | (show (Addr.add _ _).block ≠ _; rw [add_block]; exact zN (zM (by have := zJ _ _ hw184_1; first | rwa [add_block] at this | exact this) GW193.out)) | (dsimp only; exact zN (zM (by have := zJ _ _ hw184_1; first | rwa [add_block] at this | exact this) GW193.out))) _).trans (((cell_far (p := ⟨gb193, _, none⟩) (by first | exact zN (zM (by have := zJ _ _ hw184_1; first | rwa [add_block] at this | exact this) GW193.out) | (rw [add_block]; exact zN (zM (by have := zJ _ _ hw184_1; first | rwa [add_block] at this | exact this) GW193.out)) | (show (Addr.add _ _).block ≠ _; rw [add_block]; exact zN (zM (by have := zJ _ _ hw184_1; first | rwa [add_block] at this | exact this) GW193.out)) | (dsimp only; exact zN (zM (by have := zJ _ _ hw184_1; first | rwa [add_block] at this | exact this) GW193.out))) _).trans (((cell_far (p := ⟨gb193, _, none⟩) (by first | exact zN (zM (by have := zJ _ _ hw184_1; first | rwa [add_block] at this | exact this) GW193.out) | (rw [add_block]; exact zN (zM (by have := zJ _ _ hw184_1; first | rwa [add_block] at this | exact this) GW193.out)) | (show (Addr.add _ _).block ≠ _; rw [add_block]; exact zN (zM (by have := zJ _ _ hw184_1; first | rwa [add_block] at this | exact this) GW193.out)) | (dsimp only; exact zN (zM (by have := zJ _ _ hw184_1; first | rwa [add_block] at this | exact this) GW193.out))) _).trans (hHeld.2.2.2.2.1)))))), ((cell_far (p := ⟨gb193, _, none⟩) (by first | exact zN (zM (by have := zJ _ _ hw184_2; first | rwa [add_block] at this | exact this) GW193.out) | (rw [add_block]; exact zN (zM (by have := zJ _ _ hw184_2; first | rwa [add_block] at this | exact this) GW193.out)) | (show (Addr.add _ _).block ≠ _; rw [add_block]; exact zN (zM (by have := zJ _ _ hw184_2; first | rwa [add_block] at this | exact this) GW193.out)) | (dsimp only; exact zN (zM (by have := zJ _ _ hw184_2; first | rwa [add_block] at this | exact this) GW193.out))) _).trans (((cell_far (p := ⟨gb193, _, none⟩) (by first | exact zN (zM (by have := zJ _ _ hw184_2; first | rwa [add_block] at this | exact this) GW193.out) | (rw [add_block]; exact zN (zM (by have := zJ _ _ hw184_2; first | rwa [add_block] at this | exact this) GW193.out)) | (show (Addr.add _ _).block ≠ _; rw [add_block]; exact zN (zM (by have := zJ _ _ hw184_2; first | rwa [add_block] at this | exact this) GW193.out)) | (dsimp only; exact zN (zM (by have := zJ _ _ hw184_2; first | rwa [add_block] at this | exact this) GW193.out))) _).trans (((cell_far (p := ⟨gb193, _, none⟩) (by first | exact zN (zM (by have := zJ _ _ hw184_2; first | rwa [add_block] at this | exact this) GW193.out) | (rw [add_block]; exact zN (zM (by have := zJ _ _ hw184_2; first | rwa [add_block] at this | exact this) GW193.out)) | (show (Addr.add _ _).block ≠ _; rw [add_block]; exact zN (zM (by have := zJ _ _ hw184_2; first | rwa [add_block] at this | exact this) GW193.out)) | (dsimp only; exact zN (zM (by have := zJ _ _ hw184_2; first | rwa [add_block] at this | exact this) GW193.out))) _).trans (hHeld.2.2.2.2.2))))))⟩ (fun hHeld => ?_)
            clear hK K
            refine pure_ (i := 11) (N := some 12) (v := ?_) (a' := ?_) #[true, true, true, true, true, true, true, true, true, true, true, true] rfl rfl (any_of HT_.out (by kernel_rfl)) (fun _ _ _ h => h) (Or.inl ⟨by rfl, ?_⟩) ?_ ?_
            rotate_left
            ·intro w'
             go_simp
             with_reducible rfl
            rotate_left
            ·simp only [Act.put, zY, zZ, yA, i64_w, i32_w]
             rfl
            refine done_ (done_of HT_.out (by kernel_rfl)) ?_
            go_upto_if 64 with (first | ((with_reducible refine gate_callee (f := 19) rfl ?_); refine goesL_ (some 63) rfl rfl Try.func19 (by kernel_rfl) rfl #[.int .i64 t192] rfl zt ?_; (with_reducible refine (tollbarlaw0_Num.calls t192 t194 _ A41.out).mono ?_); rintro e w' ⟨rfl, ⟨nd, rfl⟩⟩; refine ⟨_, rfl, ?_⟩))
            (try simp only [Act.put, zY, zZ, yA])
            go_cut [] (fun wc => ∃ (kq : Nat) (xqa_41 : List (S64)) (xqb_41 : Int) (xqc_41 : List Int) (uqa : Value) (uqc : Value), Aside0 (tollbarlaw17_TreeOrders.j2 kq l0 y181 x10_2 a2_0 a2_1 xqa_41 xqb_41 xqc_41 xqd_2 xqe_2 xqf_2 = some r) ∧ Aside0 (kq ≤ k2) ∧ Aside0 (Kd.R k50 50 wc w.heap.size (fun _ => True) v182 y181) ∧ Aside0 (Kd.R k64 64 wc w.heap.size (fun k_ => True ∧ True) uqa xqa_41) ∧ Aside0 (Kd.R (Kd.int .i64) 3 wc w.heap.size (fun k_ => True ∧ True) uqc xqc_41) ∧ Aside0 (Kd.R k64 64 wc w.heap.size (fun k_ => True ∧ True) uqd xqd_2) ∧ Aside0 (Kd.R (Kd.int .i64) 3 wc w.heap.size (fun k_ => True ∧ True) uqf xqf_2) ∧ Aside0 (Kd.R k64 64 wc w.heap.size (fun k_ => True ∧ True) (.slice Ao49 t185.length co49) t185) ∧ Aside0 (Kd.R (Kd.int .i64) 3 wc w.heap.size (fun k_ => True ∧ True) (.slice Ao52 t189.length co52) t189) ∧ Aside0 (wc.heap[gb150]? = some (.cells #[.int .i64 a2_0, .int .i64 a2_1] 27 (0, 0))) ∧ Aside0 (wc.heap[gb165]? = some (.cells #[uqa, .int .i64 xqb_41, uqc] 25 (0, 0))) ∧ Aside0 (wc.heap[gb166]? = some (.cells #[uqd, .int .i64 xqe_2, uqf] 25 (0, 0))) ∧ Aside0 (wc.heap[gb193]? = some (.cells #[(.slice Ao49 t185.length co49), .int .i64 t188, (.slice Ao52 t189.length co52)] 25 (0, 0))) ∧ Aside0 (Below w.heap.size w wc))
            case first =>
             have H := HC42.out
             clear HC42
             by_cases c54 : t194 = 0
             ·rw [if_pos c54] at H
              have c54b0 : (t194 == 0) = true := yI.mpr c54
              have c54b1 : (t194 != 0) = false := yJ.mpr c54
              clear c54
              (first | rw [c54b0] | (simp only [i64_w, i32_w]; rw [c54b0]) | skip)
              have H' := zK H
              clear H
              have hnb55 := NB193_150.out
              have hnc55 := NB150_193.out
              have hnb56 := NB193_165.out
              have hnc56 := NB165_193.out
              have hnb57 := NB193_166.out
              have hnc57 := NB166_193.out
              have hcz58_0 : w48.cell? ⟨gb193, 0, none⟩ = some (.slice none 0 0) := (zQ BK193.out 0).trans rfl
              have hcz58_1 : w48.cell? ⟨gb193, 1, none⟩ = some (.int .i64 0) := (zQ BK193.out 1).trans rfl
              have hcz58_2 : w48.cell? ⟨gb193, 2, none⟩ = some (.slice none 0 0) := (zQ BK193.out 2).trans rfl
              have hfz58_0 := zR BK193.out 0
              have hfz58_1 := zR BK193.out 1
              have hfz58_2 := zR BK193.out 2
              have hnb59 := NB165_150.out
              have hnc59 := NB150_165.out
              have hnb60 := NB165_166.out
              have hnc60 := NB166_165.out
              have hcz61_0 : w48.cell? ⟨gb165, 0, none⟩ = some (.slice Ao43 xqa_2.length co43) := (zQ BK165.out 0).trans rfl
              have hcz61_1 : w48.cell? ⟨gb165, 1, none⟩ = some (.int .i64 xqb_2) := (zQ BK165.out 1).trans rfl
              have hcz61_2 : w48.cell? ⟨gb165, 2, none⟩ = some (.slice Ao44 xqc_2.length co44) := (zQ BK165.out 2).trans rfl
              have hfz61_0 := zR BK165.out 0
              have hfz61_1 := zR BK165.out 1
              have hfz61_2 := zR BK165.out 2
              go_wp2
              go_meet
              case rel => exact ⟨_, (t185), (t188), (t189), (.slice Ao49 t185.length co49), (.slice Ao52 t189.length co52), H', ⟨by have := HJ3.out; have := HK2.out; first | omega | exact Nat.le_refl _⟩, ⟨by (with_reducible repeat (first | apply zA | apply zB | apply zC)); exact Kd.R_mono (Kd.R_far (p := ⟨gb165, 2, none⟩) (Kd.R_far (p := ⟨gb165, 1, none⟩) (Kd.R_far (p := ⟨gb165, 0, none⟩) (Kd.R_far (p := ⟨gb193, 2, none⟩) (Kd.R_far (p := ⟨gb193, 1, none⟩) (Kd.R_far (p := ⟨gb193, 0, none⟩) (Kd.R_types (Kd.R_types HO_9.out BK193.out (by decide)) BK165.out (by decide)) (fun _ hk => hk.1.2) (.slice Ao49 t185.length co49)) (fun _ hk => hk.1.2) (.int .i64 t188)) (fun _ hk => hk.1.2) (.slice Ao52 t189.length co52)) (fun _ hk => hk.2) (.slice Ao49 t185.length co49)) (fun _ hk => hk.2) (.int .i64 t188)) (fun _ hk => hk.2) (.slice Ao52 t189.length co52)) (fun _ _ => by trivial)⟩, ⟨by (with_reducible repeat (first | apply zA | apply zB | apply zC)); exact Kd.R_mono (Kd.R_far (p := ⟨gb165, 2, none⟩) (Kd.R_far (p := ⟨gb165, 1, none⟩) (Kd.R_far (p := ⟨gb165, 0, none⟩) (Kd.R_far (p := ⟨gb193, 2, none⟩) (Kd.R_far (p := ⟨gb193, 1, none⟩) (Kd.R_far (p := ⟨gb193, 0, none⟩) (Kd.R_types (Kd.R_types HO187.out BK193.out (by decide)) BK165.out (by decide)) (fun _ hk => hk.1.2) (.slice Ao49 t185.length co49)) (fun _ hk => hk.1.2) (.int .i64 t188)) (fun _ hk => hk.1.2) (.slice Ao52 t189.length co52)) (fun _ hk => hk.2) (.slice Ao49 t185.length co49)) (fun _ hk => hk.2) (.int .i64 t188)) (fun _ hk => hk.2) (.slice Ao52 t189.length co52)) (fun _ _ => by trivial)⟩, ⟨by (with_reducible repeat (first | apply zA | apply zB | apply zC)); exact Kd.R_mono (Kd.R_far (p := ⟨gb165, 2, none⟩) (Kd.R_far (p := ⟨gb165, 1, none⟩) (Kd.R_far (p := ⟨gb165, 0, none⟩) (Kd.R_far (p := ⟨gb193, 2, none⟩) (Kd.R_far (p := ⟨gb193, 1, none⟩) (Kd.R_far (p := ⟨gb193, 0, none⟩) (Kd.R_types (Kd.R_types HO191.out BK193.out (by decide)) BK165.out (by decide)) (fun _ hk => hk.1.2) (.slice Ao49 t185.length co49)) (fun _ hk => hk.1.2) (.int .i64 t188)) (fun _ hk => hk.1.2) (.slice Ao52 t189.length co52)) (fun _ hk => hk.2) (.slice Ao49 t185.length co49)) (fun _ hk => hk.2) (.int .i64 t188)) (fun _ hk => hk.2) (.slice Ao52 t189.length co52)) (fun _ _ => by trivial)⟩, ⟨by (with_reducible repeat (first | apply zA | apply zB | apply zC)); exact Kd.R_mono (Kd.R_far (p := ⟨gb165, 2, none⟩) (Kd.R_far (p := ⟨gb165, 1, none⟩) (Kd.R_far (p := ⟨gb165, 0, none⟩) (Kd.R_far (p := ⟨gb193, 2, none⟩) (Kd.R_far (p := ⟨gb193, 1, none⟩) (Kd.R_far (p := ⟨gb193, 0, none⟩) (Kd.R_types (Kd.R_types HO_qd.out BK193.out (by decide)) BK165.out (by decide)) (fun _ hk => hk.1.2) (.slice Ao49 t185.length co49)) (fun _ hk => hk.1.2) (.int .i64 t188)) (fun _ hk => hk.1.2) (.slice Ao52 t189.length co52)) (fun _ hk => hk.2) (.slice Ao49 t185.length co49)) (fun _ hk => hk.2) (.int .i64 t188)) (fun _ hk => hk.2) (.slice Ao52 t189.length co52)) (fun _ _ => by trivial)⟩, ⟨by (with_reducible repeat (first | apply zA | apply zB | apply zC)); exact Kd.R_mono (Kd.R_far (p := ⟨gb165, 2, none⟩) (Kd.R_far (p := ⟨gb165, 1, none⟩) (Kd.R_far (p := ⟨gb165, 0, none⟩) (Kd.R_far (p := ⟨gb193, 2, none⟩) (Kd.R_far (p := ⟨gb193, 1, none⟩) (Kd.R_far (p := ⟨gb193, 0, none⟩) (Kd.R_types (Kd.R_types HO_qf.out BK193.out (by decide)) BK165.out (by decide)) (fun _ hk => hk.1.2) (.slice Ao49 t185.length co49)) (fun _ hk => hk.1.2) (.int .i64 t188)) (fun _ hk => hk.1.2) (.slice Ao52 t189.length co52)) (fun _ hk => hk.2) (.slice Ao49 t185.length co49)) (fun _ hk => hk.2) (.int .i64 t188)) (fun _ hk => hk.2) (.slice Ao52 t189.length co52)) (fun _ _ => by trivial)⟩, ⟨by (with_reducible repeat (first | apply zA | apply zB | apply zC)); exact Kd.R_mono (Kd.R_far (p := ⟨gb165, 2, none⟩) (Kd.R_far (p := ⟨gb165, 1, none⟩) (Kd.R_far (p := ⟨gb165, 0, none⟩) (Kd.R_far (p := ⟨gb193, 2, none⟩) (Kd.R_far (p := ⟨gb193, 1, none⟩) (Kd.R_far (p := ⟨gb193, 0, none⟩) (Kd.R_types (Kd.R_types HO187.out BK193.out (by decide)) BK165.out (by decide)) (fun _ hk => hk.1.2) (.slice Ao49 t185.length co49)) (fun _ hk => hk.1.2) (.int .i64 t188)) (fun _ hk => hk.1.2) (.slice Ao52 t189.length co52)) (fun _ hk => hk.2) (.slice Ao49 t185.length co49)) (fun _ hk => hk.2) (.int .i64 t188)) (fun _ hk => hk.2) (.slice Ao52 t189.length co52)) (fun _ _ => by trivial)⟩, ⟨by (with_reducible repeat (first | apply zA | apply zB | apply zC)); exact Kd.R_mono (Kd.R_far (p := ⟨gb165, 2, none⟩) (Kd.R_far (p := ⟨gb165, 1, none⟩) (Kd.R_far (p := ⟨gb165, 0, none⟩) (Kd.R_far (p := ⟨gb193, 2, none⟩) (Kd.R_far (p := ⟨gb193, 1, none⟩) (Kd.R_far (p := ⟨gb193, 0, none⟩) (Kd.R_types (Kd.R_types HO191.out BK193.out (by decide)) BK165.out (by decide)) (fun _ hk => hk.1.2) (.slice Ao49 t185.length co49)) (fun _ hk => hk.1.2) (.int .i64 t188)) (fun _ hk => hk.1.2) (.slice Ao52 t189.length co52)) (fun _ hk => hk.2) (.slice Ao49 t185.length co49)) (fun _ hk => hk.2) (.int .i64 t188)) (fun _ hk => hk.2) (.slice Ao52 t189.length co52)) (fun _ _ => by trivial)⟩, ⟨by (with_reducible repeat (first | refine zD ?_ _ | refine zE ?_ | refine zF ?_ _)); refine blk_far ?_ NB150_165.out _; (with_reducible repeat (first | refine zD ?_ _ | refine zE ?_ | refine zF ?_ _)); refine blk_far ?_ NB150_165.out _; (with_reducible repeat (first | refine zD ?_ _ | refine zE ?_ | refine zF ?_ _)); refine blk_far ?_ NB150_165.out _; (with_reducible repeat (first | refine zD ?_ _ | refine zE ?_ | refine zF ?_ _)); refine blk_far ?_ NB150_193.out _; (with_reducible repeat (first | refine zD ?_ _ | refine zE ?_ | refine zF ?_ _)); refine blk_far ?_ NB150_193.out _; (with_reducible repeat (first | refine zD ?_ _ | refine zE ?_ | refine zF ?_ _)); refine blk_far ?_ NB150_193.out _; (with_reducible repeat (first | refine zD ?_ _ | refine zE ?_ | refine zF ?_ _)); exact BK150.out⟩, ⟨by (with_reducible repeat (first | refine zD ?_ _ | refine zE ?_ | refine zF ?_ _)); refine blk_put (cs := #[.slice Ao49 t185.length co49, .int .i64 t188, .slice Ao44 xqc_2.length co44]) ?_ 2 _ rfl; (with_reducible repeat (first | refine zD ?_ _ | refine zE ?_ | refine zF ?_ _)); refine blk_put (cs := #[.slice Ao49 t185.length co49, .int .i64 xqb_2, .slice Ao44 xqc_2.length co44]) ?_ 1 _ rfl; (with_reducible repeat (first | refine zD ?_ _ | refine zE ?_ | refine zF ?_ _)); refine blk_put (cs := #[.slice Ao43 xqa_2.length co43, .int .i64 xqb_2, .slice Ao44 xqc_2.length co44]) ?_ 0 _ rfl; (with_reducible repeat (first | refine zD ?_ _ | refine zE ?_ | refine zF ?_ _)); refine blk_far ?_ NB165_193.out _; (with_reducible repeat (first | refine zD ?_ _ | refine zE ?_ | refine zF ?_ _)); refine blk_far ?_ NB165_193.out _; (with_reducible repeat (first | refine zD ?_ _ | refine zE ?_ | refine zF ?_ _)); refine blk_far ?_ NB165_193.out _; (with_reducible repeat (first | refine zD ?_ _ | refine zE ?_ | refine zF ?_ _)); exact BK165.out⟩, ⟨by (with_reducible repeat (first | refine zD ?_ _ | refine zE ?_ | refine zF ?_ _)); refine blk_far ?_ NB166_165.out _; (with_reducible repeat (first | refine zD ?_ _ | refine zE ?_ | refine zF ?_ _)); refine blk_far ?_ NB166_165.out _; (with_reducible repeat (first | refine zD ?_ _ | refine zE ?_ | refine zF ?_ _)); refine blk_far ?_ NB166_165.out _; (with_reducible repeat (first | refine zD ?_ _ | refine zE ?_ | refine zF ?_ _)); refine blk_far ?_ NB166_193.out _; (with_reducible repeat (first | refine zD ?_ _ | refine zE ?_ | refine zF ?_ _)); refine blk_far ?_ NB166_193.out _; (with_reducible repeat (first | refine zD ?_ _ | refine zE ?_ | refine zF ?_ _)); refine blk_far ?_ NB166_193.out _; (with_reducible repeat (first | refine zD ?_ _ | refine zE ?_ | refine zF ?_ _)); exact BK166.out⟩, ⟨by (with_reducible repeat (first | refine zD ?_ _ | refine zE ?_ | refine zF ?_ _)); refine blk_far ?_ NB193_165.out _; (with_reducible repeat (first | refine zD ?_ _ | refine zE ?_ | refine zF ?_ _)); refine blk_far ?_ NB193_165.out _; (with_reducible repeat (first | refine zD ?_ _ | refine zE ?_ | refine zF ?_ _)); refine blk_far ?_ NB193_165.out _; (with_reducible repeat (first | refine zD ?_ _ | refine zE ?_ | refine zF ?_ _)); refine blk_put (cs := #[.slice Ao49 t185.length co49, .int .i64 t188, .slice none 0 0]) ?_ 2 _ rfl; (with_reducible repeat (first | refine zD ?_ _ | refine zE ?_ | refine zF ?_ _)); refine blk_put (cs := #[.slice Ao49 t185.length co49, .int .i64 0, .slice none 0 0]) ?_ 1 _ rfl; (with_reducible repeat (first | refine zD ?_ _ | refine zE ?_ | refine zF ?_ _)); refine blk_put (cs := #[.slice none 0 0, .int .i64 0, .slice none 0 0]) ?_ 0 _ rfl; (with_reducible repeat (first | refine zD ?_ _ | refine zE ?_ | refine zF ?_ _)); exact BK193.out⟩, ⟨by repeat (first | (with_reducible first | exact HB.out | apply zG | apply zH | apply zI | refine zL ?_ GE150.out | refine zL ?_ GE165.out | refine zL ?_ GE166.out | refine zL ?_ GE193.out) | exact HB.out)⟩⟩
             ·rw [if_neg c54] at H
              have c54b0 : (t194 == 0) = false := yK.mpr c54
              have c54b1 : (t194 != 0) = true := yL.mpr c54
              (first | rw [c54b0] | (simp only [i64_w, i32_w]; rw [c54b0]) | skip)
              have H' := zK H
              clear H
              go_wp2
              go_meet
              case rel => exact ⟨_, (xqa_2), (xqb_2), (xqc_2), (.slice Ao43 xqa_2.length co43), (.slice Ao44 xqc_2.length co44), H', ⟨by have := HJ3.out; have := HK2.out; first | omega | exact Nat.le_refl _⟩, ⟨by (with_reducible repeat (first | apply zA | apply zB | apply zC)); exact Kd.R_mono (Kd.R_far (p := ⟨gb193, 2, none⟩) (Kd.R_far (p := ⟨gb193, 1, none⟩) (Kd.R_far (p := ⟨gb193, 0, none⟩) (Kd.R_types HO_9.out BK193.out (by decide)) (fun _ hk => hk.2) (.slice Ao49 t185.length co49)) (fun _ hk => hk.2) (.int .i64 t188)) (fun _ hk => hk.2) (.slice Ao52 t189.length co52)) (fun _ _ => by trivial)⟩, ⟨by (with_reducible repeat (first | apply zA | apply zB | apply zC)); exact Kd.R_mono (Kd.R_far (p := ⟨gb193, 2, none⟩) (Kd.R_far (p := ⟨gb193, 1, none⟩) (Kd.R_far (p := ⟨gb193, 0, none⟩) (Kd.R_types HO_qa.out BK193.out (by decide)) (fun _ hk => hk.2) (.slice Ao49 t185.length co49)) (fun _ hk => hk.2) (.int .i64 t188)) (fun _ hk => hk.2) (.slice Ao52 t189.length co52)) (fun _ _ => by trivial)⟩, ⟨by (with_reducible repeat (first | apply zA | apply zB | apply zC)); exact Kd.R_mono (Kd.R_far (p := ⟨gb193, 2, none⟩) (Kd.R_far (p := ⟨gb193, 1, none⟩) (Kd.R_far (p := ⟨gb193, 0, none⟩) (Kd.R_types HO_qc.out BK193.out (by decide)) (fun _ hk => hk.2) (.slice Ao49 t185.length co49)) (fun _ hk => hk.2) (.int .i64 t188)) (fun _ hk => hk.2) (.slice Ao52 t189.length co52)) (fun _ _ => by trivial)⟩, ⟨by (with_reducible repeat (first | apply zA | apply zB | apply zC)); exact Kd.R_mono (Kd.R_far (p := ⟨gb193, 2, none⟩) (Kd.R_far (p := ⟨gb193, 1, none⟩) (Kd.R_far (p := ⟨gb193, 0, none⟩) (Kd.R_types HO_qd.out BK193.out (by decide)) (fun _ hk => hk.2) (.slice Ao49 t185.length co49)) (fun _ hk => hk.2) (.int .i64 t188)) (fun _ hk => hk.2) (.slice Ao52 t189.length co52)) (fun _ _ => by trivial)⟩, ⟨by (with_reducible repeat (first | apply zA | apply zB | apply zC)); exact Kd.R_mono (Kd.R_far (p := ⟨gb193, 2, none⟩) (Kd.R_far (p := ⟨gb193, 1, none⟩) (Kd.R_far (p := ⟨gb193, 0, none⟩) (Kd.R_types HO_qf.out BK193.out (by decide)) (fun _ hk => hk.2) (.slice Ao49 t185.length co49)) (fun _ hk => hk.2) (.int .i64 t188)) (fun _ hk => hk.2) (.slice Ao52 t189.length co52)) (fun _ _ => by trivial)⟩, ⟨by (with_reducible repeat (first | apply zA | apply zB | apply zC)); exact Kd.R_mono (Kd.R_far (p := ⟨gb193, 2, none⟩) (Kd.R_far (p := ⟨gb193, 1, none⟩) (Kd.R_far (p := ⟨gb193, 0, none⟩) (Kd.R_types HO187.out BK193.out (by decide)) (fun _ hk => hk.2) (.slice Ao49 t185.length co49)) (fun _ hk => hk.2) (.int .i64 t188)) (fun _ hk => hk.2) (.slice Ao52 t189.length co52)) (fun _ _ => by trivial)⟩, ⟨by (with_reducible repeat (first | apply zA | apply zB | apply zC)); exact Kd.R_mono (Kd.R_far (p := ⟨gb193, 2, none⟩) (Kd.R_far (p := ⟨gb193, 1, none⟩) (Kd.R_far (p := ⟨gb193, 0, none⟩) (Kd.R_types HO191.out BK193.out (by decide)) (fun _ hk => hk.2) (.slice Ao49 t185.length co49)) (fun _ hk => hk.2) (.int .i64 t188)) (fun _ hk => hk.2) (.slice Ao52 t189.length co52)) (fun _ _ => by trivial)⟩, ⟨by (with_reducible repeat (first | refine zD ?_ _ | refine zE ?_ | refine zF ?_ _)); refine blk_far ?_ NB150_193.out _; (with_reducible repeat (first | refine zD ?_ _ | refine zE ?_ | refine zF ?_ _)); refine blk_far ?_ NB150_193.out _; (with_reducible repeat (first | refine zD ?_ _ | refine zE ?_ | refine zF ?_ _)); refine blk_far ?_ NB150_193.out _; (with_reducible repeat (first | refine zD ?_ _ | refine zE ?_ | refine zF ?_ _)); exact BK150.out⟩, ⟨by (with_reducible repeat (first | refine zD ?_ _ | refine zE ?_ | refine zF ?_ _)); refine blk_far ?_ NB165_193.out _; (with_reducible repeat (first | refine zD ?_ _ | refine zE ?_ | refine zF ?_ _)); refine blk_far ?_ NB165_193.out _; (with_reducible repeat (first | refine zD ?_ _ | refine zE ?_ | refine zF ?_ _)); refine blk_far ?_ NB165_193.out _; (with_reducible repeat (first | refine zD ?_ _ | refine zE ?_ | refine zF ?_ _)); exact BK165.out⟩, ⟨by (with_reducible repeat (first | refine zD ?_ _ | refine zE ?_ | refine zF ?_ _)); refine blk_far ?_ NB166_193.out _; (with_reducible repeat (first | refine zD ?_ _ | refine zE ?_ | refine zF ?_ _)); refine blk_far ?_ NB166_193.out _; (with_reducible repeat (first | refine zD ?_ _ | refine zE ?_ | refine zF ?_ _)); refine blk_far ?_ NB166_193.out _; (with_reducible repeat (first | refine zD ?_ _ | refine zE ?_ | refine zF ?_ _)); exact BK166.out⟩, ⟨by (with_reducible repeat (first | refine zD ?_ _ | refine zE ?_ | refine zF ?_ _)); refine blk_put (cs := #[.slice Ao49 t185.length co49, .int .i64 t188, .slice none 0 0]) ?_ 2 _ rfl; (with_reducible repeat (first | refine zD ?_ _ | refine zE ?_ | refine zF ?_ _)); refine blk_put (cs := #[.slice Ao49 t185.length co49, .int .i64 0, .slice none 0 0]) ?_ 1 _ rfl; (with_reducible repeat (first | refine zD ?_ _ | refine zE ?_ | refine zF ?_ _)); refine blk_put (cs := #[.slice none 0 0, .int .i64 0, .slice none 0 0]) ?_ 0 _ rfl; (with_reducible repeat (first | refine zD ?_ _ | refine zE ?_ | refine zF ?_ _)); exact BK193.out⟩, ⟨by repeat (first | (with_reducible first | exact HB.out | apply zG | apply zH | apply zI | refine zL ?_ GE150.out | refine zL ?_ GE165.out | refine zL ?_ GE166.out | refine zL ?_ GE193.out) | exact HB.out)⟩⟩
            case rest =>
             clear HC42
             try clear c1
             try clear p1
             try clear q1
             try clear hx1
             try clear c2
             try clear p2
             try clear c3
             try clear q3
             try clear c5
             try clear c6
             try clear c6b0
             try clear c7
             try clear c7b0
             try clear c8
             try clear c11
             try clear c11b0
             try clear c11b1
             try clear c12
             try clear c12b0
             try clear c12b1
             try clear c13
             try clear c14
             try clear c14b0
             try clear c15
             try clear c15b0
             try clear c16
             try clear p18
             try clear q18
             try clear hx18
             try clear c19
             try clear c22
             try clear c23
             try clear c26
             try clear c27
             try clear c32
             try clear q32
             try clear c33
             try clear q33
             try clear c38
             try clear c38b0
             try clear c39
             try clear c39b0
             try clear c54
             try clear c54b0
             try clear c54b1
             try clear c55
             try clear c56
             try clear c57
             try clear c59
             try clear c60
             try clear hcz24_0
             try clear hcz24_1
             try clear hcz24_2
             try clear hcz28_0
             try clear hcz28_1
             try clear hcz28_2
             try clear hcz58_0
             try clear hcz58_1
             try clear hcz58_2
             try clear hcz61_0
             try clear hcz61_1
             try clear hcz61_2
             try clear hfz24_0
             try clear hfz24_1
             try clear hfz24_2
             try clear hfz28_0
             try clear hfz28_1
             try clear hfz28_2
             try clear hfz58_0
             try clear hfz58_1
             try clear hfz58_2
             try clear hfz61_0
             try clear hfz61_1
             try clear hfz61_2
             try clear hx184_0
             try clear hx184_1
             try clear hx184_2
             try clear p184
             try clear p2
             try clear q032
             try clear q184
             try clear q3
             try clear q32
             try clear q33
             obtain ⟨kq, xqa_41, xqb_41, xqc_41, uqa, uqc, HA, HJ41, HO_9, HO_qa, HO_qc, HO_qd, HO_qf, HO_qg, HO_qh, BK150, BK165, BK166, BK193, HB⟩ := hcut
             cases kq with
             | zero => exact absurd HA.out (by simp [tollbarlaw17_TreeOrders.j2])
             | succ kj41 =>
              have H := HA.out
              clear HA
              simp only [tollbarlaw17_TreeOrders.j2] at H
              by_cases c62 : 0 ≤ x10_2
              ·rw [if_pos c62] at H
               have c62b0 : decide (0 ≤ x10_2) = true := decide_eq_true c62
               clear c62
               by_cases c63 : x10_2 < (y181.length : Int)
               ·rw [if_pos c63] at H
                have c63b0 : decide (x10_2 < (y181.length : Int)) = true := decide_eq_true c63
                clear c63
                replace H := yH.mp H
                obtain ⟨⟨t196, t199, t200, t203⟩, A640, H⟩ := H
                replace H : ((tollbarlaw0_Num.f t203).bind fun t205 => (if t205 = 0 then (tollbarlaw17_TreeOrders.l0 kj41 l0 y181 (wrap64 (x10_2 + 1)) a2_0 a2_1 xqa_41 xqb_41 xqc_41 t196 t199 t200) else (tollbarlaw17_TreeOrders.l0 kj41 l0 y181 (wrap64 (x10_2 + 1)) a2_0 a2_1 xqa_41 xqb_41 xqc_41 xqd_2 xqe_2 xqf_2))) = some r := H
                have A64 := zK A640
                clear A640
                replace H := yH.mp H
                obtain ⟨t205, A650, H⟩ := H
                replace H : (if t205 = 0 then (tollbarlaw17_TreeOrders.l0 kj41 l0 y181 (wrap64 (x10_2 + 1)) a2_0 a2_1 xqa_41 xqb_41 xqc_41 t196 t199 t200) else (tollbarlaw17_TreeOrders.l0 kj41 l0 y181 (wrap64 (x10_2 + 1)) a2_0 a2_1 xqa_41 xqb_41 xqc_41 xqd_2 xqe_2 xqf_2)) = some r := H
                have A65 := zK A650
                clear A650
                by_cases c66 : t205 = 0
                ·rw [if_pos c66] at H
                 have c66b0 : (t205 == 0) = true := yI.mpr c66
                 have c66b1 : (t205 != 0) = false := yJ.mpr c66
                 clear c66
                 have H' := zK H
                 clear H
                 obtain ⟨Ao67, co67, eo67⟩ := yE HO_qd.out
                 subst eo67
                 obtain ⟨Ao68, co68, eo68⟩ := yE HO_qf.out
                 subst eo68
                 try go_wp2
                 have n0_ := zK (zC HO_9.out)
                 have n1_ := zK (zC HO_qa.out)
                 have n2_ := zK (zC HO_qc.out)
                 have n3_ := zK (zC HO_qd.out)
                 have n4_ := zK (zC HO_qf.out)
                 have n5_ := zK (zC HO_qg.out)
                 have n6_ := zK (zC HO_qh.out)
                 have n7_ := zK (zE BK150.out)
                 have n8_ := zK (zE BK165.out)
                 have n9_ := zK (zE BK166.out)
                 have n10_ := zK (zE BK193.out)
                 have n11_ := zK (zI HB.out)
                 clear HO_9
                 clear HO_qa
                 clear HO_qc
                 clear HO_qd
                 clear HO_qf
                 clear HO_qg
                 clear HO_qh
                 clear BK150
                 clear BK165
                 clear BK166
                 clear BK193
                 clear HB
                 have HO_9 := n0_
                 have HO_qa := n1_
                 have HO_qc := n2_
                 have HO_qd := n3_
                 have HO_qf := n4_
                 have HO_qg := n5_
                 have HO_qh := n6_
                 have BK150 := n7_
                 have BK165 := n8_
                 have BK166 := n9_
                 have BK193 := n10_
                 have HB := n11_
                 clear n0_ n1_ n2_ n3_ n4_ n5_ n6_ n7_ n8_ n9_ n10_ n11_
                 obtain ⟨Ao70, co70, eo70⟩ := yE HO_9.out
                 (first | subst eo70 | (injection eo70 with f1_ f2_ f3_; have f4_ := f1_.symm; have f5_ := f3_.symm; clear f1_ f2_ f3_; subst f4_; subst f5_))
                 have p195 : 0 ≤ (x10_2 : Int) := of_decide_eq_true (by first | (with_reducible assumption) | assumption)
                 have q195 : x10_2 < (y181.length : Int) := of_decide_eq_true (by first | (with_reducible assumption) | assumption)
                 obtain ⟨ad195, e195, hx195_0, hx195_1, hx195_2⟩ := at_T50 (zX HO_9.out).2.2 x10_2 p195 q195
                 cases e195
                 replace p195 := eq_true p195
                 replace q195 := eq_true q195
                 refine start_ (n := 12) (S := fun w' => w'.cell? ⟨gb166, 0, none⟩ = some (.slice Ao67 xqd_2.length co67) ∧ w'.cell? ⟨gb166, 1, none⟩ = some (.int .i64 xqe_2) ∧ w'.cell? ⟨gb166, 2, none⟩ = some (.slice Ao68 xqf_2.length co68) ∧ w'.cell? (ad195.add ((x10_2).toNat * 3)) = some (.int .i64 ((rd_T50 y181 x10_2).f0.f0)) ∧ w'.cell? ⟨(ad195.add ((x10_2).toNat * 3)).block, (ad195.add ((x10_2).toNat * 3)).off + 1, none⟩ = some (.int .i64 ((rd_T50 y181 x10_2).f0.f1)) ∧ w'.cell? ⟨(ad195.add ((x10_2).toNat * 3)).block, (ad195.add ((x10_2).toNat * 3)).off + 2, none⟩ = some (.int .i64 ((rd_T50 y181 x10_2).f1))) (ds := []) #[false, false, false, false, false, false, false, false, false, false, false, false] (by kernel_rfl) rfl rfl ⟨(zQ BK166.out 0).trans rfl, (zQ BK166.out 1).trans rfl, (zQ BK166.out 2).trans rfl, hx195_0, hx195_1, hx195_2⟩ (fun hHeld => ?_); refine with_tabW tollbarlaw17_TreeOrders.tab11 tollbarlaw17_TreeOrders.bits11 (fun HT_ HW_ => ?_)
                 generalize wc.drew = w69 at HO_9 HO_qa HO_qc HO_qd HO_qf HO_qg HO_qh BK150 BK165 BK166 BK193 HB hx195_0 hx195_1 hx195_2 hHeld ⊢
                 refine pure_ (i := 1) (N := some 68) (v := ?_) (a' := ?_) #[false, true, false, false, false, false, false, false, false, false, false, false] rfl rfl (any_of HT_.out (by kernel_rfl)) (fun _ _ _ h => h) (Or.inl ⟨by rfl, ?_⟩) ?_ ?_
                 rotate_left
                 ·intro w'
                  go_simp
                  with_reducible rfl
                 rotate_left
                 ·simp only [Act.put, zY, zZ, yA, i64_w, i32_w]
                  rfl
                 refine pure_ (i := 2) (N := some 69) (v := ?_) (a' := ?_) #[false, true, true, false, false, false, false, false, false, false, false, false] rfl rfl (any_of HT_.out (by kernel_rfl)) (fun _ _ _ h => h) (Or.inl ⟨by rfl, ?_⟩) ?_ ?_
                 rotate_left
                 ·intro w'
                  go_simp
                  with_reducible rfl
                 rotate_left
                 ·simp only [Act.put, zY, zZ, yA, i64_w, i32_w]
                  rfl
                 refine pure_ (i := 3) (N := some 70) (v := ?_) (a' := ?_) #[false, true, true, true, false, false, false, false, false, false, false, false] rfl rfl (any_of HT_.out (by kernel_rfl)) (fun _ _ _ h => h) (Or.inl ⟨by rfl, ?_⟩) ?_ ?_
                 rotate_left
                 ·intro w'
                  go_simp
                  with_reducible rfl
                 rotate_left
                 ·simp only [Act.put, zY, zZ, yA, i64_w, i32_w]
                  rfl
                 refine take_ (i := 0) (N := some 67) (v := ?_) (a' := ?_) #[true, true, true, true, false, false, false, false, false, false, false, false] rfl rfl (take_ofW HT_.out HW_.out (by kernel_rfl)) (fun _ _ _ h => h) (Or.inl ⟨by rfl, ?_⟩) hHeld ?_ ?_
                 rotate_left
                 ·rintro w' ⟨s0, s1, s2, s3, s4, s5⟩
                  go_simp
                  with_reducible rfl
                 rotate_left
                 ·simp only [Act.put, zY, zZ, yA, i64_w, i32_w]
                  rfl
                 refine take_ (i := 4) (N := some 71) (v := ?_) (a' := ?_) #[true, true, true, true, true, false, false, false, false, false, false, false] rfl rfl (take_ofW HT_.out HW_.out (by kernel_rfl)) (fun _ _ _ h => h) (Or.inl ⟨by rfl, ?_⟩) hHeld ?_ ?_
                 rotate_left
                 ·rintro w' ⟨s0, s1, s2, s3, s4, s5⟩
                  go_simp
                  with_reducible rfl
                 rotate_left
                 ·simp only [Act.put, zY, zZ, yA, i64_w, i32_w]
                  rfl
                 refine join_ (σ := Value × Value × Nat) 2 #[true, true, true, true, true, true, true, true, true, true, false, false] (fun s_ => [(72, .tuple #[.agg #[s_.1, .int .i64 t199, s_.2.1], .int .i64 t203]), (13, .pointer (some ⟨s_.2.2, 0, none⟩)), (66, .tuple #[.agg #[s_.1, .int .i64 t199, s_.2.1], .int .i64 t203]), (73, .agg #[s_.1, .int .i64 t199, s_.2.1]), (74, .int .i64 t203)]) (fun s_ w' => (w'.cell? ⟨gb166, 0, none⟩ = some (.slice Ao67 xqd_2.length co67) ∧ w'.cell? ⟨gb166, 1, none⟩ = some (.int .i64 xqe_2) ∧ w'.cell? ⟨gb166, 2, none⟩ = some (.slice Ao68 xqf_2.length co68) ∧ w'.cell? (ad195.add ((x10_2).toNat * 3)) = some (.int .i64 ((rd_T50 y181 x10_2).f0.f0)) ∧ w'.cell? ⟨(ad195.add ((x10_2).toNat * 3)).block, (ad195.add ((x10_2).toNat * 3)).off + 1, none⟩ = some (.int .i64 ((rd_T50 y181 x10_2).f0.f1)) ∧ w'.cell? ⟨(ad195.add ((x10_2).toNat * 3)).block, (ad195.add ((x10_2).toNat * 3)).off + 2, none⟩ = some (.int .i64 ((rd_T50 y181 x10_2).f1))) ∧ (Kd.R k64 64 w' w.heap.size (fun k_ => some k_ ≠ (uqa : Value).ownBlock ∧ some k_ ≠ (.slice Ao67 xqd_2.length co67 : Value).ownBlock ∧ some k_ ≠ (.slice Ao49 t185.length co49 : Value).ownBlock) s_.1 t196) ∧ (Kd.R (Kd.int .i64) 3 w' w.heap.size (fun k_ => some k_ ≠ (uqc : Value).ownBlock ∧ some k_ ≠ (.slice Ao68 xqf_2.length co68 : Value).ownBlock ∧ some k_ ≠ (.slice Ao52 t189.length co52 : Value).ownBlock) s_.2.1 t200) ∧ (Kd.R k64 64 w' w.heap.size (fun k_ => some k_ ≠ (s_.1 : Value).ownBlock ∧ True ∧ True) uqa xqa_41) ∧ (Kd.R (Kd.int .i64) 3 w' w.heap.size (fun k_ => some k_ ≠ (s_.2.1 : Value).ownBlock ∧ True ∧ True) uqc xqc_41) ∧ (Kd.R k64 64 w' w.heap.size (fun k_ => some k_ ≠ (s_.1 : Value).ownBlock ∧ True ∧ True) (.slice Ao67 xqd_2.length co67) xqd_2) ∧ (Kd.R (Kd.int .i64) 3 w' w.heap.size (fun k_ => some k_ ≠ (s_.2.1 : Value).ownBlock ∧ True ∧ True) (.slice Ao68 xqf_2.length co68) xqf_2) ∧ (Kd.R k64 64 w' w.heap.size (fun k_ => some k_ ≠ (s_.1 : Value).ownBlock ∧ True ∧ True) (.slice Ao49 t185.length co49) t185) ∧ (Kd.R (Kd.int .i64) 3 w' w.heap.size (fun k_ => some k_ ≠ (s_.2.1 : Value).ownBlock ∧ True ∧ True) (.slice Ao52 t189.length co52) t189) ∧ (Kd.R k50 50 w' w.heap.size (fun _ => True) (.slice (some ad195) y181.length co70) y181) ∧ (w'.heap[gb150]? = some (.cells #[.int .i64 a2_0, .int .i64 a2_1] 27 (0, 0))) ∧ (w'.heap[gb165]? = some (.cells #[uqa, .int .i64 xqb_41, uqc] 25 (0, 0))) ∧ (w'.heap[gb166]? = some (.cells #[.slice Ao67 xqd_2.length co67, .int .i64 xqe_2, .slice Ao68 xqf_2.length co68] 25 (0, 0))) ∧ (w'.heap[gb193]? = some (.cells #[.slice Ao49 t185.length co49, .int .i64 t188, .slice Ao52 t189.length co52] 25 (0, 0))) ∧ (w'.heap[s_.2.2]? = some (.cells #[.slice none 0 0, .int .i64 0, .slice none 0 0] 25 (0, 0))) ∧ (w.heap.size ≤ s_.2.2) ∧ (w.heap.size ≤ s_.2.2) ∧ (gb150 ≠ s_.2.2) ∧ (s_.2.2 ≠ gb150) ∧ (gb165 ≠ s_.2.2) ∧ (s_.2.2 ≠ gb165) ∧ (gb166 ≠ s_.2.2) ∧ (s_.2.2 ≠ gb166) ∧ (gb193 ≠ s_.2.2) ∧ (s_.2.2 ≠ gb193) ∧ (Below w.heap.size w w')) ?_ ?_
                 rotate_left
                 ·intro hCont
                  refine two_ (i := 5) (j := 9) (Ni := some 72) (Nj := some 13) #[true, true, true, true, true, true, false, false, false, false, false, false] #[true, true, true, true, true, false, false, false, false, true, false, false] rfl rfl rfl rfl (two_of HT_.out (by kernel_rfl)) (by decide) (by decide) (fun K hK => ?_) (fun K hK => ?_)
                  ·skip
                   refine goes_ Try.func26 (by kernel_rfl) rfl #[.agg #[.slice Ao67 xqd_2.length co67, .int .i64 xqe_2, .slice Ao68 xqf_2.length co68], .agg #[.int .i64 ((rd_T50 y181 x10_2).f0.f0), .int .i64 ((rd_T50 y181 x10_2).f0.f1), .int .i64 ((rd_T50 y181 x10_2).f1)]] (by rfl) rfl rfl zt ?_
                   with_reducible refine (tree_Insert.calls _ _ xqd_2 xqe_2 _ _ xqf_2 ((rd_T50 y181 x10_2).f0.f0) ((rd_T50 y181 x10_2).f0.f1) ((rd_T50 y181 x10_2).f1) t196 t199 t200 t203 _ ?side1 ?side2 ?side3 ?side4 A64.out).mono ?_
                   (case side1 => exact zc (zX HO_qd.out).2.2)
                   (case side2 => exact (zX HO_qd.out).2.1)
                   (case side3 => exact zc (zX HO_qf.out).2.2)
                   (case side4 => exact (zX HO_qf.out).2.1)
                   rintro e w71 ⟨v197, v201, rfl, ho0, ho1, hb⟩
                   have HS3_ := (hb.cell (zJ _ _ (hHeld.2.2.2.1))).trans (hHeld.2.2.2.1)
                   have HS4_ := (hb.cell (zJ _ _ (hHeld.2.2.2.2.1))).trans (hHeld.2.2.2.2.1)
                   have HS5_ := (hb.cell (zJ _ _ (hHeld.2.2.2.2.2))).trans (hHeld.2.2.2.2.2)
                   refine ⟨_, rfl, ?_⟩
                   have n0_ := zK (zO (zr HO_9.out) hb)
                   have n1_ := zK (yC (zr HO_qa.out) (Kd.R_base ho0) hb)
                   have n2_ := zK (yC (zr HO_qc.out) (Kd.R_base ho1) hb)
                   have n3_ := zK (yC (zr HO_qd.out) (Kd.R_base ho0) hb)
                   have n4_ := zK (yC (zr HO_qf.out) (Kd.R_base ho1) hb)
                   have n5_ := zK (yC (zr HO_qg.out) (Kd.R_base ho0) hb)
                   have n6_ := zK (yC (zr HO_qh.out) (Kd.R_base ho1) hb)
                   have n7_ := zK (zV (zW (zW (zW ho0 (yB (zr HO_qa.out))) (yB (zr HO_qd.out))) (yB (zr HO_qg.out))) (yG (zl HB.out)))
                   have n8_ := zK (zV (zW (zW (zW ho1 (yB (zr HO_qc.out))) (yB (zr HO_qf.out))) (yB (zr HO_qh.out))) (yG (zl HB.out)))
                   have n9_ := zK (zP (g := gb150) (o := .cells #[.int .i64 a2_0, .int .i64 a2_1] 27 (0, 0)) (zb BK150.out) hb)
                   have n10_ := zK (zP (g := gb165) (o := .cells #[uqa, .int .i64 xqb_41, uqc] 25 (0, 0)) (zb BK165.out) hb)
                   have n11_ := zK (zP (g := gb166) (o := .cells #[.slice Ao67 xqd_2.length co67, .int .i64 xqe_2, .slice Ao68 xqf_2.length co68] 25 (0, 0)) (zb BK166.out) hb)
                   have n12_ := zK (zP (g := gb193) (o := .cells #[.slice Ao49 t185.length co49, .int .i64 t188, .slice Ao52 t189.length co52] 25 (0, 0)) (zb BK193.out) hb)
                   have n13_ := zK (yF (zl HB.out) hb)
                   clear HO_9
                   clear HO_qa
                   clear HO_qc
                   clear HO_qd
                   clear HO_qf
                   clear HO_qg
                   clear HO_qh
                   clear BK150
                   clear BK165
                   clear BK166
                   clear BK193
                   clear HB
                   have HO_9 := n0_
                   have HO_qa := n1_
                   have HO_qc := n2_
                   have HO_qd := n3_
                   have HO_qf := n4_
                   have HO_qg := n5_
                   have HO_qh := n6_
                   have HO198 := n7_
                   have HO202 := n8_
                   have BK150 := n9_
                   have BK165 := n10_
                   have BK166 := n11_
                   have BK193 := n12_
                   have HB := n13_
                   clear n0_ n1_ n2_ n3_ n4_ n5_ n6_ n7_ n8_ n9_ n10_ n11_ n12_ n13_
                   (try clear hb)
                   (try clear hb2)
                   (try clear hk)
                   (try clear hi)
                   (try clear ho0)
                   (try clear ho1)
                   refine hK.out _ _ ⟨(zQ BK166.out 0).trans rfl, (zQ BK166.out 1).trans rfl, (zQ BK166.out 2).trans rfl, HS3_, HS4_, HS5_⟩ (fun hHeld => ?_)
                   clear hK K
                   refine norm_ (a' := ?_) ?_ ?_
                   rotate_left
                   ·show Act.put _ (some 72) _ = _
                    simp only [Act.put, zY, zZ, yA, i64_w, i32_w]
                    rfl
                   refine pure_ (i := 6) (N := some 66) (v := ?_) (a' := ?_) #[true, true, true, true, true, true, true, false, false, false, false, false] rfl rfl (any_of HT_.out (by kernel_rfl)) (fun _ _ _ h => h) (Or.inl ⟨by rfl, ?_⟩) ?_ ?_
                   rotate_left
                   ·intro w'
                    go_simp
                    with_reducible rfl
                   rotate_left
                   ·simp only [Act.put, zY, zZ, yA, i64_w, i32_w]
                    rfl
                   refine pure_ (i := 7) (N := some 73) (v := ?_) (a' := ?_) #[true, true, true, true, true, true, true, true, false, false, false, false] rfl rfl (any_of HT_.out (by kernel_rfl)) (fun _ _ _ h => h) (Or.inl ⟨by rfl, ?_⟩) ?_ ?_
                   rotate_left
                   ·intro w'
                    go_simp
                    with_reducible rfl
                   rotate_left
                   ·simp only [Act.put, zY, zZ, yA, i64_w, i32_w]
                    rfl
                   refine pure_ (i := 8) (N := some 74) (v := ?_) (a' := ?_) #[true, true, true, true, true, true, true, true, true, false, false, false] rfl rfl (any_of HT_.out (by kernel_rfl)) (fun _ _ _ h => h) (Or.inl ⟨by rfl, ?_⟩) ?_ ?_
                   rotate_left
                   ·intro w'
                    go_simp
                    with_reducible rfl
                   rotate_left
                   ·simp only [Act.put, zY, zZ, yA, i64_w, i32_w]
                    rfl
                   refine one_ (i := 9) (N := some 13) #[true, true, true, true, true, true, true, true, true, true, false, false] rfl rfl (one_of HT_.out (by kernel_rfl)) (by decide) (fun K hK => ?_)
                   refine box_step ?hg (N := 13) ?hd (cs := #[.slice none 0 0, .int .i64 0, .slice none 0 0]) (t := 25) ?hr ?_; (case hd => rfl); (case hg => rfl); (case hr => first | (go_simp; done) | (go_simp; rfl))
                   intro gb204 hg w72 hbox hb
                   have HS3_ := (hb.cell (zJ _ _ (hHeld.2.2.2.1))).trans (hHeld.2.2.2.1)
                   have HS4_ := (hb.cell (zJ _ _ (hHeld.2.2.2.2.1))).trans (hHeld.2.2.2.2.1)
                   have HS5_ := (hb.cell (zJ _ _ (hHeld.2.2.2.2.2))).trans (hHeld.2.2.2.2.2)
                   have n0_ := zK (zO (zr HO_9.out) hb)
                   have n1_ := zK (zO (zr HO_qa.out) hb)
                   have n2_ := zK (zO (zr HO_qc.out) hb)
                   have n3_ := zK (zO (zr HO_qd.out) hb)
                   have n4_ := zK (zO (zr HO_qf.out) hb)
                   have n5_ := zK (zO (zr HO_qg.out) hb)
                   have n6_ := zK (zO (zr HO_qh.out) hb)
                   have n7_ := zK (zO (zr HO198.out) hb)
                   have n8_ := zK (zO (zr HO202.out) hb)
                   have n9_ := zK (zP (g := gb150) (o := .cells #[.int .i64 a2_0, .int .i64 a2_1] 27 (0, 0)) (zb BK150.out) hb)
                   have n10_ := zK (zP (g := gb165) (o := .cells #[uqa, .int .i64 xqb_41, uqc] 25 (0, 0)) (zb BK165.out) hb)
                   have n11_ := zK (zP (g := gb166) (o := .cells #[.slice Ao67 xqd_2.length co67, .int .i64 xqe_2, .slice Ao68 xqf_2.length co68] 25 (0, 0)) (zb BK166.out) hb)
                   have n12_ := zK (zP (g := gb193) (o := .cells #[.slice Ao49 t185.length co49, .int .i64 t188, .slice Ao52 t189.length co52] 25 (0, 0)) (zb BK193.out) hb)
                   have n13_ := zK (yF (zl HB.out) hb)
                   have n14_ := zK (hbox)
                   have n15_ := zK ((by rw [hg]; exact (yG (zl HB.out)) : w.heap.size ≤ gb204))
                   have n16_ := zK ((by rw [hg]; exact (yG (zl HB.out)) : w.heap.size ≤ gb204))
                   have n17_ := zK ((by rw [hg]; exact zN (blk_lt (g := gb150) (o := .cells #[.int .i64 a2_0, .int .i64 a2_1] 27 (0, 0)) (zb BK150.out)) : gb150 ≠ gb204))
                   have n18_ := zK ((by rw [hg]; exact Nat.ne_of_gt (blk_lt (g := gb150) (o := .cells #[.int .i64 a2_0, .int .i64 a2_1] 27 (0, 0)) (zb BK150.out)) : gb204 ≠ gb150))
                   have n19_ := zK ((by rw [hg]; exact zN (blk_lt (g := gb165) (o := .cells #[uqa, .int .i64 xqb_41, uqc] 25 (0, 0)) (zb BK165.out)) : gb165 ≠ gb204))
                   have n20_ := zK ((by rw [hg]; exact Nat.ne_of_gt (blk_lt (g := gb165) (o := .cells #[uqa, .int .i64 xqb_41, uqc] 25 (0, 0)) (zb BK165.out)) : gb204 ≠ gb165))
                   have n21_ := zK ((by rw [hg]; exact zN (blk_lt (g := gb166) (o := .cells #[.slice Ao67 xqd_2.length co67, .int .i64 xqe_2, .slice Ao68 xqf_2.length co68] 25 (0, 0)) (zb BK166.out)) : gb166 ≠ gb204))
                   have n22_ := zK ((by rw [hg]; exact Nat.ne_of_gt (blk_lt (g := gb166) (o := .cells #[.slice Ao67 xqd_2.length co67, .int .i64 xqe_2, .slice Ao68 xqf_2.length co68] 25 (0, 0)) (zb BK166.out)) : gb204 ≠ gb166))
                   have n23_ := zK ((by rw [hg]; exact zN (blk_lt (g := gb193) (o := .cells #[.slice Ao49 t185.length co49, .int .i64 t188, .slice Ao52 t189.length co52] 25 (0, 0)) (zb BK193.out)) : gb193 ≠ gb204))
                   have n24_ := zK ((by rw [hg]; exact Nat.ne_of_gt (blk_lt (g := gb193) (o := .cells #[.slice Ao49 t185.length co49, .int .i64 t188, .slice Ao52 t189.length co52] 25 (0, 0)) (zb BK193.out)) : gb204 ≠ gb193))
                   clear HO_9
                   clear HO_qa
                   clear HO_qc
                   clear HO_qd
                   clear HO_qf
                   clear HO_qg
                   clear HO_qh
                   clear HO198
                   clear HO202
                   clear BK150
                   clear BK165
                   clear BK166
                   clear BK193
                   clear HB
                   have HO_9 := n0_
                   have HO_qa := n1_
                   have HO_qc := n2_
                   have HO_qd := n3_
                   have HO_qf := n4_
                   have HO_qg := n5_
                   have HO_qh := n6_
                   have HO198 := n7_
                   have HO202 := n8_
                   have BK150 := n9_
                   have BK165 := n10_
                   have BK166 := n11_
                   have BK193 := n12_
                   have HB := n13_
                   have BK204 := n14_
                   have GW204 := n15_
                   have GE204 := n16_
                   have NB150_204 := n17_
                   have NB204_150 := n18_
                   have NB165_204 := n19_
                   have NB204_165 := n20_
                   have NB166_204 := n21_
                   have NB204_166 := n22_
                   have NB193_204 := n23_
                   have NB204_193 := n24_
                   clear n0_ n1_ n2_ n3_ n4_ n5_ n6_ n7_ n8_ n9_ n10_ n11_ n12_ n13_ n14_ n15_ n16_ n17_ n18_ n19_ n20_ n21_ n22_ n23_ n24_
                   clear hb hbox hg
                   refine hK.out _ _ ⟨(zQ BK166.out 0).trans rfl, (zQ BK166.out 1).trans rfl, (zQ BK166.out 2).trans rfl, HS3_, HS4_, HS5_⟩ (fun hHeld => ?_)
                   clear hK K
                   refine norm_ (a' := ?_) ?_ ?_
                   rotate_left
                   ·show Act.put _ (some 13) _ = _
                    simp only [Act.put, zY, zZ, yA, i64_w, i32_w]
                    rfl
                   exact norm_ (by simp only [putAll, Act.put, zY, zZ, yA]) (hCont (v197, v201, gb204) _ ⟨hHeld, (by (with_reducible repeat (first | apply zA | apply zB | apply zC)); exact Kd.R_mono HO198.out (fun _ hk => ⟨hk.1.1.2, ⟨hk.1.2, hk.2⟩⟩)), (by (with_reducible repeat (first | apply zA | apply zB | apply zC)); exact Kd.R_mono HO202.out (fun _ hk => ⟨hk.1.1.2, ⟨hk.1.2, hk.2⟩⟩)), (by (with_reducible repeat (first | apply zA | apply zB | apply zC)); exact Kd.R_mono HO_qa.out (fun _ hk => ⟨hk.2, ⟨hk.1.1, hk.1.2⟩⟩)), (by (with_reducible repeat (first | apply zA | apply zB | apply zC)); exact Kd.R_mono HO_qc.out (fun _ hk => ⟨hk.2, ⟨hk.1.1, hk.1.2⟩⟩)), (by (with_reducible repeat (first | apply zA | apply zB | apply zC)); exact Kd.R_mono HO_qd.out (fun _ hk => ⟨hk.2, ⟨hk.1.1, hk.1.2⟩⟩)), (by (with_reducible repeat (first | apply zA | apply zB | apply zC)); exact Kd.R_mono HO_qf.out (fun _ hk => ⟨hk.2, ⟨hk.1.1, hk.1.2⟩⟩)), (by (with_reducible repeat (first | apply zA | apply zB | apply zC)); exact Kd.R_mono HO_qg.out (fun _ hk => ⟨hk.2, ⟨hk.1.1, hk.1.2⟩⟩)), (by (with_reducible repeat (first | apply zA | apply zB | apply zC)); exact Kd.R_mono HO_qh.out (fun _ hk => ⟨hk.2, ⟨hk.1.1, hk.1.2⟩⟩)), (zr HO_9.out), (zb BK150.out), (zb BK165.out), (zb BK166.out), (zb BK193.out), (zb BK204.out), GW204.out, GE204.out, NB150_204.out, NB204_150.out, NB165_204.out, NB204_165.out, NB166_204.out, NB204_166.out, NB193_204.out, NB204_193.out, (zl HB.out)⟩)
                  ·skip
                   refine box_step ?hg (N := 13) ?hd (cs := #[.slice none 0 0, .int .i64 0, .slice none 0 0]) (t := 25) ?hr ?_; (case hd => rfl); (case hg => rfl); (case hr => first | (go_simp; done) | (go_simp; rfl))
                   intro gb204 hg w71 hbox hb
                   have HS3_ := (hb.cell (zJ _ _ (hHeld.2.2.2.1))).trans (hHeld.2.2.2.1)
                   have HS4_ := (hb.cell (zJ _ _ (hHeld.2.2.2.2.1))).trans (hHeld.2.2.2.2.1)
                   have HS5_ := (hb.cell (zJ _ _ (hHeld.2.2.2.2.2))).trans (hHeld.2.2.2.2.2)
                   have n0_ := zK (zO (zr HO_9.out) hb)
                   have n1_ := zK (zO (zr HO_qa.out) hb)
                   have n2_ := zK (zO (zr HO_qc.out) hb)
                   have n3_ := zK (zO (zr HO_qd.out) hb)
                   have n4_ := zK (zO (zr HO_qf.out) hb)
                   have n5_ := zK (zO (zr HO_qg.out) hb)
                   have n6_ := zK (zO (zr HO_qh.out) hb)
                   have n7_ := zK (zP (g := gb150) (o := .cells #[.int .i64 a2_0, .int .i64 a2_1] 27 (0, 0)) (zb BK150.out) hb)
                   have n8_ := zK (zP (g := gb165) (o := .cells #[uqa, .int .i64 xqb_41, uqc] 25 (0, 0)) (zb BK165.out) hb)
                   have n9_ := zK (zP (g := gb166) (o := .cells #[.slice Ao67 xqd_2.length co67, .int .i64 xqe_2, .slice Ao68 xqf_2.length co68] 25 (0, 0)) (zb BK166.out) hb)
                   have n10_ := zK (zP (g := gb193) (o := .cells #[.slice Ao49 t185.length co49, .int .i64 t188, .slice Ao52 t189.length co52] 25 (0, 0)) (zb BK193.out) hb)
                   have n11_ := zK (yF (zl HB.out) hb)
                   have n12_ := zK (hbox)
                   have n13_ := zK ((by rw [hg]; exact (yG (zl HB.out)) : w.heap.size ≤ gb204))
                   have n14_ := zK ((by rw [hg]; exact (yG (zl HB.out)) : w.heap.size ≤ gb204))
                   have n15_ := zK ((by rw [hg]; exact zN (blk_lt (g := gb150) (o := .cells #[.int .i64 a2_0, .int .i64 a2_1] 27 (0, 0)) (zb BK150.out)) : gb150 ≠ gb204))
                   have n16_ := zK ((by rw [hg]; exact Nat.ne_of_gt (blk_lt (g := gb150) (o := .cells #[.int .i64 a2_0, .int .i64 a2_1] 27 (0, 0)) (zb BK150.out)) : gb204 ≠ gb150))
                   have n17_ := zK ((by rw [hg]; exact zN (blk_lt (g := gb165) (o := .cells #[uqa, .int .i64 xqb_41, uqc] 25 (0, 0)) (zb BK165.out)) : gb165 ≠ gb204))
                   have n18_ := zK ((by rw [hg]; exact Nat.ne_of_gt (blk_lt (g := gb165) (o := .cells #[uqa, .int .i64 xqb_41, uqc] 25 (0, 0)) (zb BK165.out)) : gb204 ≠ gb165))
                   have n19_ := zK ((by rw [hg]; exact zN (blk_lt (g := gb166) (o := .cells #[.slice Ao67 xqd_2.length co67, .int .i64 xqe_2, .slice Ao68 xqf_2.length co68] 25 (0, 0)) (zb BK166.out)) : gb166 ≠ gb204))
                   have n20_ := zK ((by rw [hg]; exact Nat.ne_of_gt (blk_lt (g := gb166) (o := .cells #[.slice Ao67 xqd_2.length co67, .int .i64 xqe_2, .slice Ao68 xqf_2.length co68] 25 (0, 0)) (zb BK166.out)) : gb204 ≠ gb166))
                   have n21_ := zK ((by rw [hg]; exact zN (blk_lt (g := gb193) (o := .cells #[.slice Ao49 t185.length co49, .int .i64 t188, .slice Ao52 t189.length co52] 25 (0, 0)) (zb BK193.out)) : gb193 ≠ gb204))
                   have n22_ := zK ((by rw [hg]; exact Nat.ne_of_gt (blk_lt (g := gb193) (o := .cells #[.slice Ao49 t185.length co49, .int .i64 t188, .slice Ao52 t189.length co52] 25 (0, 0)) (zb BK193.out)) : gb204 ≠ gb193))
                   clear HO_9
                   clear HO_qa
                   clear HO_qc
                   clear HO_qd
                   clear HO_qf
                   clear HO_qg
                   clear HO_qh
                   clear BK150
                   clear BK165
                   clear BK166
                   clear BK193
                   clear HB
                   have HO_9 := n0_
                   have HO_qa := n1_
                   have HO_qc := n2_
                   have HO_qd := n3_
                   have HO_qf := n4_
                   have HO_qg := n5_
                   have HO_qh := n6_
                   have BK150 := n7_
                   have BK165 := n8_
                   have BK166 := n9_
                   have BK193 := n10_
                   have HB := n11_
                   have BK204 := n12_
                   have GW204 := n13_
                   have GE204 := n14_
                   have NB150_204 := n15_
                   have NB204_150 := n16_
                   have NB165_204 := n17_
                   have NB204_165 := n18_
                   have NB166_204 := n19_
                   have NB204_166 := n20_
                   have NB193_204 := n21_
                   have NB204_193 := n22_
                   clear n0_ n1_ n2_ n3_ n4_ n5_ n6_ n7_ n8_ n9_ n10_ n11_ n12_ n13_ n14_ n15_ n16_ n17_ n18_ n19_ n20_ n21_ n22_
                   clear hb hbox hg
                   refine hK.out _ _ ⟨(zQ BK166.out 0).trans rfl, (zQ BK166.out 1).trans rfl, (zQ BK166.out 2).trans rfl, HS3_, HS4_, HS5_⟩ (fun hHeld => ?_)
                   clear hK K
                   refine norm_ (a' := ?_) ?_ ?_
                   rotate_left
                   ·show Act.put _ (some 13) _ = _
                    simp only [Act.put, zY, zZ, yA, i64_w, i32_w]
                    rfl
                   refine one_ (i := 5) (N := some 72) #[true, true, true, true, true, true, false, false, false, true, false, false] rfl rfl (one_of HT_.out (by kernel_rfl)) (by decide) (fun K hK => ?_)
                   refine goes_ Try.func26 (by kernel_rfl) rfl #[.agg #[.slice Ao67 xqd_2.length co67, .int .i64 xqe_2, .slice Ao68 xqf_2.length co68], .agg #[.int .i64 ((rd_T50 y181 x10_2).f0.f0), .int .i64 ((rd_T50 y181 x10_2).f0.f1), .int .i64 ((rd_T50 y181 x10_2).f1)]] (by rfl) rfl rfl zt ?_
                   with_reducible refine (tree_Insert.calls _ _ xqd_2 xqe_2 _ _ xqf_2 ((rd_T50 y181 x10_2).f0.f0) ((rd_T50 y181 x10_2).f0.f1) ((rd_T50 y181 x10_2).f1) t196 t199 t200 t203 _ ?side1 ?side2 ?side3 ?side4 A64.out).mono ?_
                   (case side1 => exact zc (zX HO_qd.out).2.2)
                   (case side2 => exact (zX HO_qd.out).2.1)
                   (case side3 => exact zc (zX HO_qf.out).2.2)
                   (case side4 => exact (zX HO_qf.out).2.1)
                   rintro e w72 ⟨v197, v201, rfl, ho0, ho1, hb⟩
                   have HS3_ := (hb.cell (zJ _ _ (hHeld.2.2.2.1))).trans (hHeld.2.2.2.1)
                   have HS4_ := (hb.cell (zJ _ _ (hHeld.2.2.2.2.1))).trans (hHeld.2.2.2.2.1)
                   have HS5_ := (hb.cell (zJ _ _ (hHeld.2.2.2.2.2))).trans (hHeld.2.2.2.2.2)
                   refine ⟨_, rfl, ?_⟩
                   have n0_ := zK (zO (zr HO_9.out) hb)
                   have n1_ := zK (yC (zr HO_qa.out) (Kd.R_base ho0) hb)
                   have n2_ := zK (yC (zr HO_qc.out) (Kd.R_base ho1) hb)
                   have n3_ := zK (yC (zr HO_qd.out) (Kd.R_base ho0) hb)
                   have n4_ := zK (yC (zr HO_qf.out) (Kd.R_base ho1) hb)
                   have n5_ := zK (yC (zr HO_qg.out) (Kd.R_base ho0) hb)
                   have n6_ := zK (yC (zr HO_qh.out) (Kd.R_base ho1) hb)
                   have n7_ := zK (zV (zW (zW (zW ho0 (yB (zr HO_qa.out))) (yB (zr HO_qd.out))) (yB (zr HO_qg.out))) (yG (zl HB.out)))
                   have n8_ := zK (zV (zW (zW (zW ho1 (yB (zr HO_qc.out))) (yB (zr HO_qf.out))) (yB (zr HO_qh.out))) (yG (zl HB.out)))
                   have n9_ := zK (zP (g := gb150) (o := .cells #[.int .i64 a2_0, .int .i64 a2_1] 27 (0, 0)) (zb BK150.out) hb)
                   have n10_ := zK (zP (g := gb165) (o := .cells #[uqa, .int .i64 xqb_41, uqc] 25 (0, 0)) (zb BK165.out) hb)
                   have n11_ := zK (zP (g := gb166) (o := .cells #[.slice Ao67 xqd_2.length co67, .int .i64 xqe_2, .slice Ao68 xqf_2.length co68] 25 (0, 0)) (zb BK166.out) hb)
                   have n12_ := zK (zP (g := gb193) (o := .cells #[.slice Ao49 t185.length co49, .int .i64 t188, .slice Ao52 t189.length co52] 25 (0, 0)) (zb BK193.out) hb)
                   have n13_ := zK (zP (g := gb204) (o := .cells #[.slice none 0 0, .int .i64 0, .slice none 0 0] 25 (0, 0)) (zb BK204.out) hb)
                   have n14_ := zK (yF (zl HB.out) hb)
                   clear HO_9
                   clear HO_qa
                   clear HO_qc
                   clear HO_qd
                   clear HO_qf
                   clear HO_qg
                   clear HO_qh
                   clear BK150
                   clear BK165
                   clear BK166
                   clear BK193
                   clear BK204
                   clear HB
                   have HO_9 := n0_
                   have HO_qa := n1_
                   have HO_qc := n2_
                   have HO_qd := n3_
                   have HO_qf := n4_
                   have HO_qg := n5_
                   have HO_qh := n6_
                   have HO198 := n7_
                   have HO202 := n8_
                   have BK150 := n9_
                   have BK165 := n10_
                   have BK166 := n11_
                   have BK193 := n12_
                   have BK204 := n13_
                   have HB := n14_
                   clear n0_ n1_ n2_ n3_ n4_ n5_ n6_ n7_ n8_ n9_ n10_ n11_ n12_ n13_ n14_
                   (try clear hb)
                   (try clear hb2)
                   (try clear hk)
                   (try clear hi)
                   (try clear ho0)
                   (try clear ho1)
                   refine hK.out _ _ ⟨(zQ BK166.out 0).trans rfl, (zQ BK166.out 1).trans rfl, (zQ BK166.out 2).trans rfl, HS3_, HS4_, HS5_⟩ (fun hHeld => ?_)
                   clear hK K
                   refine norm_ (a' := ?_) ?_ ?_
                   rotate_left
                   ·show Act.put _ (some 72) _ = _
                    simp only [Act.put, zY, zZ, yA, i64_w, i32_w]
                    rfl
                   refine pure_ (i := 6) (N := some 66) (v := ?_) (a' := ?_) #[true, true, true, true, true, true, true, false, false, true, false, false] rfl rfl (any_of HT_.out (by kernel_rfl)) (fun _ _ _ h => h) (Or.inl ⟨by rfl, ?_⟩) ?_ ?_
                   rotate_left
                   ·intro w'
                    go_simp
                    with_reducible rfl
                   rotate_left
                   ·simp only [Act.put, zY, zZ, yA, i64_w, i32_w]
                    rfl
                   refine pure_ (i := 7) (N := some 73) (v := ?_) (a' := ?_) #[true, true, true, true, true, true, true, true, false, true, false, false] rfl rfl (any_of HT_.out (by kernel_rfl)) (fun _ _ _ h => h) (Or.inl ⟨by rfl, ?_⟩) ?_ ?_
                   rotate_left
                   ·intro w'
                    go_simp
                    with_reducible rfl
                   rotate_left
                   ·simp only [Act.put, zY, zZ, yA, i64_w, i32_w]
                    rfl
                   refine pure_ (i := 8) (N := some 74) (v := ?_) (a' := ?_) #[true, true, true, true, true, true, true, true, true, true, false, false] rfl rfl (any_of HT_.out (by kernel_rfl)) (fun _ _ _ h => h) (Or.inl ⟨by rfl, ?_⟩) ?_ ?_
                   rotate_left
                   ·intro w'
                    go_simp
                    with_reducible rfl
                   rotate_left
                   ·simp only [Act.put, zY, zZ, yA, i64_w, i32_w]
                    rfl
                   exact norm_ (by simp only [putAll, Act.put, zY, zZ, yA]) (hCont (v197, v201, gb204) _ ⟨hHeld, (by (with_reducible repeat (first | apply zA | apply zB | apply zC)); exact Kd.R_mono HO198.out (fun _ hk => ⟨hk.1.1.2, ⟨hk.1.2, hk.2⟩⟩)), (by (with_reducible repeat (first | apply zA | apply zB | apply zC)); exact Kd.R_mono HO202.out (fun _ hk => ⟨hk.1.1.2, ⟨hk.1.2, hk.2⟩⟩)), (by (with_reducible repeat (first | apply zA | apply zB | apply zC)); exact Kd.R_mono HO_qa.out (fun _ hk => ⟨hk.2, ⟨hk.1.1, hk.1.2⟩⟩)), (by (with_reducible repeat (first | apply zA | apply zB | apply zC)); exact Kd.R_mono HO_qc.out (fun _ hk => ⟨hk.2, ⟨hk.1.1, hk.1.2⟩⟩)), (by (with_reducible repeat (first | apply zA | apply zB | apply zC)); exact Kd.R_mono HO_qd.out (fun _ hk => ⟨hk.2, ⟨hk.1.1, hk.1.2⟩⟩)), (by (with_reducible repeat (first | apply zA | apply zB | apply zC)); exact Kd.R_mono HO_qf.out (fun _ hk => ⟨hk.2, ⟨hk.1.1, hk.1.2⟩⟩)), (by (with_reducible repeat (first | apply zA | apply zB | apply zC)); exact Kd.R_mono HO_qg.out (fun _ hk => ⟨hk.2, ⟨hk.1.1, hk.1.2⟩⟩)), (by (with_reducible repeat (first | apply zA | apply zB | apply zC)); exact Kd.R_mono HO_qh.out (fun _ hk => ⟨hk.2, ⟨hk.1.1, hk.1.2⟩⟩)), (zr HO_9.out), (zb BK150.out), (zb BK165.out), (zb BK166.out), (zb BK193.out), (zb BK204.out), GW204.out, GE204.out, NB150_204.out, NB204_150.out, NB165_204.out, NB204_165.out, NB166_204.out, NB204_166.out, NB193_204.out, NB204_193.out, (zl HB.out)⟩)
                 rintro ⟨v197, v201, gb204⟩ w73 ⟨hS_, h0_, h1_, h2_, h3_, h4_, h5_, h6_, h7_, h8_, h9_, h10_, h11_, h12_, h13_, h14_, h15_, h16_, h17_, h18_, h19_, h20_, h21_, h22_, h23_, h24_⟩
                 have n0_ : Aside0 (Kd.R k64 64 w73 w.heap.size (fun k_ => some k_ ≠ (uqa : Value).ownBlock ∧ some k_ ≠ (.slice Ao67 xqd_2.length co67 : Value).ownBlock ∧ some k_ ≠ (.slice Ao49 t185.length co49 : Value).ownBlock) v197 t196) := ⟨h0_⟩
                 have n1_ : Aside0 (Kd.R (Kd.int .i64) 3 w73 w.heap.size (fun k_ => some k_ ≠ (uqc : Value).ownBlock ∧ some k_ ≠ (.slice Ao68 xqf_2.length co68 : Value).ownBlock ∧ some k_ ≠ (.slice Ao52 t189.length co52 : Value).ownBlock) v201 t200) := ⟨h1_⟩
                 have n2_ : Aside0 (Kd.R k64 64 w73 w.heap.size (fun k_ => some k_ ≠ (v197 : Value).ownBlock ∧ True ∧ True) uqa xqa_41) := ⟨h2_⟩
                 have n3_ : Aside0 (Kd.R (Kd.int .i64) 3 w73 w.heap.size (fun k_ => some k_ ≠ (v201 : Value).ownBlock ∧ True ∧ True) uqc xqc_41) := ⟨h3_⟩
                 have n4_ : Aside0 (Kd.R k64 64 w73 w.heap.size (fun k_ => some k_ ≠ (v197 : Value).ownBlock ∧ True ∧ True) (.slice Ao67 xqd_2.length co67) xqd_2) := ⟨h4_⟩
                 have n5_ : Aside0 (Kd.R (Kd.int .i64) 3 w73 w.heap.size (fun k_ => some k_ ≠ (v201 : Value).ownBlock ∧ True ∧ True) (.slice Ao68 xqf_2.length co68) xqf_2) := ⟨h5_⟩
                 have n6_ : Aside0 (Kd.R k64 64 w73 w.heap.size (fun k_ => some k_ ≠ (v197 : Value).ownBlock ∧ True ∧ True) (.slice Ao49 t185.length co49) t185) := ⟨h6_⟩
                 have n7_ : Aside0 (Kd.R (Kd.int .i64) 3 w73 w.heap.size (fun k_ => some k_ ≠ (v201 : Value).ownBlock ∧ True ∧ True) (.slice Ao52 t189.length co52) t189) := ⟨h7_⟩
                 have n8_ : Aside0 (Kd.R k50 50 w73 w.heap.size (fun _ => True) (.slice (some ad195) y181.length co70) y181) := ⟨h8_⟩
                 have n9_ : Aside0 (w73.heap[gb150]? = some (.cells #[.int .i64 a2_0, .int .i64 a2_1] 27 (0, 0))) := ⟨h9_⟩
                 have n10_ : Aside0 (w73.heap[gb165]? = some (.cells #[uqa, .int .i64 xqb_41, uqc] 25 (0, 0))) := ⟨h10_⟩
                 have n11_ : Aside0 (w73.heap[gb166]? = some (.cells #[.slice Ao67 xqd_2.length co67, .int .i64 xqe_2, .slice Ao68 xqf_2.length co68] 25 (0, 0))) := ⟨h11_⟩
                 have n12_ : Aside0 (w73.heap[gb193]? = some (.cells #[.slice Ao49 t185.length co49, .int .i64 t188, .slice Ao52 t189.length co52] 25 (0, 0))) := ⟨h12_⟩
                 have n13_ : Aside0 (w73.heap[gb204]? = some (.cells #[.slice none 0 0, .int .i64 0, .slice none 0 0] 25 (0, 0))) := ⟨h13_⟩
                 have n14_ : Aside0 (w.heap.size ≤ gb204) := ⟨h14_⟩
                 have n15_ : Aside0 (w.heap.size ≤ gb204) := ⟨h15_⟩
                 have n16_ : Aside0 (gb150 ≠ gb204) := ⟨h16_⟩
                 have n17_ : Aside0 (gb204 ≠ gb150) := ⟨h17_⟩
                 have n18_ : Aside0 (gb165 ≠ gb204) := ⟨h18_⟩
                 have n19_ : Aside0 (gb204 ≠ gb165) := ⟨h19_⟩
                 have n20_ : Aside0 (gb166 ≠ gb204) := ⟨h20_⟩
                 have n21_ : Aside0 (gb204 ≠ gb166) := ⟨h21_⟩
                 have n22_ : Aside0 (gb193 ≠ gb204) := ⟨h22_⟩
                 have n23_ : Aside0 (gb204 ≠ gb193) := ⟨h23_⟩
                 have n24_ : Aside0 (Below w.heap.size w w73) := ⟨h24_⟩
                 clear HO_9
                 clear HO_qa
                 clear HO_qc
                 clear HO_qd
                 clear HO_qf
                 clear HO_qg
                 clear HO_qh
                 clear BK150
                 clear BK165
                 clear BK166
                 clear BK193
                 clear HB
                 clear h0_ h1_ h2_ h3_ h4_ h5_ h6_ h7_ h8_ h9_ h10_ h11_ h12_ h13_ h14_ h15_ h16_ h17_ h18_ h19_ h20_ h21_ h22_ h23_ h24_
                 have HO198 := n0_
                 have HO202 := n1_
                 have HO_qa := n2_
                 have HO_qc := n3_
                 have HO_qd := n4_
                 have HO_qf := n5_
                 have HO_qg := n6_
                 have HO_qh := n7_
                 have HO_9 := n8_
                 have BK150 := n9_
                 have BK165 := n10_
                 have BK166 := n11_
                 have BK193 := n12_
                 have BK204 := n13_
                 have GW204 := n14_
                 have GE204 := n15_
                 have NB150_204 := n16_
                 have NB204_150 := n17_
                 have NB165_204 := n18_
                 have NB204_165 := n19_
                 have NB166_204 := n20_
                 have NB204_166 := n21_
                 have NB193_204 := n22_
                 have NB204_193 := n23_
                 have HB := n24_
                 clear n0_ n1_ n2_ n3_ n4_ n5_ n6_ n7_ n8_ n9_ n10_ n11_ n12_ n13_ n14_ n15_ n16_ n17_ n18_ n19_ n20_ n21_ n22_ n23_ n24_
                 have hHeld : w73.cell? ⟨gb166, 0, none⟩ = some (.slice Ao67 xqd_2.length co67) ∧ w73.cell? ⟨gb166, 1, none⟩ = some (.int .i64 xqe_2) ∧ w73.cell? ⟨gb166, 2, none⟩ = some (.slice Ao68 xqf_2.length co68) ∧ w73.cell? (ad195.add ((x10_2).toNat * 3)) = some (.int .i64 ((rd_T50 y181 x10_2).f0.f0)) ∧ w73.cell? ⟨(ad195.add ((x10_2).toNat * 3)).block, (ad195.add ((x10_2).toNat * 3)).off + 1, none⟩ = some (.int .i64 ((rd_T50 y181 x10_2).f0.f1)) ∧ w73.cell? ⟨(ad195.add ((x10_2).toNat * 3)).block, (ad195.add ((x10_2).toNat * 3)).off + 2, none⟩ = some (.int .i64 ((rd_T50 y181 x10_2).f1)) := hS_
                 obtain ⟨Ao74, co74, eo74⟩ := yE HO198.out
                 (first | subst eo74 | (injection eo74 with f1_ f2_ f3_; have f4_ := f1_.symm; have f5_ := f3_.symm; clear f1_ f2_ f3_; subst f4_; subst f5_))
                 obtain ⟨Ao77, co77, eo77⟩ := yE HO202.out
                 (first | subst eo77 | (injection eo77 with f1_ f2_ f3_; have f4_ := f1_.symm; have f5_ := f3_.symm; clear f1_ f2_ f3_; subst f4_; subst f5_))
                 refine norm_ (a' := ?_) ?_ ?_
                 rotate_left
                 ·simp only [putAll, Act.put, zY, zZ, yA]
                  rfl
                 refine one_ (i := 10) (N := none) #[true, true, true, true, true, true, true, true, true, true, true, false] rfl rfl (one_of HT_.out (by kernel_rfl)) (by decide) (fun K hK => ?_)
                 have hs75 : w73.cell? ⟨gb204, 0, none⟩ = some (.slice none 0 0) := (zQ BK204.out 0).trans rfl
                 have hfs75 := zR BK204.out 0
                 have hns75_0 := NB150_204.out
                 have hns75_1 := NB165_204.out
                 have hns75_2 := NB166_204.out
                 have hns75_3 := NB193_204.out
                 have hms75_0 := NB204_150.out
                 have hms75_1 := NB204_165.out
                 have hms75_2 := NB204_166.out
                 have hms75_3 := NB204_193.out
                 have hs76 : w73.cell? ⟨gb204, 1, none⟩ = some (.int .i64 0) := (zQ BK204.out 1).trans rfl
                 have hfs76 := zR BK204.out 1
                 have hns76_0 := NB150_204.out
                 have hns76_1 := NB165_204.out
                 have hns76_2 := NB166_204.out
                 have hns76_3 := NB193_204.out
                 have hms76_0 := NB204_150.out
                 have hms76_1 := NB204_165.out
                 have hms76_2 := NB204_166.out
                 have hms76_3 := NB204_193.out
                 have hs78 : w73.cell? ⟨gb204, 2, none⟩ = some (.slice none 0 0) := (zQ BK204.out 2).trans rfl
                 have hfs78 := zR BK204.out 2
                 have hns78_0 := NB150_204.out
                 have hns78_1 := NB165_204.out
                 have hns78_2 := NB166_204.out
                 have hns78_3 := NB193_204.out
                 have hms78_0 := NB204_150.out
                 have hms78_1 := NB204_165.out
                 have hms78_2 := NB204_166.out
                 have hms78_3 := NB204_193.out
                 refine skip_ (w1 := ?_) (by rfl) rfl ?_ ?_
                 rotate_left
                 ·go_simp
                  rfl
                 refine hK.out _ _ ⟨((cell_far (p := ⟨gb204, _, none⟩) NB166_204.out _).trans (((cell_far (p := ⟨gb204, _, none⟩) NB166_204.out _).trans (((cell_far (p := ⟨gb204, _, none⟩) NB166_204.out _).trans (hHeld.1)))))), ((cell_far (p := ⟨gb204, _, none⟩) NB166_204.out _).trans (((cell_far (p := ⟨gb204, _, none⟩) NB166_204.out _).trans (((cell_far (p := ⟨gb204, _, none⟩) NB166_204.out _).trans (hHeld.2.1)))))), ((cell_far (p := ⟨gb204, _, none⟩) NB166_204.out _).trans (((cell_far (p := ⟨gb204, _, none⟩) NB166_204.out _).trans (((cell_far (p := ⟨gb204, _, none⟩) NB166_204.out _).trans (hHeld.2.2.1)))))), ((cell_far (p := ⟨gb204, _, none⟩) (by first | exact Kd.own_blk (Kd.R_ne HO_9.out BK204.out (by decide)) | (rw [add_block]; exact Kd.own_blk (Kd.R_ne HO_9.out BK204.out (by decide))) | (show (Addr.add _ _).block ≠ _; rw [add_block]; exact Kd.own_blk (Kd.R_ne HO_9.out BK204.out (by decide))) | (dsimp only; exact Kd.own_blk (Kd.R_ne HO_9.out BK204.out (by decide)))) _).trans (((cell_far (p := ⟨gb204, _, none⟩) (by first | exact Kd.own_blk (Kd.R_ne HO_9.out BK204.out (by decide)) | (rw [add_block]; exact Kd.own_blk (Kd.R_ne HO_9.out BK204.out (by decide))) | (show (Addr.add _ _).block ≠ _; rw [add_block]; exact Kd.own_blk (Kd.R_ne HO_9.out BK204.out (by decide))) | (dsimp only; exact Kd.own_blk (Kd.R_ne HO_9.out BK204.out (by decide)))) _).trans (((cell_far (p := ⟨gb204, _, none⟩) (by first | exact Kd.own_blk (Kd.R_ne HO_9.out BK204.out (by decide)) | (rw [add_block]; exact Kd.own_blk (Kd.R_ne HO_9.out BK204.out (by decide))) | (show (Addr.add _ _).block ≠ _; rw [add_block]; exact Kd.own_blk (Kd.R_ne HO_9.out BK204.out (by decide))) | (dsimp only; exact Kd.own_blk (Kd.R_ne HO_9.out BK204.out (by decide)))) _).trans (hHeld.2.2.2.1)))))), ((cell_far (p := ⟨gb204, _, none⟩) (by first | exact Kd.own_blk (Kd.R_ne HO_9.out BK204.out (by decide)) | (rw [add_block]; exact Kd.own_blk (Kd.R_ne HO_9.out BK204.out (by decide))) | (show (Addr.add _ _).block ≠ _; rw [add_block]; exact Kd.own_blk (Kd.R_ne HO_9.out BK204.out (by decide))) | (dsimp only; exact Kd.own_blk (Kd.R_ne HO_9.out BK204.out (by decide)))) _).trans (((cell_far (p := ⟨gb204, _, none⟩) (by first | exact Kd.own_blk (Kd.R_ne HO_9.out BK204.out (by decide)) | (rw [add_block]; exact Kd.own_blk (Kd.R_ne HO_9.out BK204.out (by decide))) | (show (Addr.add _ _).block ≠ _; rw [add_block]; exact Kd.own_blk (Kd.R_ne HO_9.out BK204.out (by decide))) | (dsimp only; exact Kd.own_blk (Kd.R_ne HO_9.out BK204.out (by decide)))) _).trans (((cell_far (p := ⟨gb204, _, none⟩) (by first | exact Kd.own_blk (Kd.R_ne HO_9.out BK204.out (by decide)) | (rw [add_block]; exact Kd.own_blk (Kd.R_ne HO_9.out BK204.out (by decide))) | (show (Addr.add _ _).block ≠ _; rw [add_block]; exact Kd.own_blk (Kd.R_ne HO_9.out BK204.out (by decide))) | (dsimp only; exact Kd.own_blk (Kd.R_ne HO_9.out BK204.out (by decide)))) _).trans (hHeld.2.2.2.2.1)))))), ((cell_far (p := ⟨gb204, _, none⟩) (by first | exact Kd.own_blk (Kd.R_ne HO_9.out BK204.out (by decide)) | (rw [add_block]; exact Kd.own_blk (Kd.R_ne HO_9.out BK204.out (by decide))) | (show (Addr.add _ _).block ≠ _; rw [add_block]; exact Kd.own_blk (Kd.R_ne HO_9.out BK204.out (by decide))) | (dsimp only; exact Kd.own_blk (Kd.R_ne HO_9.out BK204.out (by decide)))) _).trans (((cell_far (p := ⟨gb204, _, none⟩) (by first | exact Kd.own_blk (Kd.R_ne HO_9.out BK204.out (by decide)) | (rw [add_block]; exact Kd.own_blk (Kd.R_ne HO_9.out BK204.out (by decide))) | (show (Addr.add _ _).block ≠ _; rw [add_block]; exact Kd.own_blk (Kd.R_ne HO_9.out BK204.out (by decide))) | (dsimp only; exact Kd.own_blk (Kd.R_ne HO_9.out BK204.out (by decide)))) _).trans (((cell_far (p := ⟨gb204, _, none⟩) (by first | exact Kd.own_blk (Kd.R_ne HO_9.out BK204.out (by decide)) | (rw [add_block]; exact Kd.own_blk (Kd.R_ne HO_9.out BK204.out (by decide))) | (show (Addr.add _ _).block ≠ _; rw [add_block]; exact Kd.own_blk (Kd.R_ne HO_9.out BK204.out (by decide))) | (dsimp only; exact Kd.own_blk (Kd.R_ne HO_9.out BK204.out (by decide)))) _).trans (hHeld.2.2.2.2.2))))))⟩ (fun hHeld => ?_)
                 clear hK K
                 refine pure_ (i := 11) (N := some 14) (v := ?_) (a' := ?_) #[true, true, true, true, true, true, true, true, true, true, true, true] rfl rfl (any_of HT_.out (by kernel_rfl)) (fun _ _ _ h => h) (Or.inl ⟨by rfl, ?_⟩) ?_ ?_
                 rotate_left
                 ·intro w'
                  go_simp
                  with_reducible rfl
                 rotate_left
                 ·simp only [Act.put, zY, zZ, yA, i64_w, i32_w]
                  rfl
                 refine done_ (done_of HT_.out (by kernel_rfl)) ?_
                 try go_wp2_with (first | ((with_reducible refine gate_callee (f := 19) rfl ?_); refine goesL_ (some 76) rfl rfl Try.func19 (by kernel_rfl) rfl #[.int .i64 t203] rfl zt ?_; (with_reducible refine (tollbarlaw0_Num.calls t203 t205 _ A65.out).mono ?_); rintro e w' ⟨rfl, ⟨nd, rfl⟩⟩; refine ⟨_, rfl, ?_⟩; have hnb79 := NB204_150.out; have hnc79 := NB150_204.out; have hnb80 := NB204_165.out; have hnc80 := NB165_204.out; have hnb81 := NB204_166.out; have hnc81 := NB166_204.out; have hnb82 := NB204_193.out; have hnc82 := NB193_204.out; have hcz83_0 : w73.cell? ⟨gb204, 0, none⟩ = some (.slice none 0 0) := (zQ BK204.out 0).trans rfl; have hcz83_1 : w73.cell? ⟨gb204, 1, none⟩ = some (.int .i64 0) := (zQ BK204.out 1).trans rfl; have hcz83_2 : w73.cell? ⟨gb204, 2, none⟩ = some (.slice none 0 0) := (zQ BK204.out 2).trans rfl; have hfz83_0 := zR BK204.out 0; have hfz83_1 := zR BK204.out 1; have hfz83_2 := zR BK204.out 2; have hnb84 := NB166_150.out; have hnc84 := NB150_166.out; have hnb85 := NB166_165.out; have hnc85 := NB165_166.out; have hnb86 := NB166_193.out; have hnc86 := NB193_166.out; have hcz87_0 : w73.cell? ⟨gb166, 0, none⟩ = some (.slice Ao67 xqd_2.length co67) := (zQ BK166.out 0).trans rfl; have hcz87_1 : w73.cell? ⟨gb166, 1, none⟩ = some (.int .i64 xqe_2) := (zQ BK166.out 1).trans rfl; have hcz87_2 : w73.cell? ⟨gb166, 2, none⟩ = some (.slice Ao68 xqf_2.length co68) := (zQ BK166.out 2).trans rfl; have hfz87_0 := zR BK166.out 0; have hfz87_1 := zR BK166.out 1; have hfz87_2 := zR BK166.out 2))
                 go_roundg kj41
                 case measure => have := HJ3.out; have := HK2.out; have := HJ41.out; omega
                 case rel => exact ⟨(wrap64 (x10_2 + 1)), (xqa_41), (xqb_41), (xqc_41), (t196), (t199), (t200), (uqa), (uqc), (.slice Ao74 t196.length co74), (.slice Ao77 t200.length co77), zz, H', ⟨by have := HJ3.out; have := HK2.out; have := HJ41.out; omega⟩, ⟨by (with_reducible repeat (first | apply zA | apply zB | apply zC)); exact Kd.R_mono (Kd.R_far (p := ⟨gb166, 2, none⟩) (Kd.R_far (p := ⟨gb166, 1, none⟩) (Kd.R_far (p := ⟨gb166, 0, none⟩) (Kd.R_far (p := ⟨gb204, 2, none⟩) (Kd.R_far (p := ⟨gb204, 1, none⟩) (Kd.R_far (p := ⟨gb204, 0, none⟩) (Kd.R_types (Kd.R_types HO_9.out BK204.out (by decide)) BK166.out (by decide)) (fun _ hk => hk.1.2) (.slice Ao74 t196.length co74)) (fun _ hk => hk.1.2) (.int .i64 t199)) (fun _ hk => hk.1.2) (.slice Ao77 t200.length co77)) (fun _ hk => hk.2) (.slice Ao74 t196.length co74)) (fun _ hk => hk.2) (.int .i64 t199)) (fun _ hk => hk.2) (.slice Ao77 t200.length co77)) (fun _ _ => by trivial)⟩, ⟨by (with_reducible repeat (first | apply zA | apply zB | apply zC)); exact Kd.R_mono (Kd.R_far (p := ⟨gb166, 2, none⟩) (Kd.R_far (p := ⟨gb166, 1, none⟩) (Kd.R_far (p := ⟨gb166, 0, none⟩) (Kd.R_far (p := ⟨gb204, 2, none⟩) (Kd.R_far (p := ⟨gb204, 1, none⟩) (Kd.R_far (p := ⟨gb204, 0, none⟩) (Kd.R_types (Kd.R_types HO_qa.out BK204.out (by decide)) BK166.out (by decide)) (fun _ hk => hk.1.2) (.slice Ao74 t196.length co74)) (fun _ hk => hk.1.2) (.int .i64 t199)) (fun _ hk => hk.1.2) (.slice Ao77 t200.length co77)) (fun _ hk => hk.2) (.slice Ao74 t196.length co74)) (fun _ hk => hk.2) (.int .i64 t199)) (fun _ hk => hk.2) (.slice Ao77 t200.length co77)) (fun _ _ => by trivial)⟩, ⟨by (with_reducible repeat (first | apply zA | apply zB | apply zC)); exact Kd.R_mono (Kd.R_far (p := ⟨gb166, 2, none⟩) (Kd.R_far (p := ⟨gb166, 1, none⟩) (Kd.R_far (p := ⟨gb166, 0, none⟩) (Kd.R_far (p := ⟨gb204, 2, none⟩) (Kd.R_far (p := ⟨gb204, 1, none⟩) (Kd.R_far (p := ⟨gb204, 0, none⟩) (Kd.R_types (Kd.R_types HO_qc.out BK204.out (by decide)) BK166.out (by decide)) (fun _ hk => hk.1.2) (.slice Ao74 t196.length co74)) (fun _ hk => hk.1.2) (.int .i64 t199)) (fun _ hk => hk.1.2) (.slice Ao77 t200.length co77)) (fun _ hk => hk.2) (.slice Ao74 t196.length co74)) (fun _ hk => hk.2) (.int .i64 t199)) (fun _ hk => hk.2) (.slice Ao77 t200.length co77)) (fun _ _ => by trivial)⟩, ⟨by (with_reducible repeat (first | apply zA | apply zB | apply zC)); exact Kd.R_mono (Kd.R_far (p := ⟨gb166, 2, none⟩) (Kd.R_far (p := ⟨gb166, 1, none⟩) (Kd.R_far (p := ⟨gb166, 0, none⟩) (Kd.R_far (p := ⟨gb204, 2, none⟩) (Kd.R_far (p := ⟨gb204, 1, none⟩) (Kd.R_far (p := ⟨gb204, 0, none⟩) (Kd.R_types (Kd.R_types HO198.out BK204.out (by decide)) BK166.out (by decide)) (fun _ hk => hk.1.2) (.slice Ao74 t196.length co74)) (fun _ hk => hk.1.2) (.int .i64 t199)) (fun _ hk => hk.1.2) (.slice Ao77 t200.length co77)) (fun _ hk => hk.2) (.slice Ao74 t196.length co74)) (fun _ hk => hk.2) (.int .i64 t199)) (fun _ hk => hk.2) (.slice Ao77 t200.length co77)) (fun _ _ => by trivial)⟩, ⟨by (with_reducible repeat (first | apply zA | apply zB | apply zC)); exact Kd.R_mono (Kd.R_far (p := ⟨gb166, 2, none⟩) (Kd.R_far (p := ⟨gb166, 1, none⟩) (Kd.R_far (p := ⟨gb166, 0, none⟩) (Kd.R_far (p := ⟨gb204, 2, none⟩) (Kd.R_far (p := ⟨gb204, 1, none⟩) (Kd.R_far (p := ⟨gb204, 0, none⟩) (Kd.R_types (Kd.R_types HO202.out BK204.out (by decide)) BK166.out (by decide)) (fun _ hk => hk.1.2) (.slice Ao74 t196.length co74)) (fun _ hk => hk.1.2) (.int .i64 t199)) (fun _ hk => hk.1.2) (.slice Ao77 t200.length co77)) (fun _ hk => hk.2) (.slice Ao74 t196.length co74)) (fun _ hk => hk.2) (.int .i64 t199)) (fun _ hk => hk.2) (.slice Ao77 t200.length co77)) (fun _ _ => by trivial)⟩, ⟨by (with_reducible repeat (first | refine zD ?_ _ | refine zE ?_ | refine zF ?_ _)); refine blk_far ?_ NB150_166.out _; (with_reducible repeat (first | refine zD ?_ _ | refine zE ?_ | refine zF ?_ _)); refine blk_far ?_ NB150_166.out _; (with_reducible repeat (first | refine zD ?_ _ | refine zE ?_ | refine zF ?_ _)); refine blk_far ?_ NB150_166.out _; (with_reducible repeat (first | refine zD ?_ _ | refine zE ?_ | refine zF ?_ _)); refine blk_far ?_ NB150_204.out _; (with_reducible repeat (first | refine zD ?_ _ | refine zE ?_ | refine zF ?_ _)); refine blk_far ?_ NB150_204.out _; (with_reducible repeat (first | refine zD ?_ _ | refine zE ?_ | refine zF ?_ _)); refine blk_far ?_ NB150_204.out _; (with_reducible repeat (first | refine zD ?_ _ | refine zE ?_ | refine zF ?_ _)); exact BK150.out⟩, ⟨by (with_reducible repeat (first | refine zD ?_ _ | refine zE ?_ | refine zF ?_ _)); refine blk_far ?_ NB165_166.out _; (with_reducible repeat (first | refine zD ?_ _ | refine zE ?_ | refine zF ?_ _)); refine blk_far ?_ NB165_166.out _; (with_reducible repeat (first | refine zD ?_ _ | refine zE ?_ | refine zF ?_ _)); refine blk_far ?_ NB165_166.out _; (with_reducible repeat (first | refine zD ?_ _ | refine zE ?_ | refine zF ?_ _)); refine blk_far ?_ NB165_204.out _; (with_reducible repeat (first | refine zD ?_ _ | refine zE ?_ | refine zF ?_ _)); refine blk_far ?_ NB165_204.out _; (with_reducible repeat (first | refine zD ?_ _ | refine zE ?_ | refine zF ?_ _)); refine blk_far ?_ NB165_204.out _; (with_reducible repeat (first | refine zD ?_ _ | refine zE ?_ | refine zF ?_ _)); exact BK165.out⟩, ⟨by (with_reducible repeat (first | refine zD ?_ _ | refine zE ?_ | refine zF ?_ _)); refine blk_put (cs := #[.slice Ao74 t196.length co74, .int .i64 t199, .slice Ao68 xqf_2.length co68]) ?_ 2 _ rfl; (with_reducible repeat (first | refine zD ?_ _ | refine zE ?_ | refine zF ?_ _)); refine blk_put (cs := #[.slice Ao74 t196.length co74, .int .i64 xqe_2, .slice Ao68 xqf_2.length co68]) ?_ 1 _ rfl; (with_reducible repeat (first | refine zD ?_ _ | refine zE ?_ | refine zF ?_ _)); refine blk_put (cs := #[.slice Ao67 xqd_2.length co67, .int .i64 xqe_2, .slice Ao68 xqf_2.length co68]) ?_ 0 _ rfl; (with_reducible repeat (first | refine zD ?_ _ | refine zE ?_ | refine zF ?_ _)); refine blk_far ?_ NB166_204.out _; (with_reducible repeat (first | refine zD ?_ _ | refine zE ?_ | refine zF ?_ _)); refine blk_far ?_ NB166_204.out _; (with_reducible repeat (first | refine zD ?_ _ | refine zE ?_ | refine zF ?_ _)); refine blk_far ?_ NB166_204.out _; (with_reducible repeat (first | refine zD ?_ _ | refine zE ?_ | refine zF ?_ _)); exact BK166.out⟩, ⟨by repeat (first | (with_reducible first | exact HB.out | apply zG | apply zH | apply zI | refine zL ?_ GE150.out | refine zL ?_ GE165.out | refine zL ?_ GE166.out | refine zL ?_ GE193.out | refine zL ?_ GE204.out) | exact HB.out)⟩⟩
                ·rw [if_neg c66] at H
                 have c66b0 : (t205 == 0) = false := yK.mpr c66
                 have c66b1 : (t205 != 0) = true := yL.mpr c66
                 have H' := zK H
                 clear H
                 obtain ⟨Ao88, co88, eo88⟩ := yE HO_qd.out
                 subst eo88
                 obtain ⟨Ao89, co89, eo89⟩ := yE HO_qf.out
                 subst eo89
                 try go_wp2
                 have n0_ := zK (zC HO_9.out)
                 have n1_ := zK (zC HO_qa.out)
                 have n2_ := zK (zC HO_qc.out)
                 have n3_ := zK (zC HO_qd.out)
                 have n4_ := zK (zC HO_qf.out)
                 have n5_ := zK (zC HO_qg.out)
                 have n6_ := zK (zC HO_qh.out)
                 have n7_ := zK (zE BK150.out)
                 have n8_ := zK (zE BK165.out)
                 have n9_ := zK (zE BK166.out)
                 have n10_ := zK (zE BK193.out)
                 have n11_ := zK (zI HB.out)
                 clear HO_9
                 clear HO_qa
                 clear HO_qc
                 clear HO_qd
                 clear HO_qf
                 clear HO_qg
                 clear HO_qh
                 clear BK150
                 clear BK165
                 clear BK166
                 clear BK193
                 clear HB
                 have HO_9 := n0_
                 have HO_qa := n1_
                 have HO_qc := n2_
                 have HO_qd := n3_
                 have HO_qf := n4_
                 have HO_qg := n5_
                 have HO_qh := n6_
                 have BK150 := n7_
                 have BK165 := n8_
                 have BK166 := n9_
                 have BK193 := n10_
                 have HB := n11_
                 clear n0_ n1_ n2_ n3_ n4_ n5_ n6_ n7_ n8_ n9_ n10_ n11_
                 obtain ⟨Ao91, co91, eo91⟩ := yE HO_9.out
                 (first | subst eo91 | (injection eo91 with f1_ f2_ f3_; have f4_ := f1_.symm; have f5_ := f3_.symm; clear f1_ f2_ f3_; subst f4_; subst f5_))
                 have p195 : 0 ≤ (x10_2 : Int) := of_decide_eq_true (by first | (with_reducible assumption) | assumption)
                 have q195 : x10_2 < (y181.length : Int) := of_decide_eq_true (by first | (with_reducible assumption) | assumption)
                 obtain ⟨ad195, e195, hx195_0, hx195_1, hx195_2⟩ := at_T50 (zX HO_9.out).2.2 x10_2 p195 q195
                 cases e195
                 replace p195 := eq_true p195
                 replace q195 := eq_true q195
                 refine start_ (n := 12) (S := fun w' => w'.cell? ⟨gb166, 0, none⟩ = some (.slice Ao88 xqd_2.length co88) ∧ w'.cell? ⟨gb166, 1, none⟩ = some (.int .i64 xqe_2) ∧ w'.cell? ⟨gb166, 2, none⟩ = some (.slice Ao89 xqf_2.length co89) ∧ w'.cell? (ad195.add ((x10_2).toNat * 3)) = some (.int .i64 ((rd_T50 y181 x10_2).f0.f0)) ∧ w'.cell? ⟨(ad195.add ((x10_2).toNat * 3)).block, (ad195.add ((x10_2).toNat * 3)).off + 1, none⟩ = some (.int .i64 ((rd_T50 y181 x10_2).f0.f1)) ∧ w'.cell? ⟨(ad195.add ((x10_2).toNat * 3)).block, (ad195.add ((x10_2).toNat * 3)).off + 2, none⟩ = some (.int .i64 ((rd_T50 y181 x10_2).f1))) (ds := []) #[false, false, false, false, false, false, false, false, false, false, false, false] (by kernel_rfl) rfl rfl ⟨(zQ BK166.out 0).trans rfl, (zQ BK166.out 1).trans rfl, (zQ BK166.out 2).trans rfl, hx195_0, hx195_1, hx195_2⟩ (fun hHeld => ?_); refine with_tabW tollbarlaw17_TreeOrders.tab11 tollbarlaw17_TreeOrders.bits11 (fun HT_ HW_ => ?_)
                 generalize wc.drew = w90 at HO_9 HO_qa HO_qc HO_qd HO_qf HO_qg HO_qh BK150 BK165 BK166 BK193 HB hx195_0 hx195_1 hx195_2 hHeld ⊢
                 refine pure_ (i := 1) (N := some 68) (v := ?_) (a' := ?_) #[false, true, false, false, false, false, false, false, false, false, false, false] rfl rfl (any_of HT_.out (by kernel_rfl)) (fun _ _ _ h => h) (Or.inl ⟨by rfl, ?_⟩) ?_ ?_
                 rotate_left
                 ·intro w'
                  go_simp
                  with_reducible rfl
                 rotate_left
                 ·simp only [Act.put, zY, zZ, yA, i64_w, i32_w]
                  rfl
                 refine pure_ (i := 2) (N := some 69) (v := ?_) (a' := ?_) #[false, true, true, false, false, false, false, false, false, false, false, false] rfl rfl (any_of HT_.out (by kernel_rfl)) (fun _ _ _ h => h) (Or.inl ⟨by rfl, ?_⟩) ?_ ?_
                 rotate_left
                 ·intro w'
                  go_simp
                  with_reducible rfl
                 rotate_left
                 ·simp only [Act.put, zY, zZ, yA, i64_w, i32_w]
                  rfl
                 refine pure_ (i := 3) (N := some 70) (v := ?_) (a' := ?_) #[false, true, true, true, false, false, false, false, false, false, false, false] rfl rfl (any_of HT_.out (by kernel_rfl)) (fun _ _ _ h => h) (Or.inl ⟨by rfl, ?_⟩) ?_ ?_
                 rotate_left
                 ·intro w'
                  go_simp
                  with_reducible rfl
                 rotate_left
                 ·simp only [Act.put, zY, zZ, yA, i64_w, i32_w]
                  rfl
                 refine take_ (i := 0) (N := some 67) (v := ?_) (a' := ?_) #[true, true, true, true, false, false, false, false, false, false, false, false] rfl rfl (take_ofW HT_.out HW_.out (by kernel_rfl)) (fun _ _ _ h => h) (Or.inl ⟨by rfl, ?_⟩) hHeld ?_ ?_
                 rotate_left
                 ·rintro w' ⟨s0, s1, s2, s3, s4, s5⟩
                  go_simp
                  with_reducible rfl
                 rotate_left
                 ·simp only [Act.put, zY, zZ, yA, i64_w, i32_w]
                  rfl
                 refine take_ (i := 4) (N := some 71) (v := ?_) (a' := ?_) #[true, true, true, true, true, false, false, false, false, false, false, false] rfl rfl (take_ofW HT_.out HW_.out (by kernel_rfl)) (fun _ _ _ h => h) (Or.inl ⟨by rfl, ?_⟩) hHeld ?_ ?_
                 rotate_left
                 ·rintro w' ⟨s0, s1, s2, s3, s4, s5⟩
                  go_simp
                  with_reducible rfl
                 rotate_left
                 ·simp only [Act.put, zY, zZ, yA, i64_w, i32_w]
                  rfl
                 refine join_ (σ := Value × Value × Nat) 2 #[true, true, true, true, true, true, true, true, true, true, false, false] (fun s_ => [(72, .tuple #[.agg #[s_.1, .int .i64 t199, s_.2.1], .int .i64 t203]), (13, .pointer (some ⟨s_.2.2, 0, none⟩)), (66, .tuple #[.agg #[s_.1, .int .i64 t199, s_.2.1], .int .i64 t203]), (73, .agg #[s_.1, .int .i64 t199, s_.2.1]), (74, .int .i64 t203)]) (fun s_ w' => (w'.cell? ⟨gb166, 0, none⟩ = some (.slice Ao88 xqd_2.length co88) ∧ w'.cell? ⟨gb166, 1, none⟩ = some (.int .i64 xqe_2) ∧ w'.cell? ⟨gb166, 2, none⟩ = some (.slice Ao89 xqf_2.length co89) ∧ w'.cell? (ad195.add ((x10_2).toNat * 3)) = some (.int .i64 ((rd_T50 y181 x10_2).f0.f0)) ∧ w'.cell? ⟨(ad195.add ((x10_2).toNat * 3)).block, (ad195.add ((x10_2).toNat * 3)).off + 1, none⟩ = some (.int .i64 ((rd_T50 y181 x10_2).f0.f1)) ∧ w'.cell? ⟨(ad195.add ((x10_2).toNat * 3)).block, (ad195.add ((x10_2).toNat * 3)).off + 2, none⟩ = some (.int .i64 ((rd_T50 y181 x10_2).f1))) ∧ (Kd.R k64 64 w' w.heap.size (fun k_ => some k_ ≠ (uqa : Value).ownBlock ∧ some k_ ≠ (.slice Ao88 xqd_2.length co88 : Value).ownBlock ∧ some k_ ≠ (.slice Ao49 t185.length co49 : Value).ownBlock) s_.1 t196) ∧ (Kd.R (Kd.int .i64) 3 w' w.heap.size (fun k_ => some k_ ≠ (uqc : Value).ownBlock ∧ some k_ ≠ (.slice Ao89 xqf_2.length co89 : Value).ownBlock ∧ some k_ ≠ (.slice Ao52 t189.length co52 : Value).ownBlock) s_.2.1 t200) ∧ (Kd.R k64 64 w' w.heap.size (fun k_ => some k_ ≠ (s_.1 : Value).ownBlock ∧ True ∧ True) uqa xqa_41) ∧ (Kd.R (Kd.int .i64) 3 w' w.heap.size (fun k_ => some k_ ≠ (s_.2.1 : Value).ownBlock ∧ True ∧ True) uqc xqc_41) ∧ (Kd.R k64 64 w' w.heap.size (fun k_ => some k_ ≠ (s_.1 : Value).ownBlock ∧ True ∧ True) (.slice Ao88 xqd_2.length co88) xqd_2) ∧ (Kd.R (Kd.int .i64) 3 w' w.heap.size (fun k_ => some k_ ≠ (s_.2.1 : Value).ownBlock ∧ True ∧ True) (.slice Ao89 xqf_2.length co89) xqf_2) ∧ (Kd.R k64 64 w' w.heap.size (fun k_ => some k_ ≠ (s_.1 : Value).ownBlock ∧ True ∧ True) (.slice Ao49 t185.length co49) t185) ∧ (Kd.R (Kd.int .i64) 3 w' w.heap.size (fun k_ => some k_ ≠ (s_.2.1 : Value).ownBlock ∧ True ∧ True) (.slice Ao52 t189.length co52) t189) ∧ (Kd.R k50 50 w' w.heap.size (fun _ => True) (.slice (some ad195) y181.length co91) y181) ∧ (w'.heap[gb150]? = some (.cells #[.int .i64 a2_0, .int .i64 a2_1] 27 (0, 0))) ∧ (w'.heap[gb165]? = some (.cells #[uqa, .int .i64 xqb_41, uqc] 25 (0, 0))) ∧ (w'.heap[gb166]? = some (.cells #[.slice Ao88 xqd_2.length co88, .int .i64 xqe_2, .slice Ao89 xqf_2.length co89] 25 (0, 0))) ∧ (w'.heap[gb193]? = some (.cells #[.slice Ao49 t185.length co49, .int .i64 t188, .slice Ao52 t189.length co52] 25 (0, 0))) ∧ (w'.heap[s_.2.2]? = some (.cells #[.slice none 0 0, .int .i64 0, .slice none 0 0] 25 (0, 0))) ∧ (w.heap.size ≤ s_.2.2) ∧ (w.heap.size ≤ s_.2.2) ∧ (gb150 ≠ s_.2.2) ∧ (s_.2.2 ≠ gb150) ∧ (gb165 ≠ s_.2.2) ∧ (s_.2.2 ≠ gb165) ∧ (gb166 ≠ s_.2.2) ∧ (s_.2.2 ≠ gb166) ∧ (gb193 ≠ s_.2.2) ∧ (s_.2.2 ≠ gb193) ∧ (Below w.heap.size w w')) ?_ ?_
                 rotate_left
                 ·intro hCont
                  refine two_ (i := 5) (j := 9) (Ni := some 72) (Nj := some 13) #[true, true, true, true, true, true, false, false, false, false, false, false] #[true, true, true, true, true, false, false, false, false, true, false, false] rfl rfl rfl rfl (two_of HT_.out (by kernel_rfl)) (by decide) (by decide) (fun K hK => ?_) (fun K hK => ?_)
                  ·skip
                   refine goes_ Try.func26 (by kernel_rfl) rfl #[.agg #[.slice Ao88 xqd_2.length co88, .int .i64 xqe_2, .slice Ao89 xqf_2.length co89], .agg #[.int .i64 ((rd_T50 y181 x10_2).f0.f0), .int .i64 ((rd_T50 y181 x10_2).f0.f1), .int .i64 ((rd_T50 y181 x10_2).f1)]] (by rfl) rfl rfl zt ?_
                   with_reducible refine (tree_Insert.calls _ _ xqd_2 xqe_2 _ _ xqf_2 ((rd_T50 y181 x10_2).f0.f0) ((rd_T50 y181 x10_2).f0.f1) ((rd_T50 y181 x10_2).f1) t196 t199 t200 t203 _ ?side1 ?side2 ?side3 ?side4 A64.out).mono ?_
                   (case side1 => exact zc (zX HO_qd.out).2.2)
                   (case side2 => exact (zX HO_qd.out).2.1)
                   (case side3 => exact zc (zX HO_qf.out).2.2)
                   (case side4 => exact (zX HO_qf.out).2.1)
                   rintro e w92 ⟨v197, v201, rfl, ho0, ho1, hb⟩
                   have HS3_ := (hb.cell (zJ _ _ (hHeld.2.2.2.1))).trans (hHeld.2.2.2.1)
                   have HS4_ := (hb.cell (zJ _ _ (hHeld.2.2.2.2.1))).trans (hHeld.2.2.2.2.1)
                   have HS5_ := (hb.cell (zJ _ _ (hHeld.2.2.2.2.2))).trans (hHeld.2.2.2.2.2)
                   refine ⟨_, rfl, ?_⟩
                   have n0_ := zK (zO (zr HO_9.out) hb)
                   have n1_ := zK (yC (zr HO_qa.out) (Kd.R_base ho0) hb)
                   have n2_ := zK (yC (zr HO_qc.out) (Kd.R_base ho1) hb)
                   have n3_ := zK (yC (zr HO_qd.out) (Kd.R_base ho0) hb)
                   have n4_ := zK (yC (zr HO_qf.out) (Kd.R_base ho1) hb)
                   have n5_ := zK (yC (zr HO_qg.out) (Kd.R_base ho0) hb)
                   have n6_ := zK (yC (zr HO_qh.out) (Kd.R_base ho1) hb)
                   have n7_ := zK (zV (zW (zW (zW ho0 (yB (zr HO_qa.out))) (yB (zr HO_qd.out))) (yB (zr HO_qg.out))) (yG (zl HB.out)))
                   have n8_ := zK (zV (zW (zW (zW ho1 (yB (zr HO_qc.out))) (yB (zr HO_qf.out))) (yB (zr HO_qh.out))) (yG (zl HB.out)))
                   have n9_ := zK (zP (g := gb150) (o := .cells #[.int .i64 a2_0, .int .i64 a2_1] 27 (0, 0)) (zb BK150.out) hb)
                   have n10_ := zK (zP (g := gb165) (o := .cells #[uqa, .int .i64 xqb_41, uqc] 25 (0, 0)) (zb BK165.out) hb)
                   have n11_ := zK (zP (g := gb166) (o := .cells #[.slice Ao88 xqd_2.length co88, .int .i64 xqe_2, .slice Ao89 xqf_2.length co89] 25 (0, 0)) (zb BK166.out) hb)
                   have n12_ := zK (zP (g := gb193) (o := .cells #[.slice Ao49 t185.length co49, .int .i64 t188, .slice Ao52 t189.length co52] 25 (0, 0)) (zb BK193.out) hb)
                   have n13_ := zK (yF (zl HB.out) hb)
                   clear HO_9
                   clear HO_qa
                   clear HO_qc
                   clear HO_qd
                   clear HO_qf
                   clear HO_qg
                   clear HO_qh
                   clear BK150
                   clear BK165
                   clear BK166
                   clear BK193
                   clear HB
                   have HO_9 := n0_
                   have HO_qa := n1_
                   have HO_qc := n2_
                   have HO_qd := n3_
                   have HO_qf := n4_
                   have HO_qg := n5_
                   have HO_qh := n6_
                   have HO198 := n7_
                   have HO202 := n8_
                   have BK150 := n9_
                   have BK165 := n10_
                   have BK166 := n11_
                   have BK193 := n12_
                   have HB := n13_
                   clear n0_ n1_ n2_ n3_ n4_ n5_ n6_ n7_ n8_ n9_ n10_ n11_ n12_ n13_
                   (try clear hb)
                   (try clear hb2)
                   (try clear hk)
                   (try clear hi)
                   (try clear ho0)
                   (try clear ho1)
                   refine hK.out _ _ ⟨(zQ BK166.out 0).trans rfl, (zQ BK166.out 1).trans rfl, (zQ BK166.out 2).trans rfl, HS3_, HS4_, HS5_⟩ (fun hHeld => ?_)
                   clear hK K
                   refine norm_ (a' := ?_) ?_ ?_
                   rotate_left
                   ·show Act.put _ (some 72) _ = _
                    simp only [Act.put, zY, zZ, yA, i64_w, i32_w]
                    rfl
                   refine pure_ (i := 6) (N := some 66) (v := ?_) (a' := ?_) #[true, true, true, true, true, true, true, false, false, false, false, false] rfl rfl (any_of HT_.out (by kernel_rfl)) (fun _ _ _ h => h) (Or.inl ⟨by rfl, ?_⟩) ?_ ?_
                   rotate_left
                   ·intro w'
                    go_simp
                    with_reducible rfl
                   rotate_left
                   ·simp only [Act.put, zY, zZ, yA, i64_w, i32_w]
                    rfl
                   refine pure_ (i := 7) (N := some 73) (v := ?_) (a' := ?_) #[true, true, true, true, true, true, true, true, false, false, false, false] rfl rfl (any_of HT_.out (by kernel_rfl)) (fun _ _ _ h => h) (Or.inl ⟨by rfl, ?_⟩) ?_ ?_
                   rotate_left
                   ·intro w'
                    go_simp
                    with_reducible rfl
                   rotate_left
                   ·simp only [Act.put, zY, zZ, yA, i64_w, i32_w]
                    rfl
                   refine pure_ (i := 8) (N := some 74) (v := ?_) (a' := ?_) #[true, true, true, true, true, true, true, true, true, false, false, false] rfl rfl (any_of HT_.out (by kernel_rfl)) (fun _ _ _ h => h) (Or.inl ⟨by rfl, ?_⟩) ?_ ?_
                   rotate_left
                   ·intro w'
                    go_simp
                    with_reducible rfl
                   rotate_left
                   ·simp only [Act.put, zY, zZ, yA, i64_w, i32_w]
                    rfl
                   refine one_ (i := 9) (N := some 13) #[true, true, true, true, true, true, true, true, true, true, false, false] rfl rfl (one_of HT_.out (by kernel_rfl)) (by decide) (fun K hK => ?_)
                   refine box_step ?hg (N := 13) ?hd (cs := #[.slice none 0 0, .int .i64 0, .slice none 0 0]) (t := 25) ?hr ?_; (case hd => rfl); (case hg => rfl); (case hr => first | (go_simp; done) | (go_simp; rfl))
                   intro gb204 hg w93 hbox hb
                   have HS3_ := (hb.cell (zJ _ _ (hHeld.2.2.2.1))).trans (hHeld.2.2.2.1)
                   have HS4_ := (hb.cell (zJ _ _ (hHeld.2.2.2.2.1))).trans (hHeld.2.2.2.2.1)
                   have HS5_ := (hb.cell (zJ _ _ (hHeld.2.2.2.2.2))).trans (hHeld.2.2.2.2.2)
                   have n0_ := zK (zO (zr HO_9.out) hb)
                   have n1_ := zK (zO (zr HO_qa.out) hb)
                   have n2_ := zK (zO (zr HO_qc.out) hb)
                   have n3_ := zK (zO (zr HO_qd.out) hb)
                   have n4_ := zK (zO (zr HO_qf.out) hb)
                   have n5_ := zK (zO (zr HO_qg.out) hb)
                   have n6_ := zK (zO (zr HO_qh.out) hb)
                   have n7_ := zK (zO (zr HO198.out) hb)
                   have n8_ := zK (zO (zr HO202.out) hb)
                   have n9_ := zK (zP (g := gb150) (o := .cells #[.int .i64 a2_0, .int .i64 a2_1] 27 (0, 0)) (zb BK150.out) hb)
                   have n10_ := zK (zP (g := gb165) (o := .cells #[uqa, .int .i64 xqb_41, uqc] 25 (0, 0)) (zb BK165.out) hb)
                   have n11_ := zK (zP (g := gb166) (o := .cells #[.slice Ao88 xqd_2.length co88, .int .i64 xqe_2, .slice Ao89 xqf_2.length co89] 25 (0, 0)) (zb BK166.out) hb)
                   have n12_ := zK (zP (g := gb193) (o := .cells #[.slice Ao49 t185.length co49, .int .i64 t188, .slice Ao52 t189.length co52] 25 (0, 0)) (zb BK193.out) hb)
                   have n13_ := zK (yF (zl HB.out) hb)
                   have n14_ := zK (hbox)
                   have n15_ := zK ((by rw [hg]; exact (yG (zl HB.out)) : w.heap.size ≤ gb204))
                   have n16_ := zK ((by rw [hg]; exact (yG (zl HB.out)) : w.heap.size ≤ gb204))
                   have n17_ := zK ((by rw [hg]; exact zN (blk_lt (g := gb150) (o := .cells #[.int .i64 a2_0, .int .i64 a2_1] 27 (0, 0)) (zb BK150.out)) : gb150 ≠ gb204))
                   have n18_ := zK ((by rw [hg]; exact Nat.ne_of_gt (blk_lt (g := gb150) (o := .cells #[.int .i64 a2_0, .int .i64 a2_1] 27 (0, 0)) (zb BK150.out)) : gb204 ≠ gb150))
                   have n19_ := zK ((by rw [hg]; exact zN (blk_lt (g := gb165) (o := .cells #[uqa, .int .i64 xqb_41, uqc] 25 (0, 0)) (zb BK165.out)) : gb165 ≠ gb204))
                   have n20_ := zK ((by rw [hg]; exact Nat.ne_of_gt (blk_lt (g := gb165) (o := .cells #[uqa, .int .i64 xqb_41, uqc] 25 (0, 0)) (zb BK165.out)) : gb204 ≠ gb165))
                   have n21_ := zK ((by rw [hg]; exact zN (blk_lt (g := gb166) (o := .cells #[.slice Ao88 xqd_2.length co88, .int .i64 xqe_2, .slice Ao89 xqf_2.length co89] 25 (0, 0)) (zb BK166.out)) : gb166 ≠ gb204))
                   have n22_ := zK ((by rw [hg]; exact Nat.ne_of_gt (blk_lt (g := gb166) (o := .cells #[.slice Ao88 xqd_2.length co88, .int .i64 xqe_2, .slice Ao89 xqf_2.length co89] 25 (0, 0)) (zb BK166.out)) : gb204 ≠ gb166))
                   have n23_ := zK ((by rw [hg]; exact zN (blk_lt (g := gb193) (o := .cells #[.slice Ao49 t185.length co49, .int .i64 t188, .slice Ao52 t189.length co52] 25 (0, 0)) (zb BK193.out)) : gb193 ≠ gb204))
                   have n24_ := zK ((by rw [hg]; exact Nat.ne_of_gt (blk_lt (g := gb193) (o := .cells #[.slice Ao49 t185.length co49, .int .i64 t188, .slice Ao52 t189.length co52] 25 (0, 0)) (zb BK193.out)) : gb204 ≠ gb193))
                   clear HO_9
                   clear HO_qa
                   clear HO_qc
                   clear HO_qd
                   clear HO_qf
                   clear HO_qg
                   clear HO_qh
                   clear HO198
                   clear HO202
                   clear BK150
                   clear BK165
                   clear BK166
                   clear BK193
                   clear HB
                   have HO_9 := n0_
                   have HO_qa := n1_
                   have HO_qc := n2_
                   have HO_qd := n3_
                   have HO_qf := n4_
                   have HO_qg := n5_
                   have HO_qh := n6_
                   have HO198 := n7_
                   have HO202 := n8_
                   have BK150 := n9_
                   have BK165 := n10_
                   have BK166 := n11_
                   have BK193 := n12_
                   have HB := n13_
                   have BK204 := n14_
                   have GW204 := n15_
                   have GE204 := n16_
                   have NB150_204 := n17_
                   have NB204_150 := n18_
                   have NB165_204 := n19_
                   have NB204_165 := n20_
                   have NB166_204 := n21_
                   have NB204_166 := n22_
                   have NB193_204 := n23_
                   have NB204_193 := n24_
                   clear n0_ n1_ n2_ n3_ n4_ n5_ n6_ n7_ n8_ n9_ n10_ n11_ n12_ n13_ n14_ n15_ n16_ n17_ n18_ n19_ n20_ n21_ n22_ n23_ n24_
                   clear hb hbox hg
                   refine hK.out _ _ ⟨(zQ BK166.out 0).trans rfl, (zQ BK166.out 1).trans rfl, (zQ BK166.out 2).trans rfl, HS3_, HS4_, HS5_⟩ (fun hHeld => ?_)
                   clear hK K
                   refine norm_ (a' := ?_) ?_ ?_
                   rotate_left
                   ·show Act.put _ (some 13) _ = _
                    simp only [Act.put, zY, zZ, yA, i64_w, i32_w]
                    rfl
                   exact norm_ (by simp only [putAll, Act.put, zY, zZ, yA]) (hCont (v197, v201, gb204) _ ⟨hHeld, (by (with_reducible repeat (first | apply zA | apply zB | apply zC)); exact Kd.R_mono HO198.out (fun _ hk => ⟨hk.1.1.2, ⟨hk.1.2, hk.2⟩⟩)), (by (with_reducible repeat (first | apply zA | apply zB | apply zC)); exact Kd.R_mono HO202.out (fun _ hk => ⟨hk.1.1.2, ⟨hk.1.2, hk.2⟩⟩)), (by (with_reducible repeat (first | apply zA | apply zB | apply zC)); exact Kd.R_mono HO_qa.out (fun _ hk => ⟨hk.2, ⟨hk.1.1, hk.1.2⟩⟩)), (by (with_reducible repeat (first | apply zA | apply zB | apply zC)); exact Kd.R_mono HO_qc.out (fun _ hk => ⟨hk.2, ⟨hk.1.1, hk.1.2⟩⟩)), (by (with_reducible repeat (first | apply zA | apply zB | apply zC)); exact Kd.R_mono HO_qd.out (fun _ hk => ⟨hk.2, ⟨hk.1.1, hk.1.2⟩⟩)), (by (with_reducible repeat (first | apply zA | apply zB | apply zC)); exact Kd.R_mono HO_qf.out (fun _ hk => ⟨hk.2, ⟨hk.1.1, hk.1.2⟩⟩)), (by (with_reducible repeat (first | apply zA | apply zB | apply zC)); exact Kd.R_mono HO_qg.out (fun _ hk => ⟨hk.2, ⟨hk.1.1, hk.1.2⟩⟩)), (by (with_reducible repeat (first | apply zA | apply zB | apply zC)); exact Kd.R_mono HO_qh.out (fun _ hk => ⟨hk.2, ⟨hk.1.1, hk.1.2⟩⟩)), (zr HO_9.out), (zb BK150.out), (zb BK165.out), (zb BK166.out), (zb BK193.out), (zb BK204.out), GW204.out, GE204.out, NB150_204.out, NB204_150.out, NB165_204.out, NB204_165.out, NB166_204.out, NB204_166.out, NB193_204.out, NB204_193.out, (zl HB.out)⟩)
                  ·skip
                   refine box_step ?hg (N := 13) ?hd (cs := #[.slice none 0 0, .int .i64 0, .slice none 0 0]) (t := 25) ?hr ?_; (case hd => rfl); (case hg => rfl); (case hr => first | (go_simp; done) | (go_simp; rfl))
                   intro gb204 hg w92 hbox hb
                   have HS3_ := (hb.cell (zJ _ _ (hHeld.2.2.2.1))).trans (hHeld.2.2.2.1)
                   have HS4_ := (hb.cell (zJ _ _ (hHeld.2.2.2.2.1))).trans (hHeld.2.2.2.2.1)
                   have HS5_ := (hb.cell (zJ _ _ (hHeld.2.2.2.2.2))).trans (hHeld.2.2.2.2.2)
                   have n0_ := zK (zO (zr HO_9.out) hb)
                   have n1_ := zK (zO (zr HO_qa.out) hb)
                   have n2_ := zK (zO (zr HO_qc.out) hb)
                   have n3_ := zK (zO (zr HO_qd.out) hb)
                   have n4_ := zK (zO (zr HO_qf.out) hb)
                   have n5_ := zK (zO (zr HO_qg.out) hb)
                   have n6_ := zK (zO (zr HO_qh.out) hb)
                   have n7_ := zK (zP (g := gb150) (o := .cells #[.int .i64 a2_0, .int .i64 a2_1] 27 (0, 0)) (zb BK150.out) hb)
                   have n8_ := zK (zP (g := gb165) (o := .cells #[uqa, .int .i64 xqb_41, uqc] 25 (0, 0)) (zb BK165.out) hb)
                   have n9_ := zK (zP (g := gb166) (o := .cells #[.slice Ao88 xqd_2.length co88, .int .i64 xqe_2, .slice Ao89 xqf_2.length co89] 25 (0, 0)) (zb BK166.out) hb)
                   have n10_ := zK (zP (g := gb193) (o := .cells #[.slice Ao49 t185.length co49, .int .i64 t188, .slice Ao52 t189.length co52] 25 (0, 0)) (zb BK193.out) hb)
                   have n11_ := zK (yF (zl HB.out) hb)
                   have n12_ := zK (hbox)
                   have n13_ := zK ((by rw [hg]; exact (yG (zl HB.out)) : w.heap.size ≤ gb204))
                   have n14_ := zK ((by rw [hg]; exact (yG (zl HB.out)) : w.heap.size ≤ gb204))
                   have n15_ := zK ((by rw [hg]; exact zN (blk_lt (g := gb150) (o := .cells #[.int .i64 a2_0, .int .i64 a2_1] 27 (0, 0)) (zb BK150.out)) : gb150 ≠ gb204))
                   have n16_ := zK ((by rw [hg]; exact Nat.ne_of_gt (blk_lt (g := gb150) (o := .cells #[.int .i64 a2_0, .int .i64 a2_1] 27 (0, 0)) (zb BK150.out)) : gb204 ≠ gb150))
                   have n17_ := zK ((by rw [hg]; exact zN (blk_lt (g := gb165) (o := .cells #[uqa, .int .i64 xqb_41, uqc] 25 (0, 0)) (zb BK165.out)) : gb165 ≠ gb204))
                   have n18_ := zK ((by rw [hg]; exact Nat.ne_of_gt (blk_lt (g := gb165) (o := .cells #[uqa, .int .i64 xqb_41, uqc] 25 (0, 0)) (zb BK165.out)) : gb204 ≠ gb165))
                   have n19_ := zK ((by rw [hg]; exact zN (blk_lt (g := gb166) (o := .cells #[.slice Ao88 xqd_2.length co88, .int .i64 xqe_2, .slice Ao89 xqf_2.length co89] 25 (0, 0)) (zb BK166.out)) : gb166 ≠ gb204))
                   have n20_ := zK ((by rw [hg]; exact Nat.ne_of_gt (blk_lt (g := gb166) (o := .cells #[.slice Ao88 xqd_2.length co88, .int .i64 xqe_2, .slice Ao89 xqf_2.length co89] 25 (0, 0)) (zb BK166.out)) : gb204 ≠ gb166))
                   have n21_ := zK ((by rw [hg]; exact zN (blk_lt (g := gb193) (o := .cells #[.slice Ao49 t185.length co49, .int .i64 t188, .slice Ao52 t189.length co52] 25 (0, 0)) (zb BK193.out)) : gb193 ≠ gb204))
                   have n22_ := zK ((by rw [hg]; exact Nat.ne_of_gt (blk_lt (g := gb193) (o := .cells #[.slice Ao49 t185.length co49, .int .i64 t188, .slice Ao52 t189.length co52] 25 (0, 0)) (zb BK193.out)) : gb204 ≠ gb193))
                   clear HO_9
                   clear HO_qa
                   clear HO_qc
                   clear HO_qd
                   clear HO_qf
                   clear HO_qg
                   clear HO_qh
                   clear BK150
                   clear BK165
                   clear BK166
                   clear BK193
                   clear HB
                   have HO_9 := n0_
                   have HO_qa := n1_
                   have HO_qc := n2_
                   have HO_qd := n3_
                   have HO_qf := n4_
                   have HO_qg := n5_
                   have HO_qh := n6_
                   have BK150 := n7_
                   have BK165 := n8_
                   have BK166 := n9_
                   have BK193 := n10_
                   have HB := n11_
                   have BK204 := n12_
                   have GW204 := n13_
                   have GE204 := n14_
                   have NB150_204 := n15_
                   have NB204_150 := n16_
                   have NB165_204 := n17_
                   have NB204_165 := n18_
                   have NB166_204 := n19_
                   have NB204_166 := n20_
                   have NB193_204 := n21_
                   have NB204_193 := n22_
                   clear n0_ n1_ n2_ n3_ n4_ n5_ n6_ n7_ n8_ n9_ n10_ n11_ n12_ n13_ n14_ n15_ n16_ n17_ n18_ n19_ n20_ n21_ n22_
                   clear hb hbox hg
                   refine hK.out _ _ ⟨(zQ BK166.out 0).trans rfl, (zQ BK166.out 1).trans rfl, (zQ BK166.out 2).trans rfl, HS3_, HS4_, HS5_⟩ (fun hHeld => ?_)
                   clear hK K
                   refine norm_ (a' := ?_) ?_ ?_
                   rotate_left
                   ·show Act.put _ (some 13) _ = _
                    simp only [Act.put, zY, zZ, yA, i64_w, i32_w]
                    rfl
                   refine one_ (i := 5) (N := some 72) #[true, true, true, true, true, true, false, false, false, true, false, false] rfl rfl (one_of HT_.out (by kernel_rfl)) (by decide) (fun K hK => ?_)
                   refine goes_ Try.func26 (by kernel_rfl) rfl #[.agg #[.slice Ao88 xqd_2.length co88, .int .i64 xqe_2, .slice Ao89 xqf_2.length co89], .agg #[.int .i64 ((rd_T50 y181 x10_2).f0.f0), .int .i64 ((rd_T50 y181 x10_2).f0.f1), .int .i64 ((rd_T50 y181 x10_2).f1)]] (by rfl) rfl rfl zt ?_
                   with_reducible refine (tree_Insert.calls _ _ xqd_2 xqe_2 _ _ xqf_2 ((rd_T50 y181 x10_2).f0.f0) ((rd_T50 y181 x10_2).f0.f1) ((rd_T50 y181 x10_2).f1) t196 t199 t200 t203 _ ?side1 ?side2 ?side3 ?side4 A64.out).mono ?_
                   (case side1 => exact zc (zX HO_qd.out).2.2)
                   (case side2 => exact (zX HO_qd.out).2.1)
                   (case side3 => exact zc (zX HO_qf.out).2.2)
                   (case side4 => exact (zX HO_qf.out).2.1)
                   rintro e w93 ⟨v197, v201, rfl, ho0, ho1, hb⟩
                   have HS3_ := (hb.cell (zJ _ _ (hHeld.2.2.2.1))).trans (hHeld.2.2.2.1)
                   have HS4_ := (hb.cell (zJ _ _ (hHeld.2.2.2.2.1))).trans (hHeld.2.2.2.2.1)
                   have HS5_ := (hb.cell (zJ _ _ (hHeld.2.2.2.2.2))).trans (hHeld.2.2.2.2.2)
                   refine ⟨_, rfl, ?_⟩
                   have n0_ := zK (zO (zr HO_9.out) hb)
                   have n1_ := zK (yC (zr HO_qa.out) (Kd.R_base ho0) hb)
                   have n2_ := zK (yC (zr HO_qc.out) (Kd.R_base ho1) hb)
                   have n3_ := zK (yC (zr HO_qd.out) (Kd.R_base ho0) hb)
                   have n4_ := zK (yC (zr HO_qf.out) (Kd.R_base ho1) hb)
                   have n5_ := zK (yC (zr HO_qg.out) (Kd.R_base ho0) hb)
                   have n6_ := zK (yC (zr HO_qh.out) (Kd.R_base ho1) hb)
                   have n7_ := zK (zV (zW (zW (zW ho0 (yB (zr HO_qa.out))) (yB (zr HO_qd.out))) (yB (zr HO_qg.out))) (yG (zl HB.out)))
                   have n8_ := zK (zV (zW (zW (zW ho1 (yB (zr HO_qc.out))) (yB (zr HO_qf.out))) (yB (zr HO_qh.out))) (yG (zl HB.out)))
                   have n9_ := zK (zP (g := gb150) (o := .cells #[.int .i64 a2_0, .int .i64 a2_1] 27 (0, 0)) (zb BK150.out) hb)
                   have n10_ := zK (zP (g := gb165) (o := .cells #[uqa, .int .i64 xqb_41, uqc] 25 (0, 0)) (zb BK165.out) hb)
                   have n11_ := zK (zP (g := gb166) (o := .cells #[.slice Ao88 xqd_2.length co88, .int .i64 xqe_2, .slice Ao89 xqf_2.length co89] 25 (0, 0)) (zb BK166.out) hb)
                   have n12_ := zK (zP (g := gb193) (o := .cells #[.slice Ao49 t185.length co49, .int .i64 t188, .slice Ao52 t189.length co52] 25 (0, 0)) (zb BK193.out) hb)
                   have n13_ := zK (zP (g := gb204) (o := .cells #[.slice none 0 0, .int .i64 0, .slice none 0 0] 25 (0, 0)) (zb BK204.out) hb)
                   have n14_ := zK (yF (zl HB.out) hb)
                   clear HO_9
                   clear HO_qa
                   clear HO_qc
                   clear HO_qd
                   clear HO_qf
                   clear HO_qg
                   clear HO_qh
                   clear BK150
                   clear BK165
                   clear BK166
                   clear BK193
                   clear BK204
                   clear HB
                   have HO_9 := n0_
                   have HO_qa := n1_
                   have HO_qc := n2_
                   have HO_qd := n3_
                   have HO_qf := n4_
                   have HO_qg := n5_
                   have HO_qh := n6_
                   have HO198 := n7_
                   have HO202 := n8_
                   have BK150 := n9_
                   have BK165 := n10_
                   have BK166 := n11_
                   have BK193 := n12_
                   have BK204 := n13_
                   have HB := n14_
                   clear n0_ n1_ n2_ n3_ n4_ n5_ n6_ n7_ n8_ n9_ n10_ n11_ n12_ n13_ n14_
                   (try clear hb)
                   (try clear hb2)
                   (try clear hk)
                   (try clear hi)
                   (try clear ho0)
                   (try clear ho1)
                   refine hK.out _ _ ⟨(zQ BK166.out 0).trans rfl, (zQ BK166.out 1).trans rfl, (zQ BK166.out 2).trans rfl, HS3_, HS4_, HS5_⟩ (fun hHeld => ?_)
                   clear hK K
                   refine norm_ (a' := ?_) ?_ ?_
                   rotate_left
                   ·show Act.put _ (some 72) _ = _
                    simp only [Act.put, zY, zZ, yA, i64_w, i32_w]
                    rfl
                   refine pure_ (i := 6) (N := some 66) (v := ?_) (a' := ?_) #[true, true, true, true, true, true, true, false, false, true, false, false] rfl rfl (any_of HT_.out (by kernel_rfl)) (fun _ _ _ h => h) (Or.inl ⟨by rfl, ?_⟩) ?_ ?_
                   rotate_left
                   ·intro w'
                    go_simp
                    with_reducible rfl
                   rotate_left
                   ·simp only [Act.put, zY, zZ, yA, i64_w, i32_w]
                    rfl
                   refine pure_ (i := 7) (N := some 73) (v := ?_) (a' := ?_) #[true, true, true, true, true, true, true, true, false, true, false, false] rfl rfl (any_of HT_.out (by kernel_rfl)) (fun _ _ _ h => h) (Or.inl ⟨by rfl, ?_⟩) ?_ ?_
                   rotate_left
                   ·intro w'
                    go_simp
                    with_reducible rfl
                   rotate_left
                   ·simp only [Act.put, zY, zZ, yA, i64_w, i32_w]
                    rfl
                   refine pure_ (i := 8) (N := some 74) (v := ?_) (a' := ?_) #[true, true, true, true, true, true, true, true, true, true, false, false] rfl rfl (any_of HT_.out (by kernel_rfl)) (fun _ _ _ h => h) (Or.inl ⟨by rfl, ?_⟩) ?_ ?_
                   rotate_left
                   ·intro w'
                    go_simp
                    with_reducible rfl
                   rotate_left
                   ·simp only [Act.put, zY, zZ, yA, i64_w, i32_w]
                    rfl
                   exact norm_ (by simp only [putAll, Act.put, zY, zZ, yA]) (hCont (v197, v201, gb204) _ ⟨hHeld, (by (with_reducible repeat (first | apply zA | apply zB | apply zC)); exact Kd.R_mono HO198.out (fun _ hk => ⟨hk.1.1.2, ⟨hk.1.2, hk.2⟩⟩)), (by (with_reducible repeat (first | apply zA | apply zB | apply zC)); exact Kd.R_mono HO202.out (fun _ hk => ⟨hk.1.1.2, ⟨hk.1.2, hk.2⟩⟩)), (by (with_reducible repeat (first | apply zA | apply zB | apply zC)); exact Kd.R_mono HO_qa.out (fun _ hk => ⟨hk.2, ⟨hk.1.1, hk.1.2⟩⟩)), (by (with_reducible repeat (first | apply zA | apply zB | apply zC)); exact Kd.R_mono HO_qc.out (fun _ hk => ⟨hk.2, ⟨hk.1.1, hk.1.2⟩⟩)), (by (with_reducible repeat (first | apply zA | apply zB | apply zC)); exact Kd.R_mono HO_qd.out (fun _ hk => ⟨hk.2, ⟨hk.1.1, hk.1.2⟩⟩)), (by (with_reducible repeat (first | apply zA | apply zB | apply zC)); exact Kd.R_mono HO_qf.out (fun _ hk => ⟨hk.2, ⟨hk.1.1, hk.1.2⟩⟩)), (by (with_reducible repeat (first | apply zA | apply zB | apply zC)); exact Kd.R_mono HO_qg.out (fun _ hk => ⟨hk.2, ⟨hk.1.1, hk.1.2⟩⟩)), (by (with_reducible repeat (first | apply zA | apply zB | apply zC)); exact Kd.R_mono HO_qh.out (fun _ hk => ⟨hk.2, ⟨hk.1.1, hk.1.2⟩⟩)), (zr HO_9.out), (zb BK150.out), (zb BK165.out), (zb BK166.out), (zb BK193.out), (zb BK204.out), GW204.out, GE204.out, NB150_204.out, NB204_150.out, NB165_204.out, NB204_165.out, NB166_204.out, NB204_166.out, NB193_204.out, NB204_193.out, (zl HB.out)⟩)
                 rintro ⟨v197, v201, gb204⟩ w94 ⟨hS_, h0_, h1_, h2_, h3_, h4_, h5_, h6_, h7_, h8_, h9_, h10_, h11_, h12_, h13_, h14_, h15_, h16_, h17_, h18_, h19_, h20_, h21_, h22_, h23_, h24_⟩
                 have n0_ : Aside0 (Kd.R k64 64 w94 w.heap.size (fun k_ => some k_ ≠ (uqa : Value).ownBlock ∧ some k_ ≠ (.slice Ao88 xqd_2.length co88 : Value).ownBlock ∧ some k_ ≠ (.slice Ao49 t185.length co49 : Value).ownBlock) v197 t196) := ⟨h0_⟩
                 have n1_ : Aside0 (Kd.R (Kd.int .i64) 3 w94 w.heap.size (fun k_ => some k_ ≠ (uqc : Value).ownBlock ∧ some k_ ≠ (.slice Ao89 xqf_2.length co89 : Value).ownBlock ∧ some k_ ≠ (.slice Ao52 t189.length co52 : Value).ownBlock) v201 t200) := ⟨h1_⟩
                 have n2_ : Aside0 (Kd.R k64 64 w94 w.heap.size (fun k_ => some k_ ≠ (v197 : Value).ownBlock ∧ True ∧ True) uqa xqa_41) := ⟨h2_⟩
                 have n3_ : Aside0 (Kd.R (Kd.int .i64) 3 w94 w.heap.size (fun k_ => some k_ ≠ (v201 : Value).ownBlock ∧ True ∧ True) uqc xqc_41) := ⟨h3_⟩
                 have n4_ : Aside0 (Kd.R k64 64 w94 w.heap.size (fun k_ => some k_ ≠ (v197 : Value).ownBlock ∧ True ∧ True) (.slice Ao88 xqd_2.length co88) xqd_2) := ⟨h4_⟩
                 have n5_ : Aside0 (Kd.R (Kd.int .i64) 3 w94 w.heap.size (fun k_ => some k_ ≠ (v201 : Value).ownBlock ∧ True ∧ True) (.slice Ao89 xqf_2.length co89) xqf_2) := ⟨h5_⟩
                 have n6_ : Aside0 (Kd.R k64 64 w94 w.heap.size (fun k_ => some k_ ≠ (v197 : Value).ownBlock ∧ True ∧ True) (.slice Ao49 t185.length co49) t185) := ⟨h6_⟩
                 have n7_ : Aside0 (Kd.R (Kd.int .i64) 3 w94 w.heap.size (fun k_ => some k_ ≠ (v201 : Value).ownBlock ∧ True ∧ True) (.slice Ao52 t189.length co52) t189) := ⟨h7_⟩
                 have n8_ : Aside0 (Kd.R k50 50 w94 w.heap.size (fun _ => True) (.slice (some ad195) y181.length co91) y181) := ⟨h8_⟩
                 have n9_ : Aside0 (w94.heap[gb150]? = some (.cells #[.int .i64 a2_0, .int .i64 a2_1] 27 (0, 0))) := ⟨h9_⟩
                 have n10_ : Aside0 (w94.heap[gb165]? = some (.cells #[uqa, .int .i64 xqb_41, uqc] 25 (0, 0))) := ⟨h10_⟩
                 have n11_ : Aside0 (w94.heap[gb166]? = some (.cells #[.slice Ao88 xqd_2.length co88, .int .i64 xqe_2, .slice Ao89 xqf_2.length co89] 25 (0, 0))) := ⟨h11_⟩
                 have n12_ : Aside0 (w94.heap[gb193]? = some (.cells #[.slice Ao49 t185.length co49, .int .i64 t188, .slice Ao52 t189.length co52] 25 (0, 0))) := ⟨h12_⟩
                 have n13_ : Aside0 (w94.heap[gb204]? = some (.cells #[.slice none 0 0, .int .i64 0, .slice none 0 0] 25 (0, 0))) := ⟨h13_⟩
                 have n14_ : Aside0 (w.heap.size ≤ gb204) := ⟨h14_⟩
                 have n15_ : Aside0 (w.heap.size ≤ gb204) := ⟨h15_⟩
                 have n16_ : Aside0 (gb150 ≠ gb204) := ⟨h16_⟩
                 have n17_ : Aside0 (gb204 ≠ gb150) := ⟨h17_⟩
                 have n18_ : Aside0 (gb165 ≠ gb204) := ⟨h18_⟩
                 have n19_ : Aside0 (gb204 ≠ gb165) := ⟨h19_⟩
                 have n20_ : Aside0 (gb166 ≠ gb204) := ⟨h20_⟩
                 have n21_ : Aside0 (gb204 ≠ gb166) := ⟨h21_⟩
                 have n22_ : Aside0 (gb193 ≠ gb204) := ⟨h22_⟩
                 have n23_ : Aside0 (gb204 ≠ gb193) := ⟨h23_⟩
                 have n24_ : Aside0 (Below w.heap.size w w94) := ⟨h24_⟩
                 clear HO_9
                 clear HO_qa
                 clear HO_qc
                 clear HO_qd
                 clear HO_qf
                 clear HO_qg
                 clear HO_qh
                 clear BK150
                 clear BK165
                 clear BK166
                 clear BK193
                 clear HB
                 clear h0_ h1_ h2_ h3_ h4_ h5_ h6_ h7_ h8_ h9_ h10_ h11_ h12_ h13_ h14_ h15_ h16_ h17_ h18_ h19_ h20_ h21_ h22_ h23_ h24_
                 have HO198 := n0_
                 have HO202 := n1_
                 have HO_qa := n2_
                 have HO_qc := n3_
                 have HO_qd := n4_
                 have HO_qf := n5_
                 have HO_qg := n6_
                 have HO_qh := n7_
                 have HO_9 := n8_
                 have BK150 := n9_
                 have BK165 := n10_
                 have BK166 := n11_
                 have BK193 := n12_
                 have BK204 := n13_
                 have GW204 := n14_
                 have GE204 := n15_
                 have NB150_204 := n16_
                 have NB204_150 := n17_
                 have NB165_204 := n18_
                 have NB204_165 := n19_
                 have NB166_204 := n20_
                 have NB204_166 := n21_
                 have NB193_204 := n22_
                 have NB204_193 := n23_
                 have HB := n24_
                 clear n0_ n1_ n2_ n3_ n4_ n5_ n6_ n7_ n8_ n9_ n10_ n11_ n12_ n13_ n14_ n15_ n16_ n17_ n18_ n19_ n20_ n21_ n22_ n23_ n24_
                 have hHeld : w94.cell? ⟨gb166, 0, none⟩ = some (.slice Ao88 xqd_2.length co88) ∧ w94.cell? ⟨gb166, 1, none⟩ = some (.int .i64 xqe_2) ∧ w94.cell? ⟨gb166, 2, none⟩ = some (.slice Ao89 xqf_2.length co89) ∧ w94.cell? (ad195.add ((x10_2).toNat * 3)) = some (.int .i64 ((rd_T50 y181 x10_2).f0.f0)) ∧ w94.cell? ⟨(ad195.add ((x10_2).toNat * 3)).block, (ad195.add ((x10_2).toNat * 3)).off + 1, none⟩ = some (.int .i64 ((rd_T50 y181 x10_2).f0.f1)) ∧ w94.cell? ⟨(ad195.add ((x10_2).toNat * 3)).block, (ad195.add ((x10_2).toNat * 3)).off + 2, none⟩ = some (.int .i64 ((rd_T50 y181 x10_2).f1)) := hS_
                 obtain ⟨Ao95, co95, eo95⟩ := yE HO198.out
                 (first | subst eo95 | (injection eo95 with f1_ f2_ f3_; have f4_ := f1_.symm; have f5_ := f3_.symm; clear f1_ f2_ f3_; subst f4_; subst f5_))
                 obtain ⟨Ao98, co98, eo98⟩ := yE HO202.out
                 (first | subst eo98 | (injection eo98 with f1_ f2_ f3_; have f4_ := f1_.symm; have f5_ := f3_.symm; clear f1_ f2_ f3_; subst f4_; subst f5_))
                 refine norm_ (a' := ?_) ?_ ?_
                 rotate_left
                 ·simp only [putAll, Act.put, zY, zZ, yA]
                  rfl
                 refine one_ (i := 10) (N := none) #[true, true, true, true, true, true, true, true, true, true, true, false] rfl rfl (one_of HT_.out (by kernel_rfl)) (by decide) (fun K hK => ?_)
                 have hs96 : w94.cell? ⟨gb204, 0, none⟩ = some (.slice none 0 0) := (zQ BK204.out 0).trans rfl
                 have hfs96 := zR BK204.out 0
                 have hns96_0 := NB150_204.out
                 have hns96_1 := NB165_204.out
                 have hns96_2 := NB166_204.out
                 have hns96_3 := NB193_204.out
                 have hms96_0 := NB204_150.out
                 have hms96_1 := NB204_165.out
                 have hms96_2 := NB204_166.out
                 have hms96_3 := NB204_193.out
                 have hs97 : w94.cell? ⟨gb204, 1, none⟩ = some (.int .i64 0) := (zQ BK204.out 1).trans rfl
                 have hfs97 := zR BK204.out 1
                 have hns97_0 := NB150_204.out
                 have hns97_1 := NB165_204.out
                 have hns97_2 := NB166_204.out
                 have hns97_3 := NB193_204.out
                 have hms97_0 := NB204_150.out
                 have hms97_1 := NB204_165.out
                 have hms97_2 := NB204_166.out
                 have hms97_3 := NB204_193.out
                 have hs99 : w94.cell? ⟨gb204, 2, none⟩ = some (.slice none 0 0) := (zQ BK204.out 2).trans rfl
                 have hfs99 := zR BK204.out 2
                 have hns99_0 := NB150_204.out
                 have hns99_1 := NB165_204.out
                 have hns99_2 := NB166_204.out
                 have hns99_3 := NB193_204.out
                 have hms99_0 := NB204_150.out
                 have hms99_1 := NB204_165.out
                 have hms99_2 := NB204_166.out
                 have hms99_3 := NB204_193.out
                 refine skip_ (w1 := ?_) (by rfl) rfl ?_ ?_
                 rotate_left
                 ·go_simp
                  rfl
                 refine hK.out _ _ ⟨((cell_far (p := ⟨gb204, _, none⟩) NB166_204.out _).trans (((cell_far (p := ⟨gb204, _, none⟩) NB166_204.out _).trans (((cell_far (p := ⟨gb204, _, none⟩) NB166_204.out _).trans (hHeld.1)))))), ((cell_far (p := ⟨gb204, _, none⟩) NB166_204.out _).trans (((cell_far (p := ⟨gb204, _, none⟩) NB166_204.out _).trans (((cell_far (p := ⟨gb204, _, none⟩) NB166_204.out _).trans (hHeld.2.1)))))), ((cell_far (p := ⟨gb204, _, none⟩) NB166_204.out _).trans (((cell_far (p := ⟨gb204, _, none⟩) NB166_204.out _).trans (((cell_far (p := ⟨gb204, _, none⟩) NB166_204.out _).trans (hHeld.2.2.1)))))), ((cell_far (p := ⟨gb204, _, none⟩) (by first | exact Kd.own_blk (Kd.R_ne HO_9.out BK204.out (by decide)) | (rw [add_block]; exact Kd.own_blk (Kd.R_ne HO_9.out BK204.out (by decide))) | (show (Addr.add _ _).block ≠ _; rw [add_block]; exact Kd.own_blk (Kd.R_ne HO_9.out BK204.out (by decide))) | (dsimp only; exact Kd.own_blk (Kd.R_ne HO_9.out BK204.out (by decide)))) _).trans (((cell_far (p := ⟨gb204, _, none⟩) (by first | exact Kd.own_blk (Kd.R_ne HO_9.out BK204.out (by decide)) | (rw [add_block]; exact Kd.own_blk (Kd.R_ne HO_9.out BK204.out (by decide))) | (show (Addr.add _ _).block ≠ _; rw [add_block]; exact Kd.own_blk (Kd.R_ne HO_9.out BK204.out (by decide))) | (dsimp only; exact Kd.own_blk (Kd.R_ne HO_9.out BK204.out (by decide)))) _).trans (((cell_far (p := ⟨gb204, _, none⟩) (by first | exact Kd.own_blk (Kd.R_ne HO_9.out BK204.out (by decide)) | (rw [add_block]; exact Kd.own_blk (Kd.R_ne HO_9.out BK204.out (by decide))) | (show (Addr.add _ _).block ≠ _; rw [add_block]; exact Kd.own_blk (Kd.R_ne HO_9.out BK204.out (by decide))) | (dsimp only; exact Kd.own_blk (Kd.R_ne HO_9.out BK204.out (by decide)))) _).trans (hHeld.2.2.2.1)))))), ((cell_far (p := ⟨gb204, _, none⟩) (by first | exact Kd.own_blk (Kd.R_ne HO_9.out BK204.out (by decide)) | (rw [add_block]; exact Kd.own_blk (Kd.R_ne HO_9.out BK204.out (by decide))) | (show (Addr.add _ _).block ≠ _; rw [add_block]; exact Kd.own_blk (Kd.R_ne HO_9.out BK204.out (by decide))) | (dsimp only; exact Kd.own_blk (Kd.R_ne HO_9.out BK204.out (by decide)))) _).trans (((cell_far (p := ⟨gb204, _, none⟩) (by first | exact Kd.own_blk (Kd.R_ne HO_9.out BK204.out (by decide)) | (rw [add_block]; exact Kd.own_blk (Kd.R_ne HO_9.out BK204.out (by decide))) | (show (Addr.add _ _).block ≠ _; rw [add_block]; exact Kd.own_blk (Kd.R_ne HO_9.out BK204.out (by decide))) | (dsimp only; exact Kd.own_blk (Kd.R_ne HO_9.out BK204.out (by decide)))) _).trans (((cell_far (p := ⟨gb204, _, none⟩) (by first | exact Kd.own_blk (Kd.R_ne HO_9.out BK204.out (by decide)) | (rw [add_block]; exact Kd.own_blk (Kd.R_ne HO_9.out BK204.out (by decide))) | (show (Addr.add _ _).block ≠ _; rw [add_block]; exact Kd.own_blk (Kd.R_ne HO_9.out BK204.out (by decide))) | (dsimp only; exact Kd.own_blk (Kd.R_ne HO_9.out BK204.out (by decide)))) _).trans (hHeld.2.2.2.2.1)))))), ((cell_far (p := ⟨gb204, _, none⟩) (by first | exact Kd.own_blk (Kd.R_ne HO_9.out BK204.out (by decide)) | (rw [add_block]; exact Kd.own_blk (Kd.R_ne HO_9.out BK204.out (by decide))) | (show (Addr.add _ _).block ≠ _; rw [add_block]; exact Kd.own_blk (Kd.R_ne HO_9.out BK204.out (by decide))) | (dsimp only; exact Kd.own_blk (Kd.R_ne HO_9.out BK204.out (by decide)))) _).trans (((cell_far (p := ⟨gb204, _, none⟩) (by first | exact Kd.own_blk (Kd.R_ne HO_9.out BK204.out (by decide)) | (rw [add_block]; exact Kd.own_blk (Kd.R_ne HO_9.out BK204.out (by decide))) | (show (Addr.add _ _).block ≠ _; rw [add_block]; exact Kd.own_blk (Kd.R_ne HO_9.out BK204.out (by decide))) | (dsimp only; exact Kd.own_blk (Kd.R_ne HO_9.out BK204.out (by decide)))) _).trans (((cell_far (p := ⟨gb204, _, none⟩) (by first | exact Kd.own_blk (Kd.R_ne HO_9.out BK204.out (by decide)) | (rw [add_block]; exact Kd.own_blk (Kd.R_ne HO_9.out BK204.out (by decide))) | (show (Addr.add _ _).block ≠ _; rw [add_block]; exact Kd.own_blk (Kd.R_ne HO_9.out BK204.out (by decide))) | (dsimp only; exact Kd.own_blk (Kd.R_ne HO_9.out BK204.out (by decide)))) _).trans (hHeld.2.2.2.2.2))))))⟩ (fun hHeld => ?_)
                 clear hK K
                 refine pure_ (i := 11) (N := some 14) (v := ?_) (a' := ?_) #[true, true, true, true, true, true, true, true, true, true, true, true] rfl rfl (any_of HT_.out (by kernel_rfl)) (fun _ _ _ h => h) (Or.inl ⟨by rfl, ?_⟩) ?_ ?_
                 rotate_left
                 ·intro w'
                  go_simp
                  with_reducible rfl
                 rotate_left
                 ·simp only [Act.put, zY, zZ, yA, i64_w, i32_w]
                  rfl
                 refine done_ (done_of HT_.out (by kernel_rfl)) ?_
                 try go_wp2_with (first | ((with_reducible refine gate_callee (f := 19) rfl ?_); refine goesL_ (some 76) rfl rfl Try.func19 (by kernel_rfl) rfl #[.int .i64 t203] rfl zt ?_; (with_reducible refine (tollbarlaw0_Num.calls t203 t205 _ A65.out).mono ?_); rintro e w' ⟨rfl, ⟨nd, rfl⟩⟩; refine ⟨_, rfl, ?_⟩))
                 go_roundg kj41
                 case measure => have := HJ3.out; have := HK2.out; have := HJ41.out; omega
                 case rel => exact ⟨(wrap64 (x10_2 + 1)), (xqa_41), (xqb_41), (xqc_41), (xqd_2), (xqe_2), (xqf_2), (uqa), (uqc), (.slice Ao88 xqd_2.length co88), (.slice Ao89 xqf_2.length co89), zz, H', ⟨by have := HJ3.out; have := HK2.out; have := HJ41.out; omega⟩, ⟨by (with_reducible repeat (first | apply zA | apply zB | apply zC)); exact Kd.R_mono (Kd.R_far (p := ⟨gb204, 2, none⟩) (Kd.R_far (p := ⟨gb204, 1, none⟩) (Kd.R_far (p := ⟨gb204, 0, none⟩) (Kd.R_types HO_9.out BK204.out (by decide)) (fun _ hk => hk.2) (.slice Ao95 t196.length co95)) (fun _ hk => hk.2) (.int .i64 t199)) (fun _ hk => hk.2) (.slice Ao98 t200.length co98)) (fun _ _ => by trivial)⟩, ⟨by (with_reducible repeat (first | apply zA | apply zB | apply zC)); exact Kd.R_mono (Kd.R_far (p := ⟨gb204, 2, none⟩) (Kd.R_far (p := ⟨gb204, 1, none⟩) (Kd.R_far (p := ⟨gb204, 0, none⟩) (Kd.R_types HO_qa.out BK204.out (by decide)) (fun _ hk => hk.2) (.slice Ao95 t196.length co95)) (fun _ hk => hk.2) (.int .i64 t199)) (fun _ hk => hk.2) (.slice Ao98 t200.length co98)) (fun _ _ => by trivial)⟩, ⟨by (with_reducible repeat (first | apply zA | apply zB | apply zC)); exact Kd.R_mono (Kd.R_far (p := ⟨gb204, 2, none⟩) (Kd.R_far (p := ⟨gb204, 1, none⟩) (Kd.R_far (p := ⟨gb204, 0, none⟩) (Kd.R_types HO_qc.out BK204.out (by decide)) (fun _ hk => hk.2) (.slice Ao95 t196.length co95)) (fun _ hk => hk.2) (.int .i64 t199)) (fun _ hk => hk.2) (.slice Ao98 t200.length co98)) (fun _ _ => by trivial)⟩, ⟨by (with_reducible repeat (first | apply zA | apply zB | apply zC)); exact Kd.R_mono (Kd.R_far (p := ⟨gb204, 2, none⟩) (Kd.R_far (p := ⟨gb204, 1, none⟩) (Kd.R_far (p := ⟨gb204, 0, none⟩) (Kd.R_types HO_qd.out BK204.out (by decide)) (fun _ hk => hk.2) (.slice Ao95 t196.length co95)) (fun _ hk => hk.2) (.int .i64 t199)) (fun _ hk => hk.2) (.slice Ao98 t200.length co98)) (fun _ _ => by trivial)⟩, ⟨by (with_reducible repeat (first | apply zA | apply zB | apply zC)); exact Kd.R_mono (Kd.R_far (p := ⟨gb204, 2, none⟩) (Kd.R_far (p := ⟨gb204, 1, none⟩) (Kd.R_far (p := ⟨gb204, 0, none⟩) (Kd.R_types HO_qf.out BK204.out (by decide)) (fun _ hk => hk.2) (.slice Ao95 t196.length co95)) (fun _ hk => hk.2) (.int .i64 t199)) (fun _ hk => hk.2) (.slice Ao98 t200.length co98)) (fun _ _ => by trivial)⟩, ⟨by (with_reducible repeat (first | refine zD ?_ _ | refine zE ?_ | refine zF ?_ _)); refine blk_far ?_ NB150_204.out _; (with_reducible repeat (first | refine zD ?_ _ | refine zE ?_ | refine zF ?_ _)); refine blk_far ?_ NB150_204.out _; (with_reducible repeat (first | refine zD ?_ _ | refine zE ?_ | refine zF ?_ _)); refine blk_far ?_ NB150_204.out _; (with_reducible repeat (first | refine zD ?_ _ | refine zE ?_ | refine zF ?_ _)); exact BK150.out⟩, ⟨by (with_reducible repeat (first | refine zD ?_ _ | refine zE ?_ | refine zF ?_ _)); refine blk_far ?_ NB165_204.out _; (with_reducible repeat (first | refine zD ?_ _ | refine zE ?_ | refine zF ?_ _)); refine blk_far ?_ NB165_204.out _; (with_reducible repeat (first | refine zD ?_ _ | refine zE ?_ | refine zF ?_ _)); refine blk_far ?_ NB165_204.out _; (with_reducible repeat (first | refine zD ?_ _ | refine zE ?_ | refine zF ?_ _)); exact BK165.out⟩, ⟨by (with_reducible repeat (first | refine zD ?_ _ | refine zE ?_ | refine zF ?_ _)); refine blk_far ?_ NB166_204.out _; (with_reducible repeat (first | refine zD ?_ _ | refine zE ?_ | refine zF ?_ _)); refine blk_far ?_ NB166_204.out _; (with_reducible repeat (first | refine zD ?_ _ | refine zE ?_ | refine zF ?_ _)); refine blk_far ?_ NB166_204.out _; (with_reducible repeat (first | refine zD ?_ _ | refine zE ?_ | refine zF ?_ _)); exact BK166.out⟩, ⟨by repeat (first | (with_reducible first | exact HB.out | apply zG | apply zH | apply zI | refine zL ?_ GE150.out | refine zL ?_ GE165.out | refine zL ?_ GE166.out | refine zL ?_ GE193.out | refine zL ?_ GE204.out) | exact HB.out)⟩⟩
               ·rw [if_neg c63] at H
                exact absurd H (by simp)
              ·rw [if_neg c62] at H
               exact absurd H (by simp)
           ·rw [if_neg c39] at H
            exact absurd H (by simp)
          ·rw [if_neg c38] at H
           have c38b0 : decide (x10_2 < (l0.length : Int)) = false := decide_eq_false c38
           clear c38
           replace H := yH.mp H
           obtain ⟨⟨t206, t209⟩, A1000, H⟩ := H
           replace H : ((tree_Items.f xqd_2 xqe_2 xqf_2).bind fun bt210 => ((tree_Meets.f xqa_2 xqb_2 xqc_2 a2_0 a2_1).bind fun bt214 => ((tree_Meets.f xqd_2 xqe_2 xqf_2 a2_0 a2_1).bind fun bt218 => ((tollbarlaw17_awake.f).bind fun t222 => (if t222 = true then ((tollbarlaw0_Num.f t209).bind fun t223 => (if t223 = 0 then ((tollbarlaw0_Num.f bt210.2).bind fun t224 => (if t224 = 0 then ((tollbarlaw0_SameItems.f k2 t206 bt210.1).bind fun t225 => (if t225 = true then ((tollbarlaw0_Num.f bt214.2).bind fun t226 => ((tollbarlaw0_Num.f bt218.2).bind fun t227 => (if t226 = t227 then ((tollbarlaw0_SameItems.f k2 bt214.1 bt218.1).bind fun t228 => (some t228)) else (some false)))) else (some false))) else (some false))) else (some false))) else (some false)))))) = some r := H
           have A100 := zK A1000
           clear A1000
           replace H := yH.mp H
           obtain ⟨⟨t210, t213⟩, A1010, H⟩ := H
           replace H : ((tree_Meets.f xqa_2 xqb_2 xqc_2 a2_0 a2_1).bind fun bt214 => ((tree_Meets.f xqd_2 xqe_2 xqf_2 a2_0 a2_1).bind fun bt218 => ((tollbarlaw17_awake.f).bind fun t222 => (if t222 = true then ((tollbarlaw0_Num.f t209).bind fun t223 => (if t223 = 0 then ((tollbarlaw0_Num.f t213).bind fun t224 => (if t224 = 0 then ((tollbarlaw0_SameItems.f k2 t206 t210).bind fun t225 => (if t225 = true then ((tollbarlaw0_Num.f bt214.2).bind fun t226 => ((tollbarlaw0_Num.f bt218.2).bind fun t227 => (if t226 = t227 then ((tollbarlaw0_SameItems.f k2 bt214.1 bt218.1).bind fun t228 => (some t228)) else (some false)))) else (some false))) else (some false))) else (some false))) else (some false))))) = some r := H
           have A101 := zK A1010
           clear A1010
           replace H := yH.mp H
           obtain ⟨⟨t214, t217⟩, A1020, H⟩ := H
           replace H : ((tree_Meets.f xqd_2 xqe_2 xqf_2 a2_0 a2_1).bind fun bt218 => ((tollbarlaw17_awake.f).bind fun t222 => (if t222 = true then ((tollbarlaw0_Num.f t209).bind fun t223 => (if t223 = 0 then ((tollbarlaw0_Num.f t213).bind fun t224 => (if t224 = 0 then ((tollbarlaw0_SameItems.f k2 t206 t210).bind fun t225 => (if t225 = true then ((tollbarlaw0_Num.f t217).bind fun t226 => ((tollbarlaw0_Num.f bt218.2).bind fun t227 => (if t226 = t227 then ((tollbarlaw0_SameItems.f k2 t214 bt218.1).bind fun t228 => (some t228)) else (some false)))) else (some false))) else (some false))) else (some false))) else (some false)))) = some r := H
           have A102 := zK A1020
           clear A1020
           replace H := yH.mp H
           obtain ⟨⟨t218, t221⟩, A1030, H⟩ := H
           replace H : ((tollbarlaw17_awake.f).bind fun t222 => (if t222 = true then ((tollbarlaw0_Num.f t209).bind fun t223 => (if t223 = 0 then ((tollbarlaw0_Num.f t213).bind fun t224 => (if t224 = 0 then ((tollbarlaw0_SameItems.f k2 t206 t210).bind fun t225 => (if t225 = true then ((tollbarlaw0_Num.f t217).bind fun t226 => ((tollbarlaw0_Num.f t221).bind fun t227 => (if t226 = t227 then ((tollbarlaw0_SameItems.f k2 t214 t218).bind fun t228 => (some t228)) else (some false)))) else (some false))) else (some false))) else (some false))) else (some false))) = some r := H
           have A103 := zK A1030
           clear A1030
           replace H := yH.mp H
           obtain ⟨t222, A1040, H⟩ := H
           replace H : (if t222 = true then ((tollbarlaw0_Num.f t209).bind fun t223 => (if t223 = 0 then ((tollbarlaw0_Num.f t213).bind fun t224 => (if t224 = 0 then ((tollbarlaw0_SameItems.f k2 t206 t210).bind fun t225 => (if t225 = true then ((tollbarlaw0_Num.f t217).bind fun t226 => ((tollbarlaw0_Num.f t221).bind fun t227 => (if t226 = t227 then ((tollbarlaw0_SameItems.f k2 t214 t218).bind fun t228 => (some t228)) else (some false)))) else (some false))) else (some false))) else (some false))) else (some false)) = some r := H
           have A104 := zK A1040
           clear A1040
           by_cases c105 : t222 = true
           ·subst c105
            have H1 : ((tollbarlaw0_Num.f t209).bind fun t223 => (if t223 = 0 then ((tollbarlaw0_Num.f t213).bind fun t224 => (if t224 = 0 then ((tollbarlaw0_SameItems.f k2 t206 t210).bind fun t225 => (if t225 = true then ((tollbarlaw0_Num.f t217).bind fun t226 => ((tollbarlaw0_Num.f t221).bind fun t227 => (if t226 = t227 then ((tollbarlaw0_SameItems.f k2 t214 t218).bind fun t228 => (some t228)) else (some false)))) else (some false))) else (some false))) else (some false))) = some r := by rw [if_pos rfl] at H; exact H
            clear H
            have H := H1
            clear H1
            replace H := yH.mp H
            obtain ⟨t223, A1060, H⟩ := H
            replace H : (if t223 = 0 then ((tollbarlaw0_Num.f t213).bind fun t224 => (if t224 = 0 then ((tollbarlaw0_SameItems.f k2 t206 t210).bind fun t225 => (if t225 = true then ((tollbarlaw0_Num.f t217).bind fun t226 => ((tollbarlaw0_Num.f t221).bind fun t227 => (if t226 = t227 then ((tollbarlaw0_SameItems.f k2 t214 t218).bind fun t228 => (some t228)) else (some false)))) else (some false))) else (some false))) else (some false)) = some r := H
            have A106 := zK A1060
            clear A1060
            by_cases c107 : t223 = 0
            ·rw [if_pos c107] at H
             have c107b0 : (t223 == 0) = true := yI.mpr c107
             have c107b1 : (t223 != 0) = false := yJ.mpr c107
             clear c107
             replace H := yH.mp H
             obtain ⟨t224, A1080, H⟩ := H
             replace H : (if t224 = 0 then ((tollbarlaw0_SameItems.f k2 t206 t210).bind fun t225 => (if t225 = true then ((tollbarlaw0_Num.f t217).bind fun t226 => ((tollbarlaw0_Num.f t221).bind fun t227 => (if t226 = t227 then ((tollbarlaw0_SameItems.f k2 t214 t218).bind fun t228 => (some t228)) else (some false)))) else (some false))) else (some false)) = some r := H
             have A108 := zK A1080
             clear A1080
             by_cases c109 : t224 = 0
             ·rw [if_pos c109] at H
              have c109b0 : (t224 == 0) = true := yI.mpr c109
              have c109b1 : (t224 != 0) = false := yJ.mpr c109
              clear c109
              replace H := yH.mp H
              obtain ⟨t225, A1100, H⟩ := H
              replace H : (if t225 = true then ((tollbarlaw0_Num.f t217).bind fun t226 => ((tollbarlaw0_Num.f t221).bind fun t227 => (if t226 = t227 then ((tollbarlaw0_SameItems.f k2 t214 t218).bind fun t228 => (some t228)) else (some false)))) else (some false)) = some r := H
              have A110 := zK A1100
              clear A1100
              by_cases c111 : t225 = true
              ·subst c111
               have H1 : ((tollbarlaw0_Num.f t217).bind fun t226 => ((tollbarlaw0_Num.f t221).bind fun t227 => (if t226 = t227 then ((tollbarlaw0_SameItems.f k2 t214 t218).bind fun t228 => (some t228)) else (some false)))) = some r := by rw [if_pos rfl] at H; exact H
               clear H
               have H := H1
               clear H1
               replace H := yH.mp H
               obtain ⟨t226, A1120, H⟩ := H
               replace H : ((tollbarlaw0_Num.f t221).bind fun t227 => (if t226 = t227 then ((tollbarlaw0_SameItems.f k2 t214 t218).bind fun t228 => (some t228)) else (some false))) = some r := H
               have A112 := zK A1120
               clear A1120
               replace H := yH.mp H
               obtain ⟨t227, A1130, H⟩ := H
               replace H : (if t226 = t227 then ((tollbarlaw0_SameItems.f k2 t214 t218).bind fun t228 => (some t228)) else (some false)) = some r := H
               have A113 := zK A1130
               clear A1130
               by_cases c114 : t226 = t227
               ·rw [if_pos c114] at H
                have c114b0 : (t226 == t227) = true := yI.mpr c114
                have c114b1 : (t226 != t227) = false := yJ.mpr c114
                clear c114
                replace H := yH.mp H
                obtain ⟨t228, A1150, H⟩ := H
                replace H : (some t228) = some r := H
                have A115 := zK A1150
                clear A1150
                obtain rfl := Option.some.inj H
                have hnb116 := NB165_150.out
                have hnc116 := NB150_165.out
                have hnb117 := NB165_166.out
                have hnc117 := NB166_165.out
                have hcz118_0 : wr.cell? ⟨gb165, 0, none⟩ = some (uqa) := (zQ BK165.out 0).trans rfl
                have hcz118_1 : wr.cell? ⟨gb165, 1, none⟩ = some (.int .i64 xqb_2) := (zQ BK165.out 1).trans rfl
                have hcz118_2 : wr.cell? ⟨gb165, 2, none⟩ = some (uqc) := (zQ BK165.out 2).trans rfl
                have hfz118_0 := zR BK165.out 0
                have hfz118_1 := zR BK165.out 1
                have hfz118_2 := zR BK165.out 2
                obtain ⟨Ao119, co119, eo119⟩ := yE HO_qa.out
                subst eo119
                obtain ⟨Ao120, co120, eo120⟩ := yE HO_qc.out
                subst eo120
                go_wp2_with (first | ((with_reducible refine gate_callee (f := 13) rfl ?_); refine goesL_ (some 81) rfl rfl Try.func13 (by kernel_rfl) rfl #[.agg #[.slice Ao119 xqa_2.length co119, .int .i64 xqb_2, .slice Ao120 xqc_2.length co120]] rfl zt ?_; (with_reducible refine (tree_Items.calls _ _ xqa_2 xqb_2 _ _ xqc_2 t206 t209 _ ?side1 ?side2 ?side3 ?side4 A100.out).mono ?_); (case side1 => exact zc (zX HO_qa.out).2.2); (case side2 => exact (zX HO_qa.out).2.1); (case side3 => exact zc (zX HO_qc.out).2.2); (case side4 => exact (zX HO_qc.out).2.1); rintro e w121 ⟨v207, rfl, ho0, hb⟩; refine ⟨_, rfl, ?_⟩; have n0_ := zK (yC (zr HO_9.out) (Kd.R_base ho0) hb); have n1_ := zK (zO (zr HO_qa.out) hb); have n2_ := zK (zO (zr HO_qc.out) hb); have n3_ := zK (zO (zr HO_qd.out) hb); have n4_ := zK (zO (zr HO_qf.out) hb); have n5_ := zK (zV (zW ho0 (yB (zr HO_9.out))) (yG (zl HB.out))); have n6_ := zK (zP (g := gb150) (o := .cells #[.int .i64 a2_0, .int .i64 a2_1] 27 (0, 0)) (zb BK150.out) hb); have n7_ := zK (zP (g := gb165) (o := .cells #[.slice Ao119 xqa_2.length co119, .int .i64 xqb_2, .slice Ao120 xqc_2.length co120] 25 (0, 0)) (zb BK165.out) hb); have n8_ := zK (zP (g := gb166) (o := .cells #[uqd, .int .i64 xqe_2, uqf] 25 (0, 0)) (zb BK166.out) hb); have n9_ := zK (yF (zl HB.out) hb); clear HO_9; clear HO_qa; clear HO_qc; clear HO_qd; clear HO_qf; clear BK150; clear BK165; clear BK166; clear HB; have HO_9 := n0_; have HO_qa := n1_; have HO_qc := n2_; have HO_qd := n3_; have HO_qf := n4_; have HO208 := n5_; have BK150 := n6_; have BK165 := n7_; have BK166 := n8_; have HB := n9_; clear n0_ n1_ n2_ n3_ n4_ n5_ n6_ n7_ n8_ n9_; (try clear hb); (try clear hb2); (try clear hk); (try clear hi); (try clear ho0); have hnb122 := NB166_150.out; have hnc122 := NB150_166.out; have hcz123_0 : w121.cell? ⟨gb166, 0, none⟩ = some (uqd) := (zQ BK166.out 0).trans rfl; have hcz123_1 : w121.cell? ⟨gb166, 1, none⟩ = some (.int .i64 xqe_2) := (zQ BK166.out 1).trans rfl; have hcz123_2 : w121.cell? ⟨gb166, 2, none⟩ = some (uqf) := (zQ BK166.out 2).trans rfl; have hfz123_0 := zR BK166.out 0; have hfz123_1 := zR BK166.out 1; have hfz123_2 := zR BK166.out 2; obtain ⟨Ao124, co124, eo124⟩ := yE HO_qd.out; subst eo124; obtain ⟨Ao125, co125, eo125⟩ := yE HO_qf.out; subst eo125) | ((with_reducible refine gate_callee (f := 13) rfl ?_); refine goesL_ (some 86) rfl rfl Try.func13 (by kernel_rfl) rfl #[.agg #[.slice Ao124 xqd_2.length co124, .int .i64 xqe_2, .slice Ao125 xqf_2.length co125]] rfl zt ?_; (with_reducible refine (tree_Items.calls _ _ xqd_2 xqe_2 _ _ xqf_2 t210 t213 _ ?side1 ?side2 ?side3 ?side4 A101.out).mono ?_); (case side1 => exact zc (zX HO_qd.out).2.2); (case side2 => exact (zX HO_qd.out).2.1); (case side3 => exact zc (zX HO_qf.out).2.2); (case side4 => exact (zX HO_qf.out).2.1); rintro e w126 ⟨v211, rfl, ho0, hb⟩; refine ⟨_, rfl, ?_⟩; have n0_ := zK (yC (zr HO_9.out) (Kd.R_base ho0) hb); have n1_ := zK (zO (zr HO_qa.out) hb); have n2_ := zK (zO (zr HO_qc.out) hb); have n3_ := zK (zO (zr HO_qd.out) hb); have n4_ := zK (zO (zr HO_qf.out) hb); have n5_ := zK (yC (zr HO208.out) (Kd.R_base ho0) hb); have n6_ := zK (zV (zW (zW ho0 (yB (zr HO_9.out))) (yB (zr HO208.out))) (yG (zl HB.out))); have n7_ := zK (zP (g := gb150) (o := .cells #[.int .i64 a2_0, .int .i64 a2_1] 27 (0, 0)) (zb BK150.out) hb); have n8_ := zK (zP (g := gb165) (o := .cells #[.slice Ao119 xqa_2.length co119, .int .i64 xqb_2, .slice Ao120 xqc_2.length co120] 25 (0, 0)) (zb BK165.out) hb); have n9_ := zK (zP (g := gb166) (o := .cells #[.slice Ao124 xqd_2.length co124, .int .i64 xqe_2, .slice Ao125 xqf_2.length co125] 25 (0, 0)) (zb BK166.out) hb); have n10_ := zK (yF (zl HB.out) hb); clear HO_9; clear HO_qa; clear HO_qc; clear HO_qd; clear HO_qf; clear HO208; clear BK150; clear BK165; clear BK166; clear HB; have HO_9 := n0_; have HO_qa := n1_; have HO_qc := n2_; have HO_qd := n3_; have HO_qf := n4_; have HO208 := n5_; have HO212 := n6_; have BK150 := n7_; have BK165 := n8_; have BK166 := n9_; have HB := n10_; clear n0_ n1_ n2_ n3_ n4_ n5_ n6_ n7_ n8_ n9_ n10_; (try clear hb); (try clear hb2); (try clear hk); (try clear hi); (try clear ho0); have hcz127_0 : w126.cell? ⟨gb165, 0, none⟩ = some (.slice Ao119 xqa_2.length co119) := (zQ BK165.out 0).trans rfl; have hcz127_1 : w126.cell? ⟨gb165, 1, none⟩ = some (.int .i64 xqb_2) := (zQ BK165.out 1).trans rfl; have hcz127_2 : w126.cell? ⟨gb165, 2, none⟩ = some (.slice Ao120 xqc_2.length co120) := (zQ BK165.out 2).trans rfl; have hfz127_0 := zR BK165.out 0; have hfz127_1 := zR BK165.out 1; have hfz127_2 := zR BK165.out 2; have hcz128_0 : w126.cell? ⟨gb150, 0, none⟩ = some (.int .i64 a2_0) := (zQ BK150.out 0).trans rfl; have hcz128_1 : w126.cell? ⟨gb150, 1, none⟩ = some (.int .i64 a2_1) := (zQ BK150.out 1).trans rfl; have hfz128_0 := zR BK150.out 0; have hfz128_1 := zR BK150.out 1) | ((with_reducible refine gate_callee (f := 14) rfl ?_); refine goesL_ (some 92) rfl rfl Try.func14 (by kernel_rfl) rfl #[.agg #[.slice Ao119 xqa_2.length co119, .int .i64 xqb_2, .slice Ao120 xqc_2.length co120], .agg #[.int .i64 a2_0, .int .i64 a2_1]] rfl zt ?_; (with_reducible refine (tree_Meets.calls _ _ xqa_2 xqb_2 _ _ xqc_2 a2_0 a2_1 t214 t217 _ ?side1 ?side2 ?side3 ?side4 A102.out).mono ?_); (case side1 => exact zc (zX HO_qa.out).2.2); (case side2 => exact (zX HO_qa.out).2.1); (case side3 => exact zc (zX HO_qc.out).2.2); (case side4 => exact (zX HO_qc.out).2.1); rintro e w129 ⟨v215, rfl, ho0, hb⟩; refine ⟨_, rfl, ?_⟩; have n0_ := zK (yC (zr HO_9.out) (Kd.R_base ho0) hb); have n1_ := zK (zO (zr HO_qa.out) hb); have n2_ := zK (zO (zr HO_qc.out) hb); have n3_ := zK (zO (zr HO_qd.out) hb); have n4_ := zK (zO (zr HO_qf.out) hb); have n5_ := zK (yC (zr HO208.out) (Kd.R_base ho0) hb); have n6_ := zK (yC (zr HO212.out) (Kd.R_base ho0) hb); have n7_ := zK (zV (zW (zW (zW ho0 (yB (zr HO_9.out))) (yB (zr HO208.out))) (yB (zr HO212.out))) (yG (zl HB.out))); have n8_ := zK (zP (g := gb150) (o := .cells #[.int .i64 a2_0, .int .i64 a2_1] 27 (0, 0)) (zb BK150.out) hb); have n9_ := zK (zP (g := gb165) (o := .cells #[.slice Ao119 xqa_2.length co119, .int .i64 xqb_2, .slice Ao120 xqc_2.length co120] 25 (0, 0)) (zb BK165.out) hb); have n10_ := zK (zP (g := gb166) (o := .cells #[.slice Ao124 xqd_2.length co124, .int .i64 xqe_2, .slice Ao125 xqf_2.length co125] 25 (0, 0)) (zb BK166.out) hb); have n11_ := zK (yF (zl HB.out) hb); clear HO_9; clear HO_qa; clear HO_qc; clear HO_qd; clear HO_qf; clear HO208; clear HO212; clear BK150; clear BK165; clear BK166; clear HB; have HO_9 := n0_; have HO_qa := n1_; have HO_qc := n2_; have HO_qd := n3_; have HO_qf := n4_; have HO208 := n5_; have HO212 := n6_; have HO216 := n7_; have BK150 := n8_; have BK165 := n9_; have BK166 := n10_; have HB := n11_; clear n0_ n1_ n2_ n3_ n4_ n5_ n6_ n7_ n8_ n9_ n10_ n11_; (try clear hb); (try clear hb2); (try clear hk); (try clear hi); (try clear ho0); have hcz130_0 : w129.cell? ⟨gb166, 0, none⟩ = some (.slice Ao124 xqd_2.length co124) := (zQ BK166.out 0).trans rfl; have hcz130_1 : w129.cell? ⟨gb166, 1, none⟩ = some (.int .i64 xqe_2) := (zQ BK166.out 1).trans rfl; have hcz130_2 : w129.cell? ⟨gb166, 2, none⟩ = some (.slice Ao125 xqf_2.length co125) := (zQ BK166.out 2).trans rfl; have hfz130_0 := zR BK166.out 0; have hfz130_1 := zR BK166.out 1; have hfz130_2 := zR BK166.out 2; have hcz131_0 : w129.cell? ⟨gb150, 0, none⟩ = some (.int .i64 a2_0) := (zQ BK150.out 0).trans rfl; have hcz131_1 : w129.cell? ⟨gb150, 1, none⟩ = some (.int .i64 a2_1) := (zQ BK150.out 1).trans rfl; have hfz131_0 := zR BK150.out 0; have hfz131_1 := zR BK150.out 1) | ((with_reducible refine gate_callee (f := 14) rfl ?_); refine goesL_ (some 98) rfl rfl Try.func14 (by kernel_rfl) rfl #[.agg #[.slice Ao124 xqd_2.length co124, .int .i64 xqe_2, .slice Ao125 xqf_2.length co125], .agg #[.int .i64 a2_0, .int .i64 a2_1]] rfl zt ?_; (with_reducible refine (tree_Meets.calls _ _ xqd_2 xqe_2 _ _ xqf_2 a2_0 a2_1 t218 t221 _ ?side1 ?side2 ?side3 ?side4 A103.out).mono ?_); (case side1 => exact zc (zX HO_qd.out).2.2); (case side2 => exact (zX HO_qd.out).2.1); (case side3 => exact zc (zX HO_qf.out).2.2); (case side4 => exact (zX HO_qf.out).2.1); rintro e w132 ⟨v219, rfl, ho0, hb⟩; refine ⟨_, rfl, ?_⟩; have n0_ := zK (yC (zr HO_9.out) (Kd.R_base ho0) hb); have n1_ := zK (zO (zr HO_qa.out) hb); have n2_ := zK (zO (zr HO_qc.out) hb); have n3_ := zK (zO (zr HO_qd.out) hb); have n4_ := zK (zO (zr HO_qf.out) hb); have n5_ := zK (yC (zr HO208.out) (Kd.R_base ho0) hb); have n6_ := zK (yC (zr HO212.out) (Kd.R_base ho0) hb); have n7_ := zK (yC (zr HO216.out) (Kd.R_base ho0) hb); have n8_ := zK (zV (zW (zW (zW (zW ho0 (yB (zr HO_9.out))) (yB (zr HO208.out))) (yB (zr HO212.out))) (yB (zr HO216.out))) (yG (zl HB.out))); have n9_ := zK (zP (g := gb150) (o := .cells #[.int .i64 a2_0, .int .i64 a2_1] 27 (0, 0)) (zb BK150.out) hb); have n10_ := zK (zP (g := gb165) (o := .cells #[.slice Ao119 xqa_2.length co119, .int .i64 xqb_2, .slice Ao120 xqc_2.length co120] 25 (0, 0)) (zb BK165.out) hb); have n11_ := zK (zP (g := gb166) (o := .cells #[.slice Ao124 xqd_2.length co124, .int .i64 xqe_2, .slice Ao125 xqf_2.length co125] 25 (0, 0)) (zb BK166.out) hb); have n12_ := zK (yF (zl HB.out) hb); clear HO_9; clear HO_qa; clear HO_qc; clear HO_qd; clear HO_qf; clear HO208; clear HO212; clear HO216; clear BK150; clear BK165; clear BK166; clear HB; have HO_9 := n0_; have HO_qa := n1_; have HO_qc := n2_; have HO_qd := n3_; have HO_qf := n4_; have HO208 := n5_; have HO212 := n6_; have HO216 := n7_; have HO220 := n8_; have BK150 := n9_; have BK165 := n10_; have BK166 := n11_; have HB := n12_; clear n0_ n1_ n2_ n3_ n4_ n5_ n6_ n7_ n8_ n9_ n10_ n11_ n12_; (try clear hb); (try clear hb2); (try clear hk); (try clear hi); (try clear ho0)) | ((with_reducible refine gate_callee (f := 18) rfl ?_); refine goesL_ (some 101) rfl rfl Try.func18 (by kernel_rfl) rfl #[] rfl zt ?_; (with_reducible refine (tollbarlaw17_awake.calls  true _ A104.out).mono ?_); rintro e w133 ⟨rfl, hb⟩; refine ⟨_, rfl, ?_⟩; have n0_ := zK (zO (zr HO_9.out) hb); have n1_ := zK (zO (zr HO_qa.out) hb); have n2_ := zK (zO (zr HO_qc.out) hb); have n3_ := zK (zO (zr HO_qd.out) hb); have n4_ := zK (zO (zr HO_qf.out) hb); have n5_ := zK (zO (zr HO208.out) hb); have n6_ := zK (zO (zr HO212.out) hb); have n7_ := zK (zO (zr HO216.out) hb); have n8_ := zK (zO (zr HO220.out) hb); have n9_ := zK (zP (g := gb150) (o := .cells #[.int .i64 a2_0, .int .i64 a2_1] 27 (0, 0)) (zb BK150.out) hb); have n10_ := zK (zP (g := gb165) (o := .cells #[.slice Ao119 xqa_2.length co119, .int .i64 xqb_2, .slice Ao120 xqc_2.length co120] 25 (0, 0)) (zb BK165.out) hb); have n11_ := zK (zP (g := gb166) (o := .cells #[.slice Ao124 xqd_2.length co124, .int .i64 xqe_2, .slice Ao125 xqf_2.length co125] 25 (0, 0)) (zb BK166.out) hb); have n12_ := zK (yF (zl HB.out) hb); clear HO_9; clear HO_qa; clear HO_qc; clear HO_qd; clear HO_qf; clear HO208; clear HO212; clear HO216; clear HO220; clear BK150; clear BK165; clear BK166; clear HB; have HO_9 := n0_; have HO_qa := n1_; have HO_qc := n2_; have HO_qd := n3_; have HO_qf := n4_; have HO208 := n5_; have HO212 := n6_; have HO216 := n7_; have HO220 := n8_; have BK150 := n9_; have BK165 := n10_; have BK166 := n11_; have HB := n12_; clear n0_ n1_ n2_ n3_ n4_ n5_ n6_ n7_ n8_ n9_ n10_ n11_ n12_; (try clear hb); (try clear hb2); (try clear hk); (try clear hi)) | (go_at_call 19; (with_reducible refine (tollbarlaw0_Num.calls t209 t223 _ A106.out).mono ?_); rintro e w' ⟨rfl, ⟨nd, rfl⟩⟩) | (go_at_call 19; (with_reducible refine (tollbarlaw0_Num.calls t213 t224 _ A108.out).mono ?_); rintro e w' ⟨rfl, ⟨nd, rfl⟩⟩; obtain ⟨Ao134, co134, eo134⟩ := yE HO208.out; subst eo134; obtain ⟨Ao135, co135, eo135⟩ := yE HO212.out; subst eo135) | (go_at_call 20; (with_reducible refine (tollbarlaw0_SameItems.calls k2 _ _ t206 _ _ t210 true _ ?side1 ?side2 ?side3 ?side4 A110.out).mono ?_); (case side1 => exact zc (zX HO208.out).2.2); (case side2 => exact (zX HO208.out).2.1); (case side3 => exact zc (zX HO212.out).2.2); (case side4 => exact (zX HO212.out).2.1); rintro e w' ⟨rfl, ⟨nd, rfl⟩⟩) | (go_at_call 19; (with_reducible refine (tollbarlaw0_Num.calls t217 t226 _ A112.out).mono ?_); rintro e w' ⟨rfl, ⟨nd, rfl⟩⟩) | (go_at_call 19; (with_reducible refine (tollbarlaw0_Num.calls t221 t227 _ A113.out).mono ?_); rintro e w' ⟨rfl, ⟨nd, rfl⟩⟩; obtain ⟨Ao136, co136, eo136⟩ := yE HO216.out; subst eo136; obtain ⟨Ao137, co137, eo137⟩ := yE HO220.out; subst eo137) | (go_at_call 20; (with_reducible refine (tollbarlaw0_SameItems.calls k2 _ _ t214 _ _ t218 t228 _ ?side1 ?side2 ?side3 ?side4 A115.out).mono ?_); (case side1 => exact zc (zX HO216.out).2.2); (case side2 => exact (zX HO216.out).2.1); (case side3 => exact zc (zX HO220.out).2.2); (case side4 => exact (zX HO220.out).2.1); rintro e w' ⟨rfl, ⟨nd, rfl⟩⟩))
                go_ret
                exact ⟨ze, zl HB.out⟩
               ·rw [if_neg c114] at H
                have c114b0 : (t226 == t227) = false := yK.mpr c114
                have c114b1 : (t226 != t227) = true := yL.mpr c114
                exact absurd ((Option.some.inj H).trans hrt_.out) (by decide)
              ·replace c111 := Bool.eq_false_iff.mpr c111
               subst c111
               have H1 : (some false) = some r := by rw [if_neg (show ¬ (false = true) by decide)] at H; exact H
               clear H
               have H := H1
               clear H1
               exact absurd ((Option.some.inj H).trans hrt_.out) (by decide)
             ·rw [if_neg c109] at H
              have c109b0 : (t224 == 0) = false := yK.mpr c109
              have c109b1 : (t224 != 0) = true := yL.mpr c109
              exact absurd ((Option.some.inj H).trans hrt_.out) (by decide)
            ·rw [if_neg c107] at H
             have c107b0 : (t223 == 0) = false := yK.mpr c107
             have c107b1 : (t223 != 0) = true := yL.mpr c107
             exact absurd ((Option.some.inj H).trans hrt_.out) (by decide)
           ·replace c105 := Bool.eq_false_iff.mpr c105
            subst c105
            have H1 : (some false) = some r := by rw [if_neg (show ¬ (false = true) by decide)] at H; exact H
            clear H
            have H := H1
            clear H1
            exact absurd ((Option.some.inj H).trans hrt_.out) (by decide)
       ·rw [if_neg c16] at H
        exact absurd H (by simp)
      ·rw [if_neg c13] at H
       exact absurd H (by simp)
     ·rw [if_neg c12] at H
      exact absurd H (by simp)
    ·rw [if_neg c11] at H
     exact absurd H (by simp)
end Go.Proofs.Ytgkjpffbgnljeaa.QG
/- How the parameters of the law TreeOrders are read. -/
set_option linter.unusedVariables false
namespace Go.Proofs.Ytgkjpffbgnljeaa.OpsTreeOrders
open Go.RowKit Go.Proofs.YtgkjpffbgnljeaaW.PrintWords Go.Proofs.YtgkjpffbgnljeaaW.PrintLast Go.Proofs.YtgkjpffbgnljeaaW.PrintMore Go.Proofs.Ytgkjpffbgnljeaa.Op Go.Proofs.Ytgkjpffbgnljeaa.QG Go.Proofs.Ytgkjpffbgnljeaa.Man Go.Proofs.Ytgkjpffbgnljeaa.QT Go.Proofs.Ytgkjpffbgnljeaa.QA Go.Proofs.Ytgkjpffbgnljeaa.Man
theorem op3 : Opens Try.prog 3 (Kd.int .i64) (fun n => (Lit.int .i64 n).wf = true) (fun _ => 1) := opens_int Try.underlying3
def I27 (s : S27) : Prop := (fun n : Int => (Lit.int .i64 n).wf = true) s.f0 ∧ (fun n : Int => (Lit.int .i64 n).wf = true) s.f1
def B27 (s : S27) : Nat := ((fun _ : Int => 1) s.f0 + ((fun _ : Int => 1) s.f1)) + 1
theorem op27 : Opens Try.prog 27 k27 I27 B27 := opens_struct Try.underlying27 (by kernel_rfl) (fun s : S27 => (s.f0, s.f1)) (fun p => ⟨p.1, p.2⟩) (fun _ => rfl) (opens_cons (by first | rfl | kernel_rfl) (by kernel_rfl) op3 (opens_last (by first | rfl | kernel_rfl) (by kernel_rfl) op3))
def I50 (s : S50) : Prop := I27 s.f0 ∧ (fun n : Int => (Lit.int .i64 n).wf = true) s.f1
def B50 (s : S50) : Nat := (B27 s.f0 + ((fun _ : Int => 1) s.f1)) + 1
theorem op50 : Opens Try.prog 50 k50 I50 B50 := opens_struct Try.underlying50 (by kernel_rfl) (fun s : S50 => (s.f0, s.f1)) (fun p => ⟨p.1, p.2⟩) (fun _ => rfl) (opens_cons (by first | rfl | kernel_rfl) (by kernel_rfl) op27 (opens_last (by first | rfl | kernel_rfl) (by kernel_rfl) op3))
theorem op29 : Opens Try.prog 29 (Kd.slice 50 k50) (fun xs : List S50 => (∀ x ∈ xs, I50 x) ∧ xs.length * 24 ≤ 140737488351232) (fun xs : List S50 => (xs.map B50).sum + 1) := opens_slice Try.underlying29 (m := 24) (by kernel_rfl) op50 (by kernel_rfl)
end Go.Proofs.Ytgkjpffbgnljeaa.OpsTreeOrders
/- tollbarref17.hung: what it answers, plain. -/
set_option linter.unusedVariables false
set_option linter.unusedSimpArgs false
namespace Go.Proofs.Ytgkjpffbgnljeaa.Man
open Go.RowKit Go.Proofs.Ytgkjpffbgnljeaa.QT Go.Proofs.Ytgkjpffbgnljeaa.QA Go.Proofs.Ytgkjpffbgnljeaa.TreeM Go.Proofs.YtgkjpffbgnljeaaW.PrintWords Go.Proofs.YtgkjpffbgnljeaaW.PrintLast Go.Proofs.YtgkjpffbgnljeaaW.PrintMore
theorem Good.len {a : Cells} {nn : Nat} {S : Nat → Bool} {i : Int} {t : T} (h : Good a nn S i t) : (items t).length ≤ nn := by rw [items_places]; exact places_le h.within h.nodup
end Go.Proofs.Ytgkjpffbgnljeaa.Man
/- tollbarref17.There, With, Without, InsertError; SameItems, SameInts, SameTree, CopyTree: what they answer, plain. -/
set_option linter.unusedVariables false
set_option linter.unusedSimpArgs false
namespace Go.Proofs.Ytgkjpffbgnljeaa.Man
open Go.RowKit Go.Proofs.Ytgkjpffbgnljeaa.QT Go.Proofs.Ytgkjpffbgnljeaa.QA Go.Proofs.Ytgkjpffbgnljeaa.TreeM Go.Proofs.YtgkjpffbgnljeaaW.PrintWords Go.Proofs.YtgkjpffbgnljeaaW.PrintLast Go.Proofs.YtgkjpffbgnljeaaW.PrintMore
theorem wrapN (j : Nat) (h : j ≤ 100000000000000) : wrap64 ((j : Int) + 1) = ((j + 1 : Nat) : Int) := by unfold wrap64; omega
theorem sameItems_l0 (xs : List It) (kk : Nat) (hl : xs.length ≤ 100000000000000) : ∀ (n j : Nat), n + j = xs.length → tollbarlaw0_SameItems.l0 (n + 1 + kk) xs xs (j : Int) = some true := by
 intro n
 induction n with
 | zero => intro j hj; rw [show 0 + 1 + kk = kk + 1 by omega, tollbarlaw0_SameItems.l0, if_neg (by omega)]
 | succ n ih =>
  intro j hj
  rw [show n + 1 + 1 + kk = (n + 1 + kk) + 1 by omega, tollbarlaw0_SameItems.l0, if_pos (by omega), if_pos (by omega), if_pos (by omega), if_neg (by simp), wrapN j (by omega), ih (j + 1) (by omega)]
theorem sameItems_f (xs : List It) (k : Nat) (hl : xs.length ≤ 100000000000000) (hk : xs.length + 1 ≤ k) : tollbarlaw0_SameItems.f k xs xs = some true := by
 obtain ⟨kk, rfl⟩ : ∃ kk, k = xs.length + 1 + kk := ⟨k - xs.length - 1, by omega⟩
 unfold tollbarlaw0_SameItems.f
 rw [if_pos rfl]
 exact sameItems_l0 xs kk hl xs.length 0 (by omega)
end Go.Proofs.Ytgkjpffbgnljeaa.Man
/- The law TreeOrders, plain. -/
set_option linter.unusedVariables false
set_option linter.unusedSimpArgs false
namespace Go.Proofs.Ytgkjpffbgnljeaa.Man
open Go.RowKit Go.Proofs.Ytgkjpffbgnljeaa.QT Go.Proofs.Ytgkjpffbgnljeaa.QA Go.Proofs.Ytgkjpffbgnljeaa.TreeM Go.Proofs.YtgkjpffbgnljeaaW.PrintWords Go.Proofs.YtgkjpffbgnljeaaW.PrintLast Go.Proofs.YtgkjpffbgnljeaaW.PrintMore
theorem with_memI {x z : Itm} : ∀ {xs : List Itm}, (z = x ∨ z ∈ xs) → z ∈ withF xs x
  | [], h => by simpa [withF] using h
  | y :: ys, h => by
    unfold withF
    split
    · simpa using h
    · rcases h with h | h
      · exact List.mem_cons_of_mem _ (with_memI (.inl h))
      · rcases List.mem_cons.1 h with h | h
        · rw [h]; exact List.mem_cons_self
        · exact List.mem_cons_of_mem _ (with_memI (.inr h))
theorem row_ext : ∀ {a b : List Itm}, Row a → Row b → (∀ y, y ∈ a ↔ y ∈ b) → a = b
  | [], [], _, _, _ => rfl
  | [], y :: b, _, _, h => absurd ((h y).2 List.mem_cons_self) (by simp)
  | x :: a, [], _, _, h => absurd ((h x).1 List.mem_cons_self) (by simp)
  | x :: a, y :: b, ha, hb, h => by
    obtain ⟨ha1, ha2⟩ := List.pairwise_cons.1 ha
    obtain ⟨hb1, hb2⟩ := List.pairwise_cons.1 hb
    have e : x = y := by
      rcases List.mem_cons.1 ((h x).1 List.mem_cons_self) with e | e
      · exact e
      · rcases List.mem_cons.1 ((h y).2 List.mem_cons_self) with g | g
        · exact g.symm
        · exact absurd (ha1 _ g) (lt_asymm (hb1 _ e))
    subst e
    refine congrArg (List.cons x) (row_ext ha2 hb2 fun z => ?_)
    have hz := h z
    rw [List.mem_cons, List.mem_cons] at hz
    constructor
    · intro g
      rcases hz.1 (.inr g) with e | e
      · exact absurd (e ▸ ha1 _ g) (lt_irrefl x)
      · exact e
    · intro g
      rcases hz.2 (.inr g) with e | e
      · exact absurd (e ▸ hb1 _ g) (lt_irrefl x)
      · exact e
theorem ins_any {ns : List Nd} {root : Int} {fr : List Int} {t : T} (x : Itm) (h : IsT (cellN ns) ns.length root fr t) (hl : (items t).length < 32) :
    ∃ n' r' f' er, insF ns root fr x = ((n', r', f'), er) ∧
      ((er = 0 ∧ ∃ t', IsT (cellN n') n'.length r' f' t' ∧ (items t').length = (items t).length + 1 ∧ ∀ y, y ∈ items t' ↔ y ∈ items t ∨ (y = x ∧ itmayF x = true)) ∨
       (er ≠ 0 ∧ ∀ y, y ∈ items t ↔ y ∈ items t ∨ (y = x ∧ itmayF x = true))) := by
  by_cases hx : itmayF x = true
  · by_cases hin : x ∈ items t
    · refine ⟨[], 0, [], 1701, insF_there h hx hin, .inr ⟨by decide, fun y => ⟨fun g => .inl g, fun g => g.elim id (fun g => g.1 ▸ hin)⟩⟩⟩
    · obtain ⟨n', r', f', e1, e2⟩ := ins_step h hx hin (by omega)
      have e3 := ins_items (x := x) (p := placeOf ns.length fr) h.row
      refine ⟨n', r', f', 0, e1, .inl ⟨rfl, _, e2, by rw [e3, with_length], fun y => ?_⟩⟩
      rw [e3]
      exact ⟨fun g => (with_mem g).elim (fun e => .inr ⟨e, hx⟩) .inl, fun g => with_memI (g.elim .inr (fun g => .inl g.1))⟩
  · refine ⟨[], 0, [], 1700, insF_no (fun g => hx g.2), .inr ⟨by decide, fun y => ⟨fun g => .inl g, fun g => g.elim id (fun g => absurd g.2 hx)⟩⟩⟩
def Holds (t : T) (xs : List It) (j : Nat) : Prop := (items t).length ≤ j ∧ ∀ y, y ∈ items t ↔ itmayF y = true ∧ toI y ∈ xs.take j
theorem Holds.next {t t' : T} {xs : List It} {j : Nat} {x : Itm} (h : Holds t xs j) (hj : j < xs.length) (hx : ofI (rd_T50 xs (j : Int)) = x) (hl : (items t').length ≤ (items t).length + 1) (hm : ∀ y, y ∈ items t' ↔ y ∈ items t ∨ (y = x ∧ itmayF x = true)) : Holds t' xs (j + 1) := by
  refine ⟨by have := h.1; omega, fun y => ?_⟩
  have ej : xs.take (j + 1) = xs.take j ++ [xs[j]] := by rw [List.take_append_getElem hj]
  have ex : toI x = xs[j] := by
    rw [← hx, toI_ofI]
    unfold rd_T50
    rw [Int.toNat_natCast, List.getD, List.getElem?_eq_getElem hj]
    rfl
  rw [hm y, h.2 y, ej, List.mem_append, List.mem_singleton, ← ex]
  constructor
  · rintro (⟨a, b⟩ | ⟨a, b⟩)
    · exact ⟨a, .inl b⟩
    · exact ⟨a ▸ b, .inr (by rw [a])⟩
  · rintro ⟨a, b | b⟩
    · exact .inl ⟨a, b⟩
    · have e : y = x := by have := congrArg ofI b; rwa [ofI_toI, ofI_toI] at this
      exact .inr ⟨e, e ▸ a⟩
theorem meets_any {ns : List Nd} {root : Int} {fr : List Int} {t : T} (s0 s1 : Int) (h : IsT (cellN ns) ns.length root fr t) : tree_Meets.f ns root fr s0 s1 = some (if mayF s0 s1 = true then ((meetsT s0 s1 t).map toI, 0) else ([], 1700)) := by
  by_cases hs : mayF s0 s1 = true
  · rw [meetsf_of h hs, if_pos hs]
  · unfold tree_Meets.f
    rw [if_pos (by have := h.free_le; omega), meetsF_no (fun g => hs g.2), if_neg hs]
theorem orders_end (xs ys : List It) (s0 s1 : Int) (k : Nat) (hx : xs.length ≤ 32) (hk : 2000 ≤ k) {ns1 ns2 : List Nd} {r1 r2 : Int} {f1 f2 : List Int} {t1 t2 : T} (h1 : IsT (cellN ns1) ns1.length r1 f1 t1) (h2 : IsT (cellN ns2) ns2.length r2 f2 t2) (he : items t1 = items t2) :
    QG.tollbarlaw17_TreeOrders.l0 (k + 1) xs ys ((xs.length : Nat) : Int) s0 s1 ns1 r1 f1 ns2 r2 f2 = some true := by
  have hi := h1.items_le
  have hi2 := h2.items_le
  have em : meetsT s0 s1 t1 = meetsT s0 s1 t2 := by unfold meetsT; rw [he]
  have hml : (meetsT s0 s1 t2).length ≤ (items t2).length := List.length_filter_le _ _
  rw [QG.tollbarlaw17_TreeOrders.l0, if_neg (by omega), itemsf_of h1, itemsf_of h2, meets_any s0 s1 h1, meets_any s0 s1 h2, em, he]
  simp only [Option.bind_some, tollbarlaw17_awake.f, tollbarlaw0_Num.f]
  rw [if_pos trivial, if_pos trivial, if_pos trivial, sameItems_f _ _ (by simp; omega) (by simp; omega)]
  simp only [Option.bind_some]
  rw [if_pos trivial, if_pos trivial, sameItems_f _ _ (by split <;> simp <;> omega) (by split <;> simp <;> omega)]
  rfl
theorem orders_l0 (xs ys : List It) (s0 s1 : Int) (hx : xs.length ≤ 32) (hy : ys.length = xs.length) (hm : ∀ y, y ∈ xs ↔ y ∈ ys) : ∀ (n j k : Nat) (ns1 ns2 : List Nd) (r1 r2 : Int) (f1 f2 : List Int) (t1 t2 : T), n + j = xs.length →
    IsT (cellN ns1) ns1.length r1 f1 t1 → IsT (cellN ns2) ns2.length r2 f2 t2 → Holds t1 xs j → Holds t2 ys j → 2 * n + 2001 ≤ k → QG.tollbarlaw17_TreeOrders.l0 k xs ys (j : Int) s0 s1 ns1 r1 f1 ns2 r2 f2 = some true := by
  intro n
  induction n with
  | zero =>
    intro j k ns1 ns2 r1 r2 f1 f2 t1 t2 hj h1 h2 g1 g2 hk
    obtain ⟨k, rfl⟩ : ∃ i, k = i + 1 := ⟨k - 1, by omega⟩
    obtain rfl : j = xs.length := by omega
    refine orders_end xs ys s0 s1 k hx (by omega) h1 h2 (row_ext h1.row h2.row fun y => ?_)
    rw [g1.2 y, g2.2 y, List.take_length, List.take_of_length_le (by omega), hm]
  | succ n ih =>
    intro j k ns1 ns2 r1 r2 f1 f2 t1 t2 hj h1 h2 g1 g2 hk
    obtain ⟨k, rfl⟩ : ∃ i, k = i + 2 := ⟨k - 2, by omega⟩
    have hf1 := h1.free_le
    have hf2 := h2.free_le
    rw [QG.tollbarlaw17_TreeOrders.l0, if_pos (by omega), if_pos (by omega)]
    generalize ex : ofI (rd_T50 xs (j : Int)) = x
    generalize ey : ofI (rd_T50 ys (j : Int)) = y
    obtain ⟨n1, q1, p1, er1, e1, d1⟩ := ins_any x h1 (by have := g1.1; omega)
    have e1' : tree_Insert.f ns1 r1 f1 (rd_T50 xs (j : Int)).f0.f0 (rd_T50 xs (j : Int)).f0.f1 (rd_T50 xs (j : Int)).f1 = some (n1, q1, p1, er1) := by rw [← ex] at e1; exact insf_of hf1 e1
    rw [e1']
    simp only [Option.bind_some, tollbarlaw0_Num.f]
    have step : ∀ (m1 : List Nd) (o1 : Int) (l1 : List Int) (t1' : T), IsT (cellN m1) m1.length o1 l1 t1' → Holds t1' xs (j + 1) → QG.tollbarlaw17_TreeOrders.j2 (k + 1) xs ys (j : Int) s0 s1 m1 o1 l1 ns2 r2 f2 = some true := by
      intro m1 o1 l1 t1' a1 b1
      obtain ⟨n2, q2, p2, er2, e2, d2⟩ := ins_any y h2 (by have := g2.1; omega)
      have e2' : tree_Insert.f ns2 r2 f2 (rd_T50 ys (j : Int)).f0.f0 (rd_T50 ys (j : Int)).f0.f1 (rd_T50 ys (j : Int)).f1 = some (n2, q2, p2, er2) := by rw [← ey] at e2; exact insf_of hf2 e2
      rw [QG.tollbarlaw17_TreeOrders.j2, if_pos (by omega), if_pos (by omega), e2', show wrap64 ((j : Int) + 1) = ((j + 1 : Nat) : Int) from wrapN j (by omega)]
      simp only [Option.bind_some, tollbarlaw0_Num.f]
      rcases d2 with ⟨rfl, t2', i2, l2, m2⟩ | ⟨hne, m2⟩
      · rw [if_pos rfl]
        exact ih (j + 1) k _ _ _ _ _ _ _ _ (by omega) a1 i2 b1 (g2.next (by omega) ey (by omega) m2) (by omega)
      · rw [if_neg hne]
        exact ih (j + 1) k _ _ _ _ _ _ _ _ (by omega) a1 h2 b1 (g2.next (by omega) ey (by omega) m2) (by omega)
    rcases d1 with ⟨rfl, t1', i1, l1, m1⟩ | ⟨hne, m1⟩
    · rw [if_pos rfl]
      exact step _ _ _ _ i1 (g1.next (by omega) ex (by omega) m1)
    · rw [if_neg hne]
      exact step _ _ _ _ h1 (g1.next (by omega) ex (by omega) m1)
theorem treeOrders_f (xs : List It) (a s0 s1 : Int) : ∃ k, QG.tollbarlaw17_TreeOrders.f k xs a s0 s1 = some true := by
  refine ⟨3001, ?_⟩
  unfold QG.tollbarlaw17_TreeOrders.f
  by_cases h1 : a < 0
  · rw [if_pos h1, QG.tollbarlaw17_TreeOrders.j0, if_pos rfl]
  · rw [if_neg h1]
    by_cases h2 : a > (xs.length : Int)
    · rw [if_pos h2, QG.tollbarlaw17_TreeOrders.j0, if_pos rfl]
    · rw [if_neg h2]
      by_cases h3 : (xs.length : Int) > 32
      · rw [decide_eq_true h3, QG.tollbarlaw17_TreeOrders.j0, if_pos rfl]
      · rw [decide_eq_false h3, QG.tollbarlaw17_TreeOrders.j0, if_neg (by decide)]
        unfold tree_New.f
        simp only [Option.bind_some]
        have e1 : ([] : List It).length + (xs.drop a.toNat).length < 5864062014805 := by rw [List.length_drop, List.length_nil]; omega
        have e2 : (([] : List It) ++ xs.drop a.toNat).length + (xs.take a.toNat).length < 5864062014805 := by rw [List.length_append, List.length_drop, List.length_take, List.length_nil]; omega
        rw [if_pos (by omega), if_pos (by omega), if_pos e1, if_pos e2]
        refine orders_l0 xs _ s0 s1 (by omega) ?_ (fun y => ?_) xs.length 0 3000 [] [] (-1) (-1) [] [] .nil .nil (by omega) isT_new isT_new ⟨by simp [items], fun y => by simp [items]⟩ ⟨by simp [items], fun y => by simp [items]⟩ (by omega)
        · rw [List.length_append, List.length_append, List.length_drop, List.length_take, List.length_nil]; omega
        · rw [List.nil_append, List.mem_append, or_comm, ← List.mem_append, List.take_append_drop]
end Go.Proofs.Ytgkjpffbgnljeaa.Man
/- The plain law TreeOrders, as its row asks for it. -/
set_option linter.unusedVariables false
namespace Go.Proofs.Ytgkjpffbgnljeaa.Pure
open Go.RowKit Go.Proofs.Ytgkjpffbgnljeaa.QT Go.Proofs.Ytgkjpffbgnljeaa.QG Go.Proofs.Ytgkjpffbgnljeaa.Man Go.Proofs.Ytgkjpffbgnljeaa.OpsTreeOrders
theorem TreeOrders (x0 : (List S50)) (h0 : (fun xs : List S50 => (∀ x ∈ xs, I50 x) ∧ xs.length * 24 ≤ 140737488351232) x0) (x1 : Int) (h1 : (fun n : Int => (Lit.int .i64 n).wf = true) x1) (x2 : S27) (h2 : I27 x2) : ∃ k, tollbarlaw17_TreeOrders.f k x0 x1 x2.f0 x2.f1 = some true :=
 treeOrders_f x0 x1 x2.f0 x2.f1
end Go.Proofs.Ytgkjpffbgnljeaa.Pure
