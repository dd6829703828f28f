/- Texts of this claim laid together: QA11, QL1, QL2, StrT, OpsLTreeInserts, TreePa, TreePb, TreePc, TreePs, TreePd, PureTi. -/
import Derived.Test.YtgkjpffbgnljeaaCax
import Derived.Test.YtgkjpffbgnljeaaCay
import Derived.Test.YtgkjpffbgnljeaaCaw
import Derived.Test.YtgkjpffbgnljeaaCbd
import Derived.Test.YtgkjpffbgnljeaaCav
import Derived.Test.YtgkjpffbgnljeaaCba
import Derived.Test.YtgkjpffbgnljeaaDTreeInsertsa
import Derived.Below
import Derived.Deep.Draws
import Derived.Deep.AppendLies
import Derived.Maps.AppendAt
import Derived.OwnWalk
import Derived.Laws.BytesArg
import Derived.Laws.MakeOwn
import Derived.Laws.OwnMore
import Derived.Deep.OwnRows
import Derived.Tactics
import Derived.Lib.ConvBytes
import Derived.Laws.Slices
import Derived.WalkKit
import Derived.KernelRfl
import Derived.RowKit3
import Derived.Deep.LoopGhost
import Derived.Deep.QuietTactic
import Derived.BigQuiet
import Derived.WideLaws
import Derived.Deep.DeepCutAuto
import Derived.Deep.CutBlock
import Derived.Deep.RegionHeld3
import Derived.Laws.Rows
import Derived.Lib.AppendStr
import Derived.ArgAppend
import Derived.Laws.IdiomCopy
import Derived.OrdersHeld
import Derived.Laws.BitsLemmas
import Derived.RowKit
-- written by this session's program mprint.py: functions of the Go program, and their contracts
namespace Go.Proofs.Ytgkjpffbgnljeaa.QA
open Go.RowKit Go.Proofs.Ytgkjpffbgnljeaa.Au Go.Proofs.Ytgkjpffbgnljeaa.QT  Go.Proofs.YtgkjpffbgnljeaaW.PrintWords Go.Proofs.YtgkjpffbgnljeaaW.PrintLast Go.Proofs.YtgkjpffbgnljeaaW.PrintMore
attribute [local go_sem] max2_int min2_int max_two min_two max_three min_three max_four min_four
set_option linter.unusedVariables false
set_option linter.unusedSimpArgs false
def tollbarref17_With.l0 : Nat → List (S50) → List (S50) → Bool → Int → Int → Int → Int → Option ((List (S50)))
 | 0, _, _, _, _, _, _, _ => none
 | k + 1, x0, x5, x6, x7, xqa, xqb, xqc => if x7 < (x0.length : Int) then (if x6 = true then (if 0 ≤ x7 then (if x5.length < 5864062014805 then (tollbarref17_With.l0 k x0 (x5 ++ [(⟨(⟨(rd_T50 x0 x7).f0.f0, (rd_T50 x0 x7).f0.f1⟩ : S27), (rd_T50 x0 x7).f1⟩ : S50)]) x6 (wrap64 (x7 + 1)) xqa xqb xqc) else (none)) else (none)) else (if 0 ≤ x7 then ((tollbarref17_Less.f xqa xqb xqc ((rd_T50 x0 x7).f0.f0) ((rd_T50 x0 x7).f0.f1) ((rd_T50 x0 x7).f1)).bind fun t283 => (if t283 = true then (if x5.length < 5864062014805 then ((some (x5 ++ [(⟨(⟨xqa, xqb⟩ : S27), xqc⟩ : S50)] : List (S50))).bind fun y284 => (if y284.length < 5864062014805 then (tollbarref17_With.l0 k x0 (y284 ++ [(⟨(⟨(rd_T50 x0 x7).f0.f0, (rd_T50 x0 x7).f0.f1⟩ : S27), (rd_T50 x0 x7).f1⟩ : S50)]) true (wrap64 (x7 + 1)) xqa xqb xqc) else (none))) else (none)) else (if x5.length < 5864062014805 then (tollbarref17_With.l0 k x0 (x5 ++ [(⟨(⟨(rd_T50 x0 x7).f0.f0, (rd_T50 x0 x7).f0.f1⟩ : S27), (rd_T50 x0 x7).f1⟩ : S50)]) x6 (wrap64 (x7 + 1)) xqa xqb xqc) else (none)))) else (none))) else (if x6 = true then (some x5) else (if x5.length < 5864062014805 then (some (x5 ++ [(⟨(⟨xqa, xqb⟩ : S27), xqc⟩ : S50)])) else (none)))
def tollbarref17_With.f (k : Nat) (l0 : List (S50)) (a1_0 : Int) (a1_1 : Int) (a1_2 : Int) : Option ((List (S50))) := tollbarref17_With.l0 k l0 ([] : List (S50)) false 0 a1_0 a1_1 a1_2
def tollbarref17_With.T6 : Bool × List (List Nat × List Nat) := (true, [([], []), ([0], [0]), ([1], [1]), ([2], [2]), ([2], [2]), ([2], [2]), ([4, 5, 2], [2, 4, 5]), ([6, 2], [2, 6]), ([3, 7, 2, 2], [2, 3, 7]), ([2, 8], [2, 8])])
def tollbarref17_With.B6 : List Nat := [0, 1, 3, 7, 7, 7, 55, 119, 255, 511]
theorem tollbarref17_With.tab6 : rtab .any (opsOf Try.f28 6) = tollbarref17_With.T6 := by kernel_rfl
theorem tollbarref17_With.bits6 : waitsOk tollbarref17_With.T6.2 tollbarref17_With.B6 = true := by kernel_rfl
set_option maxHeartbeats 8000000 in
set_option maxRecDepth 100000 in
theorem tollbarref17_With.calls (k : Nat) (A0 : Option Addr) (c0 : Nat) (l0 : List (S50)) (a1_0 : Int) (a1_1 : Int) (a1_2 : Int) (r : List (S50)) (w : World) (hr0 : Kd.C k50 w A0 l0.length l0) (hc0 : l0.length ≤ c0) (h : tollbarref17_With.f k l0 a1_0 a1_1 a1_2 = some r) :
  Calls Try.prog 28 #[.slice A0 l0.length c0, .agg #[.int .i64 a1_0, .int .i64 a1_1, .int .i64 a1_2]] w fun e w' => ∃ v0_ : Value, e = .returned (v0_) ∧ Kd.R k50 50 w' w.heap.size (fun _ => True) v0_ r ∧ Below w.heap.size w w' := by
 have hu50 := Try.underlying50
 have HR0 := zK hr0
 have HC0 := zK hc0
 clear hr0 hc0
 have HB := zK (Below.refl w.heap.size w)
 have H : (tollbarref17_With.l0 k l0 ([] : List (S50)) false 0 a1_0 a1_1 a1_2) = some r := h
 clear h
 have H' := zK H
 clear H
 go_enter Try.func28, Try.ntmps28
 go_wp2_with (first | ((with_reducible refine gate_dst (N := 3) rfl ?_); refine box_event ?hg (N := 3) ?hd (cs := #[.int .i64 a1_0, .int .i64 a1_1, .int .i64 a1_2]) (t := 50) ?hr ?_; (case hd => rfl); (case hg => rfl); (case hr => first | (go_simp; done) | (go_simp; rfl)); intro gb277 hg w3 hbox hb; have n0_ := zK (yF (zl HB.out) hb); have n1_ := zK (hbox); have n2_ := zK ((by rw [hg]; exact (yG (zl HB.out)) : w.heap.size ≤ gb277)); have n3_ := zK ((by rw [hg]; exact (yG (zl HB.out)) : w.heap.size ≤ gb277)); clear HB; have HB := n0_; have BK277 := n1_; have GW277 := n2_; have GE277 := n3_; clear n0_ n1_ n2_ n3_; clear hb hbox hg))
 go_loopg [5, 6, 7] k (fun kq v5 v6 v7 w' => ∃ (x5_1 : List (S50)) (x6_1 : Bool) (x7_1 : Int), v6 = .bool x6_1 ∧ v7 = .int .i64 x7_1 ∧ Aside0 (tollbarref17_With.l0 kq l0 x5_1 x6_1 x7_1 a1_0 a1_1 a1_2 = some r) ∧ Aside0 (kq ≤ k) ∧ Aside0 (Kd.R k50 50 w' w.heap.size (fun k_ => k_ ≠ gb277) v5 x5_1) ∧ Aside0 (w'.heap[gb277]? = some (.cells #[.int .i64 a1_0, .int .i64 a1_1, .int .i64 a1_2] 50 (0, 0))) ∧ Aside0 (Below w.heap.size w w'))
 case atStart => exact ⟨(([] : List (S50))), (false), (0), zz, zz, H', ⟨Nat.le_refl _⟩, ⟨by first | exact Kd.R_nil _ _ _ _ _ | exact Kd.N_nil _ _ _ _ _ | exact Kd.V_nil _ _ _ _ _ | exact Kd.Q_nil _ _ _ _ _ | exact Kd.S_nil _ _ _ _ _⟩, ⟨by (with_reducible repeat (first | refine zD ?_ _ | refine zE ?_ | refine zF ?_ _)); exact BK277.out⟩, ⟨by repeat (first | (with_reducible first | exact HB.out | apply zG | apply zH | apply zI | refine zL ?_ GE277.out) | exact HB.out)⟩⟩
 case round =>
  clear H'
  try clear c2
  try clear p2
  obtain ⟨x5_1, x6_1, x7_1, rfl, rfl, HA, HK1, HO_5, BK277, HB⟩ := hrel
  cases gk with
  | zero => exact absurd HA.out (by simp [tollbarref17_With.l0])
  | succ k1 =>
   have H := HA.out
   clear HA
   simp only [tollbarref17_With.l0] at H
   by_cases c4 : x7_1 < (l0.length : Int)
   ·rw [if_pos c4] at H
    have c4b0 : decide (x7_1 < (l0.length : Int)) = true := decide_eq_true c4
    clear c4
    by_cases c5 : x6_1 = true
    ·subst c5
     have H1 : (if 0 ≤ x7_1 then (if x5_1.length < 5864062014805 then (tollbarref17_With.l0 k1 l0 (x5_1 ++ [(⟨(⟨(rd_T50 l0 x7_1).f0.f0, (rd_T50 l0 x7_1).f0.f1⟩ : S27), (rd_T50 l0 x7_1).f1⟩ : S50)]) true (wrap64 (x7_1 + 1)) a1_0 a1_1 a1_2) else (none)) else (none)) = some r := by rw [if_pos rfl] at H; exact H
     clear H
     have H := H1
     clear H1
     by_cases c6 : 0 ≤ x7_1
     ·rw [if_pos c6] at H
      have c6b0 : decide (0 ≤ x7_1) = true := decide_eq_true c6
      clear c6
      by_cases c7 : x5_1.length < 5864062014805
      ·rw [if_pos c7] at H
       have LMc7 := zK c7
       clear c7
       obtain ⟨y279, hy279⟩ : ∃ y_ : List (S50), y_ = (x5_1 ++ [(⟨(⟨(rd_T50 l0 x7_1).f0.f0, (rd_T50 l0 x7_1).f0.f1⟩ : S27), (rd_T50 l0 x7_1).f1⟩ : S50)]) := ⟨_, rfl⟩
       replace H : (tollbarref17_With.l0 k1 l0 y279 true (wrap64 (x7_1 + 1)) a1_0 a1_1 a1_2) = some r := by first | (rw [hy279]; with_reducible exact H) | (have H2_ := (Option.bind_some _ _).symm.trans H; rw [hy279]; with_reducible exact H2_) | (have H2_ := (Option.bind_some _ _).symm.trans H; with_reducible exact H2_) | with_reducible exact H | (rw [hy279]; exact H) | exact H
       have Ny279 := zK hy279
       clear hy279
       have H' := zK H
       clear H
       try go_wp2
       have n0_ := zK (zC HO_5.out)
       have n1_ := zK (zE BK277.out)
       have n2_ := zK (zI HB.out)
       clear HO_5
       clear BK277
       clear HB
       have HO_5 := n0_
       have BK277 := n1_
       have HB := n2_
       clear n0_ n1_ n2_
       refine start_ (n := 10) (S := fun w' => True) (ds := []) #[false, false, false, false, false, false, false, false, false, false] (by kernel_rfl) rfl rfl trivial (fun hHeld => ?_); refine with_tabW tollbarref17_With.tab6 tollbarref17_With.bits6 (fun HT_ HW_ => ?_)
       generalize wr.drew = w8 at HO_5 BK277 HB hHeld ⊢
       refine pure_ (i := 0) (N := some 14) (v := ?_) (a' := ?_) #[true, false, false, false, false, false, false, false, false, false] rfl rfl (any_of HT_.out (by kernel_rfl)) (fun _ _ _ h => h) (Or.inl ⟨by rfl, ?_⟩) ?_ ?_
       rotate_left
       ·intro w'
        go_simp
        with_reducible rfl
       rotate_left
       ·simp only [Act.put, zY, zZ, yA, i64_w, i32_w]
        rfl
       refine pure_ (i := 1) (N := some 15) (v := ?_) (a' := ?_) #[true, true, false, false, false, false, false, false, false, false] rfl rfl (any_of HT_.out (by kernel_rfl)) (fun _ _ _ h => h) (Or.inl ⟨by rfl, ?_⟩) ?_ ?_
       rotate_left
       ·intro w'
        go_simp
        with_reducible rfl
       rotate_left
       ·simp only [Act.put, zY, zZ, yA, i64_w, i32_w]
        rfl
       refine pure_ (i := 2) (N := some 16) (v := ?_) (a' := ?_) #[true, true, true, false, false, false, false, false, false, false] rfl rfl (any_of HT_.out (by kernel_rfl)) (fun _ _ _ h => h) (Or.inl ⟨by rfl, ?_⟩) ?_ ?_
       rotate_left
       ·intro w'
        go_simp
        with_reducible rfl
       rotate_left
       ·simp only [Act.put, zY, zZ, yA, i64_w, i32_w]
        rfl
       refine pure_ (i := 3) (N := some 17) (v := undef) (a' := ?_) #[true, true, true, true, false, false, false, false, false, false] rfl rfl (any_of HT_.out (by kernel_rfl)) (fun _ _ _ h => h) (Or.inr ⟨by rfl, rfl⟩) ?_ ?_
       rotate_left
       ·simp only [Act.put, zY, zZ, yA, i64_w, i32_w]
        rfl
       refine pure_ (i := 4) (N := some 18) (v := undef) (a' := ?_) #[true, true, true, true, true, false, false, false, false, false] rfl rfl (any_of HT_.out (by kernel_rfl)) (fun _ _ _ h => h) (Or.inr ⟨by rfl, rfl⟩) ?_ ?_
       rotate_left
       ·simp only [Act.put, zY, zZ, yA, i64_w, i32_w]
        rfl
       refine pure_ (i := 5) (N := some 19) (v := undef) (a' := ?_) #[true, true, true, true, true, true, false, false, false, false] rfl rfl (any_of HT_.out (by kernel_rfl)) (fun _ _ _ h => h) (Or.inr ⟨by rfl, rfl⟩) ?_ ?_
       rotate_left
       ·simp only [Act.put, zY, zZ, yA, i64_w, i32_w]
        rfl
       refine pure_ (i := 6) (N := some 20) (v := undef) (a' := ?_) #[true, true, true, true, true, true, true, false, false, false] rfl rfl (any_of HT_.out (by kernel_rfl)) (fun _ _ _ h => h) (Or.inr ⟨by rfl, rfl⟩) ?_ ?_
       rotate_left
       ·simp only [Act.put, zY, zZ, yA, i64_w, i32_w]
        rfl
       refine pure_ (i := 7) (N := some 21) (v := undef) (a' := ?_) #[true, true, true, true, true, true, true, true, false, false] rfl rfl (any_of HT_.out (by kernel_rfl)) (fun _ _ _ h => h) (Or.inr ⟨by rfl, rfl⟩) ?_ ?_
       rotate_left
       ·simp only [Act.put, zY, zZ, yA, i64_w, i32_w]
        rfl
       refine pure_ (i := 8) (N := some 22) (v := undef) (a' := ?_) #[true, true, true, true, true, true, true, true, true, false] rfl rfl (any_of HT_.out (by kernel_rfl)) (fun _ _ _ h => h) (Or.inr ⟨by rfl, rfl⟩) ?_ ?_
       rotate_left
       ·simp only [Act.put, zY, zZ, yA, i64_w, i32_w]
        rfl
       refine pure_ (i := 9) (N := some 23) (v := ?_) (a' := ?_) #[true, true, true, true, true, true, true, true, true, true] rfl rfl (any_of HT_.out (by kernel_rfl)) (fun _ _ _ h => h) (Or.inl ⟨by rfl, ?_⟩) ?_ ?_
       rotate_left
       ·intro w'
        go_simp
        with_reducible rfl
       rotate_left
       ·simp only [Act.put, zY, zZ, yA, i64_w, i32_w]
        rfl
       refine done_ (done_of HT_.out (by kernel_rfl)) ?_
       have p278 : 0 ≤ (x7_1 : Int) := of_decide_eq_true (by first | (with_reducible assumption) | assumption)
       have q278 : x7_1 < (l0.length : Int) := of_decide_eq_true (by first | (with_reducible assumption) | assumption)
       obtain ⟨ad278, e278, hx278_0, hx278_1, hx278_2⟩ := at_T50 HR0.out x7_1 p278 q278
       cases e278
       replace hx278_0 := (HB.out.cell (zJ w _ hx278_0)).trans hx278_0
       replace hx278_1 := (HB.out.cell (zJ w _ hx278_1)).trans hx278_1
       replace hx278_2 := (HB.out.cell (zJ w _ hx278_2)).trans hx278_2
       replace p278 := eq_true p278
       replace q278 := eq_true q278
       try go_wp2_with (first | ((with_reducible refine gate_builtin (b := .append) (xs := #[.tmp 28, .tmp 33]) rfl ?_); at_builtin; refine Kd.R_append k50 (w0 := w) w.heap.size rfl (.tmp 28) (.tmp 33) 29 50 (.agg #[(.int .i64 0), (.int .i64 0), (.int .i64 0)]) 24 rfl Try.underlying29 info50 rfl (by decide) (by omega) u5 x5_1 (⟨(⟨(rd_T50 l0 x7_1).f0.f0, (rd_T50 l0 x7_1).f0.f1⟩ : S27), (rd_T50 l0 x7_1).f1⟩ : S50) [.int .i64 ((rd_T50 l0 x7_1).f0.f0), .int .i64 ((rd_T50 l0 x7_1).f0.f1), .int .i64 ((rd_T50 l0 x7_1).f1)] (fun k_ => k_ ≠ gb277) (fun _ => False) rfl rfl ?aP (fun _ hk => hk.elim) ?aF ?aO ?aB ?aS ?aL ?_; (case aP => exact k50_mkM _ _ _ (⟨(⟨(rd_T50 l0 x7_1).f0.f0, (rd_T50 l0 x7_1).f0.f1⟩ : S27), (rd_T50 l0 x7_1).f1⟩ : S50)); (case aB => exact (zl HB.out)); (case aF => exact (fun k_ hk => Kd.freshB (g := gb277) (o := .cells #[.int .i64 a1_0, .int .i64 a1_1, .int .i64 a1_2] 50 (0, 0)) (zb BK277.out) k_ hk)); (case aO => exact (zr HO_5.out)); (case aS => exact (yG (zl HB.out))); (case aL => have := LMc7.out; omega); intro v280 w9 ho hb hg hat; rw [← Ny279.out] at ho; have n0_ := zK (blk_grown (g := gb277) (o := .cells #[.int .i64 a1_0, .int .i64 a1_1, .int .i64 a1_2] 50 (0, 0)) (zb BK277.out) hg (Kd.R_away HO_5.out (fun _ hk => hk))); have n1_ := zK (hb); have n2_ := zK (ho); clear BK277; clear HB; clear HO_5; have BK277 := n0_; have HB := n1_; have HO281 := n2_; clear n0_ n1_ n2_; clear ho hb hg hat))
       go_roundg k1
       case measure => have := HK1.out; omega
       case rel => exact ⟨(y279), (true), (wrap64 (x7_1 + 1)), zz, zz, H', ⟨by have := HK1.out; omega⟩, ⟨by (with_reducible repeat (first | apply zA | apply zB | apply zC)); exact HO281.out⟩, ⟨by (with_reducible repeat (first | refine zD ?_ _ | refine zE ?_ | refine zF ?_ _)); exact BK277.out⟩, ⟨by repeat (first | (with_reducible first | exact HB.out | apply zG | apply zH | apply zI | refine zL ?_ GE277.out) | exact HB.out)⟩⟩
      ·rw [if_neg c7] at H
       exact absurd H (by simp)
     ·rw [if_neg c6] at H
      exact absurd H (by simp)
    ·replace c5 := Bool.eq_false_iff.mpr c5
     subst c5
     have H1 : (if 0 ≤ x7_1 then ((tollbarref17_Less.f a1_0 a1_1 a1_2 ((rd_T50 l0 x7_1).f0.f0) ((rd_T50 l0 x7_1).f0.f1) ((rd_T50 l0 x7_1).f1)).bind fun t283 => (if t283 = true then (if x5_1.length < 5864062014805 then ((some (x5_1 ++ [(⟨(⟨a1_0, a1_1⟩ : S27), a1_2⟩ : S50)] : List (S50))).bind fun y284 => (if y284.length < 5864062014805 then (tollbarref17_With.l0 k1 l0 (y284 ++ [(⟨(⟨(rd_T50 l0 x7_1).f0.f0, (rd_T50 l0 x7_1).f0.f1⟩ : S27), (rd_T50 l0 x7_1).f1⟩ : S50)]) true (wrap64 (x7_1 + 1)) a1_0 a1_1 a1_2) else (none))) else (none)) else (if x5_1.length < 5864062014805 then (tollbarref17_With.l0 k1 l0 (x5_1 ++ [(⟨(⟨(rd_T50 l0 x7_1).f0.f0, (rd_T50 l0 x7_1).f0.f1⟩ : S27), (rd_T50 l0 x7_1).f1⟩ : S50)]) false (wrap64 (x7_1 + 1)) a1_0 a1_1 a1_2) else (none)))) else (none)) = some r := by rw [if_neg (show ¬ (false = true) by decide)] at H; exact H
     clear H
     have H := H1
     clear H1
     by_cases c10 : 0 ≤ x7_1
     ·rw [if_pos c10] at H
      have c10b0 : decide (0 ≤ x7_1) = true := decide_eq_true c10
      clear c10
      replace H := yH.mp H
      obtain ⟨t283, A110, H⟩ := H
      replace H : (if t283 = true then (if x5_1.length < 5864062014805 then ((some (x5_1 ++ [(⟨(⟨a1_0, a1_1⟩ : S27), a1_2⟩ : S50)] : List (S50))).bind fun y284 => (if y284.length < 5864062014805 then (tollbarref17_With.l0 k1 l0 (y284 ++ [(⟨(⟨(rd_T50 l0 x7_1).f0.f0, (rd_T50 l0 x7_1).f0.f1⟩ : S27), (rd_T50 l0 x7_1).f1⟩ : S50)]) true (wrap64 (x7_1 + 1)) a1_0 a1_1 a1_2) else (none))) else (none)) else (if x5_1.length < 5864062014805 then (tollbarref17_With.l0 k1 l0 (x5_1 ++ [(⟨(⟨(rd_T50 l0 x7_1).f0.f0, (rd_T50 l0 x7_1).f0.f1⟩ : S27), (rd_T50 l0 x7_1).f1⟩ : S50)]) false (wrap64 (x7_1 + 1)) a1_0 a1_1 a1_2) else (none))) = some r := H
      have A11 := zK A110
      clear A110
      by_cases c12 : t283 = true
      ·subst c12
       have H1 : (if x5_1.length < 5864062014805 then ((some (x5_1 ++ [(⟨(⟨a1_0, a1_1⟩ : S27), a1_2⟩ : S50)] : List (S50))).bind fun y284 => (if y284.length < 5864062014805 then (tollbarref17_With.l0 k1 l0 (y284 ++ [(⟨(⟨(rd_T50 l0 x7_1).f0.f0, (rd_T50 l0 x7_1).f0.f1⟩ : S27), (rd_T50 l0 x7_1).f1⟩ : S50)]) true (wrap64 (x7_1 + 1)) a1_0 a1_1 a1_2) else (none))) else (none)) = some r := by rw [if_pos rfl] at H; exact H
       clear H
       have H := H1
       clear H1
       by_cases c13 : x5_1.length < 5864062014805
       ·rw [if_pos c13] at H
        have LMc13 := zK c13
        clear c13
        obtain ⟨y284, hy284⟩ : ∃ y_ : List (S50), y_ = (x5_1 ++ [(⟨(⟨a1_0, a1_1⟩ : S27), a1_2⟩ : S50)]) := ⟨_, rfl⟩
        replace H : (if y284.length < 5864062014805 then (tollbarref17_With.l0 k1 l0 (y284 ++ [(⟨(⟨(rd_T50 l0 x7_1).f0.f0, (rd_T50 l0 x7_1).f0.f1⟩ : S27), (rd_T50 l0 x7_1).f1⟩ : S50)]) true (wrap64 (x7_1 + 1)) a1_0 a1_1 a1_2) else (none)) = some r := by first | (rw [hy284]; with_reducible exact H) | (have H2_ := (Option.bind_some _ _).symm.trans H; rw [hy284]; with_reducible exact H2_) | (have H2_ := (Option.bind_some _ _).symm.trans H; with_reducible exact H2_) | with_reducible exact H | (rw [hy284]; exact H) | exact H
        have Ny284 := zK hy284
        clear hy284
        by_cases c14 : y284.length < 5864062014805
        ·rw [if_pos c14] at H
         have LMc14 := zK c14
         clear c14
         obtain ⟨y288, hy288⟩ : ∃ y_ : List (S50), y_ = (y284 ++ [(⟨(⟨(rd_T50 l0 x7_1).f0.f0, (rd_T50 l0 x7_1).f0.f1⟩ : S27), (rd_T50 l0 x7_1).f1⟩ : S50)]) := ⟨_, rfl⟩
         replace H : (tollbarref17_With.l0 k1 l0 y288 true (wrap64 (x7_1 + 1)) a1_0 a1_1 a1_2) = some r := by first | (rw [hy288]; with_reducible exact H) | (have H2_ := (Option.bind_some _ _).symm.trans H; rw [hy288]; with_reducible exact H2_) | (have H2_ := (Option.bind_some _ _).symm.trans H; with_reducible exact H2_) | with_reducible exact H | (rw [hy288]; exact H) | exact H
         have Ny288 := zK hy288
         clear hy288
         have H' := zK H
         clear H
         try go_wp2
         have n0_ := zK (zC HO_5.out)
         have n1_ := zK (zE BK277.out)
         have n2_ := zK (zI HB.out)
         clear HO_5
         clear BK277
         clear HB
         have HO_5 := n0_
         have BK277 := n1_
         have HB := n2_
         clear n0_ n1_ n2_
         have p282 : 0 ≤ (x7_1 : Int) := of_decide_eq_true (by first | (with_reducible assumption) | assumption)
         have q282 : x7_1 < (l0.length : Int) := of_decide_eq_true (by first | (with_reducible assumption) | assumption)
         obtain ⟨ad282, e282, hx282_0, hx282_1, hx282_2⟩ := at_T50 HR0.out x7_1 p282 q282
         have hw282_2 := hx282_2
         have hw282_1 := hx282_1
         have hw282_0 := hx282_0
         cases e282
         replace hx282_0 := (HB.out.cell (zJ w _ hx282_0)).trans hx282_0
         replace hx282_1 := (HB.out.cell (zJ w _ hx282_1)).trans hx282_1
         replace hx282_2 := (HB.out.cell (zJ w _ hx282_2)).trans hx282_2
         replace p282 := eq_true p282
         replace q282 := eq_true q282
         refine start_ (n := 10) (S := fun w' => w'.cell? ⟨gb277, 0, none⟩ = some (.int .i64 a1_0) ∧ w'.cell? ⟨gb277, 1, none⟩ = some (.int .i64 a1_1) ∧ w'.cell? ⟨gb277, 2, none⟩ = some (.int .i64 a1_2) ∧ w'.cell? (ad282.add ((x7_1).toNat * 3)) = some (.int .i64 ((rd_T50 l0 x7_1).f0.f0)) ∧ w'.cell? ⟨(ad282.add ((x7_1).toNat * 3)).block, (ad282.add ((x7_1).toNat * 3)).off + 1, none⟩ = some (.int .i64 ((rd_T50 l0 x7_1).f0.f1)) ∧ w'.cell? ⟨(ad282.add ((x7_1).toNat * 3)).block, (ad282.add ((x7_1).toNat * 3)).off + 2, none⟩ = some (.int .i64 ((rd_T50 l0 x7_1).f1))) (ds := []) #[false, false, false, false, false, false, false, false, false, false] (by kernel_rfl) rfl rfl ⟨(zQ BK277.out 0).trans rfl, (zQ BK277.out 1).trans rfl, (zQ BK277.out 2).trans rfl, ((HB.out.cell (zJ w _ hw282_0)).trans hw282_0), ((HB.out.cell (zJ w _ hw282_1)).trans hw282_1), ((HB.out.cell (zJ w _ hw282_2)).trans hw282_2)⟩ (fun hHeld => ?_); refine with_tabW tollbarref17_With.tab6 tollbarref17_With.bits6 (fun HT_ HW_ => ?_)
         generalize wr.drew = w15 at HO_5 BK277 HB hx282_0 hx282_1 hx282_2 hHeld ⊢
         refine pure_ (i := 0) (N := some 14) (v := ?_) (a' := ?_) #[true, false, false, false, false, false, false, false, false, false] rfl rfl (any_of HT_.out (by kernel_rfl)) (fun _ _ _ h => h) (Or.inl ⟨by rfl, ?_⟩) ?_ ?_
         rotate_left
         ·intro w'
          go_simp
          with_reducible rfl
         rotate_left
         ·simp only [Act.put, zY, zZ, yA, i64_w, i32_w]
          rfl
         refine pure_ (i := 1) (N := some 15) (v := ?_) (a' := ?_) #[true, true, false, false, false, false, false, false, false, false] rfl rfl (any_of HT_.out (by kernel_rfl)) (fun _ _ _ h => h) (Or.inl ⟨by rfl, ?_⟩) ?_ ?_
         rotate_left
         ·intro w'
          go_simp
          with_reducible rfl
         rotate_left
         ·simp only [Act.put, zY, zZ, yA, i64_w, i32_w]
          rfl
         refine pure_ (i := 2) (N := some 16) (v := ?_) (a' := ?_) #[true, true, true, false, false, false, false, false, false, false] rfl rfl (any_of HT_.out (by kernel_rfl)) (fun _ _ _ h => h) (Or.inl ⟨by rfl, ?_⟩) ?_ ?_
         rotate_left
         ·intro w'
          go_simp
          with_reducible rfl
         rotate_left
         ·simp only [Act.put, zY, zZ, yA, i64_w, i32_w]
          rfl
         refine pure_ (i := 4) (N := some 18) (v := ?_) (a' := ?_) #[true, true, true, false, true, false, false, false, false, false] rfl rfl (any_of HT_.out (by kernel_rfl)) (fun _ _ _ h => h) (Or.inl ⟨by rfl, ?_⟩) ?_ ?_
         rotate_left
         ·intro w'
          go_simp
          with_reducible rfl
         rotate_left
         ·simp only [Act.put, zY, zZ, yA, i64_w, i32_w]
          rfl
         refine pure_ (i := 5) (N := some 19) (v := ?_) (a' := ?_) #[true, true, true, false, true, true, false, false, false, false] rfl rfl (any_of HT_.out (by kernel_rfl)) (fun _ _ _ h => h) (Or.inl ⟨by rfl, ?_⟩) ?_ ?_
         rotate_left
         ·intro w'
          go_simp
          with_reducible rfl
         rotate_left
         ·simp only [Act.put, zY, zZ, yA, i64_w, i32_w]
          rfl
         refine pure_ (i := 6) (N := some 20) (v := ?_) (a' := ?_) #[true, true, true, false, true, true, true, false, false, false] rfl rfl (any_of HT_.out (by kernel_rfl)) (fun _ _ _ h => h) (Or.inl ⟨by rfl, ?_⟩) ?_ ?_
         rotate_left
         ·intro w'
          go_simp
          with_reducible rfl
         rotate_left
         ·simp only [Act.put, zY, zZ, yA, i64_w, i32_w]
          rfl
         refine take_ (i := 3) (N := some 17) (v := ?_) (a' := ?_) #[true, true, true, true, true, true, true, false, false, false] rfl rfl (take_ofW HT_.out HW_.out (by kernel_rfl)) (fun _ _ _ h => h) (Or.inl ⟨by rfl, ?_⟩) hHeld ?_ ?_
         rotate_left
         ·rintro w' ⟨s0, s1, s2, s3, s4, s5⟩
          go_simp
          with_reducible rfl
         rotate_left
         ·simp only [Act.put, zY, zZ, yA, i64_w, i32_w]
          rfl
         refine take_ (i := 7) (N := some 21) (v := ?_) (a' := ?_) #[true, true, true, true, true, true, true, true, false, false] rfl rfl (take_ofW HT_.out HW_.out (by kernel_rfl)) (fun _ _ _ h => h) (Or.inl ⟨by rfl, ?_⟩) hHeld ?_ ?_
         rotate_left
         ·rintro w' ⟨s0, s1, s2, s3, s4, s5⟩
          go_simp
          with_reducible rfl
         rotate_left
         ·simp only [Act.put, zY, zZ, yA, i64_w, i32_w]
          rfl
         refine one_ (i := 8) (N := some 22) #[true, true, true, true, true, true, true, true, true, false] rfl rfl (one_of HT_.out (by kernel_rfl)) (by decide) (fun K hK => ?_)
         refine goes_ Try.func44 (by kernel_rfl) rfl #[.agg #[.int .i64 a1_0, .int .i64 a1_1, .int .i64 a1_2], .agg #[.int .i64 ((rd_T50 l0 x7_1).f0.f0), .int .i64 ((rd_T50 l0 x7_1).f0.f1), .int .i64 ((rd_T50 l0 x7_1).f1)]] (by rfl) rfl rfl zt ?_
         with_reducible refine (tollbarref17_Less.calls a1_0 a1_1 a1_2 ((rd_T50 l0 x7_1).f0.f0) ((rd_T50 l0 x7_1).f0.f1) ((rd_T50 l0 x7_1).f1) true _ A11.out).mono ?_
         rintro e w16 ⟨rfl, hb⟩
         refine ⟨_, rfl, ?_⟩
         have n0_ := zK (zO (zr HO_5.out) hb)
         have n1_ := zK (zP (g := gb277) (o := .cells #[.int .i64 a1_0, .int .i64 a1_1, .int .i64 a1_2] 50 (0, 0)) (zb BK277.out) hb)
         have n2_ := zK (yF (zl HB.out) hb)
         clear HO_5
         clear BK277
         clear HB
         have HO_5 := n0_
         have BK277 := n1_
         have HB := n2_
         clear n0_ n1_ n2_
         (try clear hb)
         (try clear hb2)
         (try clear hk)
         (try clear hi)
         refine hK.out _ _ ⟨(zQ BK277.out 0).trans rfl, (zQ BK277.out 1).trans rfl, (zQ BK277.out 2).trans rfl, ((HB.out.cell (zJ w _ hw282_0)).trans hw282_0), ((HB.out.cell (zJ w _ hw282_1)).trans hw282_1), ((HB.out.cell (zJ w _ hw282_2)).trans hw282_2)⟩ (fun hHeld => ?_)
         clear hK K
         refine norm_ (a' := ?_) ?_ ?_
         rotate_left
         ·show Act.put _ (some 22) _ = _
          simp only [Act.put, zY, zZ, yA, i64_w, i32_w]
          rfl
         refine pure_ (i := 9) (N := some 23) (v := ?_) (a' := ?_) #[true, true, true, true, true, true, true, true, true, true] rfl rfl (any_of HT_.out (by kernel_rfl)) (fun _ _ _ h => h) (Or.inl ⟨by rfl, ?_⟩) ?_ ?_
         rotate_left
         ·intro w'
          go_simp
          with_reducible rfl
         rotate_left
         ·simp only [Act.put, zY, zZ, yA, i64_w, i32_w]
          rfl
         refine done_ (done_of HT_.out (by kernel_rfl)) ?_
         have hcz17_0 : w16.cell? ⟨gb277, 0, none⟩ = some (.int .i64 a1_0) := (zQ BK277.out 0).trans rfl
         have hcz17_1 : w16.cell? ⟨gb277, 1, none⟩ = some (.int .i64 a1_1) := (zQ BK277.out 1).trans rfl
         have hcz17_2 : w16.cell? ⟨gb277, 2, none⟩ = some (.int .i64 a1_2) := (zQ BK277.out 2).trans rfl
         have hfz17_0 := zR BK277.out 0
         have hfz17_1 := zR BK277.out 1
         have hfz17_2 := zR BK277.out 2
         try go_wp2_with (first | ((with_reducible refine gate_builtin (b := .append) (xs := #[.tmp 24, .tmp 26]) rfl ?_); at_builtin; refine Kd.R_append k50 (w0 := w) w.heap.size rfl (.tmp 24) (.tmp 26) 29 50 (.agg #[(.int .i64 0), (.int .i64 0), (.int .i64 0)]) 24 rfl Try.underlying29 info50 rfl (by decide) (by omega) u5 x5_1 (⟨(⟨a1_0, a1_1⟩ : S27), a1_2⟩ : S50) [.int .i64 a1_0, .int .i64 a1_1, .int .i64 a1_2] (fun k_ => k_ ≠ gb277) (fun _ => False) rfl rfl ?aP (fun _ hk => hk.elim) ?aF ?aO ?aB ?aS ?aL ?_; (case aP => exact k50_mkM _ _ _ (⟨(⟨a1_0, a1_1⟩ : S27), a1_2⟩ : S50)); (case aB => exact (zl HB.out)); (case aF => exact (fun k_ hk => Kd.freshB (g := gb277) (o := .cells #[.int .i64 a1_0, .int .i64 a1_1, .int .i64 a1_2] 50 (0, 0)) (zb BK277.out) k_ hk)); (case aO => exact (zr HO_5.out)); (case aS => exact (yG (zl HB.out))); (case aL => have := LMc13.out; omega); intro v285 w18 ho hb hg hat; rw [← Ny284.out] at ho; have n0_ := zK (blk_grown (g := gb277) (o := .cells #[.int .i64 a1_0, .int .i64 a1_1, .int .i64 a1_2] 50 (0, 0)) (zb BK277.out) hg (Kd.R_away HO_5.out (fun _ hk => hk))); have n1_ := zK (hb); have n2_ := zK (ho); clear BK277; clear HB; clear HO_5; have BK277 := n0_; have HB := n1_; have HO286 := n2_; clear n0_ n1_ n2_; clear ho hb hg hat; have p287 : 0 ≤ (x7_1 : Int) := of_decide_eq_true (by first | (with_reducible assumption) | assumption); have q287 : x7_1 < (l0.length : Int) := of_decide_eq_true (by first | (with_reducible assumption) | assumption); obtain ⟨ad287, e287, hx287_0, hx287_1, hx287_2⟩ := at_T50 HR0.out x7_1 p287 q287; obtain rfl : ad282 = ad287 := (by injection e287); replace hx287_0 := (HB.out.cell (zJ w _ hx287_0)).trans hx287_0; replace hx287_1 := (HB.out.cell (zJ w _ hx287_1)).trans hx287_1; replace hx287_2 := (HB.out.cell (zJ w _ hx287_2)).trans hx287_2; replace p287 := eq_true p287; replace q287 := eq_true q287) | ((with_reducible refine gate_builtin (b := .append) (xs := #[.tmp 28, .tmp 33]) rfl ?_); at_builtin; refine Kd.R_append k50 (w0 := w) w.heap.size rfl (.tmp 28) (.tmp 33) 29 50 (.agg #[(.int .i64 0), (.int .i64 0), (.int .i64 0)]) 24 rfl Try.underlying29 info50 rfl (by decide) (by omega) v285 y284 (⟨(⟨(rd_T50 l0 x7_1).f0.f0, (rd_T50 l0 x7_1).f0.f1⟩ : S27), (rd_T50 l0 x7_1).f1⟩ : S50) [.int .i64 ((rd_T50 l0 x7_1).f0.f0), .int .i64 ((rd_T50 l0 x7_1).f0.f1), .int .i64 ((rd_T50 l0 x7_1).f1)] (fun k_ => k_ ≠ gb277) (fun _ => False) rfl rfl ?aP (fun _ hk => hk.elim) ?aF ?aO ?aB ?aS ?aL ?_; (case aP => exact k50_mkM _ _ _ (⟨(⟨(rd_T50 l0 x7_1).f0.f0, (rd_T50 l0 x7_1).f0.f1⟩ : S27), (rd_T50 l0 x7_1).f1⟩ : S50)); (case aB => exact (zl HB.out)); (case aF => exact (fun k_ hk => Kd.freshB (g := gb277) (o := .cells #[.int .i64 a1_0, .int .i64 a1_1, .int .i64 a1_2] 50 (0, 0)) (zb BK277.out) k_ hk)); (case aO => exact (zr HO286.out)); (case aS => exact (yG (zl HB.out))); (case aL => have := LMc14.out; omega); intro v289 w19 ho hb hg hat; rw [← Ny288.out] at ho; have n0_ := zK (blk_grown (g := gb277) (o := .cells #[.int .i64 a1_0, .int .i64 a1_1, .int .i64 a1_2] 50 (0, 0)) (zb BK277.out) hg (Kd.R_away HO286.out (fun _ hk => hk))); have n1_ := zK (hb); have n2_ := zK (ho); clear BK277; clear HB; clear HO286; have BK277 := n0_; have HB := n1_; have HO290 := n2_; clear n0_ n1_ n2_; clear ho hb hg hat))
         go_roundg k1
         case measure => have := HK1.out; omega
         case rel => exact ⟨(y288), (true), (wrap64 (x7_1 + 1)), zz, zz, H', ⟨by have := HK1.out; omega⟩, ⟨by (with_reducible repeat (first | apply zA | apply zB | apply zC)); exact HO290.out⟩, ⟨by (with_reducible repeat (first | refine zD ?_ _ | refine zE ?_ | refine zF ?_ _)); exact BK277.out⟩, ⟨by repeat (first | (with_reducible first | exact HB.out | apply zG | apply zH | apply zI | refine zL ?_ GE277.out) | exact HB.out)⟩⟩
        ·rw [if_neg c14] at H
         exact absurd H (by simp)
       ·rw [if_neg c13] at H
        exact absurd H (by simp)
      ·replace c12 := Bool.eq_false_iff.mpr c12
       subst c12
       have H1 : (if x5_1.length < 5864062014805 then (tollbarref17_With.l0 k1 l0 (x5_1 ++ [(⟨(⟨(rd_T50 l0 x7_1).f0.f0, (rd_T50 l0 x7_1).f0.f1⟩ : S27), (rd_T50 l0 x7_1).f1⟩ : S50)]) false (wrap64 (x7_1 + 1)) a1_0 a1_1 a1_2) else (none)) = some r := by rw [if_neg (show ¬ (false = true) by decide)] at H; exact H
       clear H
       have H := H1
       clear H1
       by_cases c20 : x5_1.length < 5864062014805
       ·rw [if_pos c20] at H
        have LMc20 := zK c20
        clear c20
        obtain ⟨y292, hy292⟩ : ∃ y_ : List (S50), y_ = (x5_1 ++ [(⟨(⟨(rd_T50 l0 x7_1).f0.f0, (rd_T50 l0 x7_1).f0.f1⟩ : S27), (rd_T50 l0 x7_1).f1⟩ : S50)]) := ⟨_, rfl⟩
        replace H : (tollbarref17_With.l0 k1 l0 y292 false (wrap64 (x7_1 + 1)) a1_0 a1_1 a1_2) = some r := by first | (rw [hy292]; with_reducible exact H) | (have H2_ := (Option.bind_some _ _).symm.trans H; rw [hy292]; with_reducible exact H2_) | (have H2_ := (Option.bind_some _ _).symm.trans H; with_reducible exact H2_) | with_reducible exact H | (rw [hy292]; exact H) | exact H
        have Ny292 := zK hy292
        clear hy292
        have H' := zK H
        clear H
        try go_wp2
        have n0_ := zK (zC HO_5.out)
        have n1_ := zK (zE BK277.out)
        have n2_ := zK (zI HB.out)
        clear HO_5
        clear BK277
        clear HB
        have HO_5 := n0_
        have BK277 := n1_
        have HB := n2_
        clear n0_ n1_ n2_
        have p282 : 0 ≤ (x7_1 : Int) := of_decide_eq_true (by first | (with_reducible assumption) | assumption)
        have q282 : x7_1 < (l0.length : Int) := of_decide_eq_true (by first | (with_reducible assumption) | assumption)
        obtain ⟨ad282, e282, hx282_0, hx282_1, hx282_2⟩ := at_T50 HR0.out x7_1 p282 q282
        have hw282_2 := hx282_2
        have hw282_1 := hx282_1
        have hw282_0 := hx282_0
        cases e282
        replace hx282_0 := (HB.out.cell (zJ w _ hx282_0)).trans hx282_0
        replace hx282_1 := (HB.out.cell (zJ w _ hx282_1)).trans hx282_1
        replace hx282_2 := (HB.out.cell (zJ w _ hx282_2)).trans hx282_2
        replace p282 := eq_true p282
        replace q282 := eq_true q282
        refine start_ (n := 10) (S := fun w' => w'.cell? ⟨gb277, 0, none⟩ = some (.int .i64 a1_0) ∧ w'.cell? ⟨gb277, 1, none⟩ = some (.int .i64 a1_1) ∧ w'.cell? ⟨gb277, 2, none⟩ = some (.int .i64 a1_2) ∧ w'.cell? (ad282.add ((x7_1).toNat * 3)) = some (.int .i64 ((rd_T50 l0 x7_1).f0.f0)) ∧ w'.cell? ⟨(ad282.add ((x7_1).toNat * 3)).block, (ad282.add ((x7_1).toNat * 3)).off + 1, none⟩ = some (.int .i64 ((rd_T50 l0 x7_1).f0.f1)) ∧ w'.cell? ⟨(ad282.add ((x7_1).toNat * 3)).block, (ad282.add ((x7_1).toNat * 3)).off + 2, none⟩ = some (.int .i64 ((rd_T50 l0 x7_1).f1))) (ds := []) #[false, false, false, false, false, false, false, false, false, false] (by kernel_rfl) rfl rfl ⟨(zQ BK277.out 0).trans rfl, (zQ BK277.out 1).trans rfl, (zQ BK277.out 2).trans rfl, ((HB.out.cell (zJ w _ hw282_0)).trans hw282_0), ((HB.out.cell (zJ w _ hw282_1)).trans hw282_1), ((HB.out.cell (zJ w _ hw282_2)).trans hw282_2)⟩ (fun hHeld => ?_); refine with_tabW tollbarref17_With.tab6 tollbarref17_With.bits6 (fun HT_ HW_ => ?_)
        generalize wr.drew = w21 at HO_5 BK277 HB hx282_0 hx282_1 hx282_2 hHeld ⊢
        refine pure_ (i := 0) (N := some 14) (v := ?_) (a' := ?_) #[true, false, false, false, false, false, false, false, false, false] rfl rfl (any_of HT_.out (by kernel_rfl)) (fun _ _ _ h => h) (Or.inl ⟨by rfl, ?_⟩) ?_ ?_
        rotate_left
        ·intro w'
         go_simp
         with_reducible rfl
        rotate_left
        ·simp only [Act.put, zY, zZ, yA, i64_w, i32_w]
         rfl
        refine pure_ (i := 1) (N := some 15) (v := ?_) (a' := ?_) #[true, true, false, false, false, false, false, false, false, false] rfl rfl (any_of HT_.out (by kernel_rfl)) (fun _ _ _ h => h) (Or.inl ⟨by rfl, ?_⟩) ?_ ?_
        rotate_left
        ·intro w'
         go_simp
         with_reducible rfl
        rotate_left
        ·simp only [Act.put, zY, zZ, yA, i64_w, i32_w]
         rfl
        refine pure_ (i := 2) (N := some 16) (v := ?_) (a' := ?_) #[true, true, true, false, false, false, false, false, false, false] rfl rfl (any_of HT_.out (by kernel_rfl)) (fun _ _ _ h => h) (Or.inl ⟨by rfl, ?_⟩) ?_ ?_
        rotate_left
        ·intro w'
         go_simp
         with_reducible rfl
        rotate_left
        ·simp only [Act.put, zY, zZ, yA, i64_w, i32_w]
         rfl
        refine pure_ (i := 4) (N := some 18) (v := ?_) (a' := ?_) #[true, true, true, false, true, false, false, false, false, false] rfl rfl (any_of HT_.out (by kernel_rfl)) (fun _ _ _ h => h) (Or.inl ⟨by rfl, ?_⟩) ?_ ?_
        rotate_left
        ·intro w'
         go_simp
         with_reducible rfl
        rotate_left
        ·simp only [Act.put, zY, zZ, yA, i64_w, i32_w]
         rfl
        refine pure_ (i := 5) (N := some 19) (v := ?_) (a' := ?_) #[true, true, true, false, true, true, false, false, false, false] rfl rfl (any_of HT_.out (by kernel_rfl)) (fun _ _ _ h => h) (Or.inl ⟨by rfl, ?_⟩) ?_ ?_
        rotate_left
        ·intro w'
         go_simp
         with_reducible rfl
        rotate_left
        ·simp only [Act.put, zY, zZ, yA, i64_w, i32_w]
         rfl
        refine pure_ (i := 6) (N := some 20) (v := ?_) (a' := ?_) #[true, true, true, false, true, true, true, false, false, false] rfl rfl (any_of HT_.out (by kernel_rfl)) (fun _ _ _ h => h) (Or.inl ⟨by rfl, ?_⟩) ?_ ?_
        rotate_left
        ·intro w'
         go_simp
         with_reducible rfl
        rotate_left
        ·simp only [Act.put, zY, zZ, yA, i64_w, i32_w]
         rfl
        refine take_ (i := 3) (N := some 17) (v := ?_) (a' := ?_) #[true, true, true, true, true, true, true, false, false, false] rfl rfl (take_ofW HT_.out HW_.out (by kernel_rfl)) (fun _ _ _ h => h) (Or.inl ⟨by rfl, ?_⟩) hHeld ?_ ?_
        rotate_left
        ·rintro w' ⟨s0, s1, s2, s3, s4, s5⟩
         go_simp
         with_reducible rfl
        rotate_left
        ·simp only [Act.put, zY, zZ, yA, i64_w, i32_w]
         rfl
        refine take_ (i := 7) (N := some 21) (v := ?_) (a' := ?_) #[true, true, true, true, true, true, true, true, false, false] rfl rfl (take_ofW HT_.out HW_.out (by kernel_rfl)) (fun _ _ _ h => h) (Or.inl ⟨by rfl, ?_⟩) hHeld ?_ ?_
        rotate_left
        ·rintro w' ⟨s0, s1, s2, s3, s4, s5⟩
         go_simp
         with_reducible rfl
        rotate_left
        ·simp only [Act.put, zY, zZ, yA, i64_w, i32_w]
         rfl
        refine one_ (i := 8) (N := some 22) #[true, true, true, true, true, true, true, true, true, false] rfl rfl (one_of HT_.out (by kernel_rfl)) (by decide) (fun K hK => ?_)
        refine goes_ Try.func44 (by kernel_rfl) rfl #[.agg #[.int .i64 a1_0, .int .i64 a1_1, .int .i64 a1_2], .agg #[.int .i64 ((rd_T50 l0 x7_1).f0.f0), .int .i64 ((rd_T50 l0 x7_1).f0.f1), .int .i64 ((rd_T50 l0 x7_1).f1)]] (by rfl) rfl rfl zt ?_
        with_reducible refine (tollbarref17_Less.calls a1_0 a1_1 a1_2 ((rd_T50 l0 x7_1).f0.f0) ((rd_T50 l0 x7_1).f0.f1) ((rd_T50 l0 x7_1).f1) false _ A11.out).mono ?_
        rintro e w22 ⟨rfl, hb⟩
        refine ⟨_, rfl, ?_⟩
        have n0_ := zK (zO (zr HO_5.out) hb)
        have n1_ := zK (zP (g := gb277) (o := .cells #[.int .i64 a1_0, .int .i64 a1_1, .int .i64 a1_2] 50 (0, 0)) (zb BK277.out) hb)
        have n2_ := zK (yF (zl HB.out) hb)
        clear HO_5
        clear BK277
        clear HB
        have HO_5 := n0_
        have BK277 := n1_
        have HB := n2_
        clear n0_ n1_ n2_
        (try clear hb)
        (try clear hb2)
        (try clear hk)
        (try clear hi)
        refine hK.out _ _ ⟨(zQ BK277.out 0).trans rfl, (zQ BK277.out 1).trans rfl, (zQ BK277.out 2).trans rfl, ((HB.out.cell (zJ w _ hw282_0)).trans hw282_0), ((HB.out.cell (zJ w _ hw282_1)).trans hw282_1), ((HB.out.cell (zJ w _ hw282_2)).trans hw282_2)⟩ (fun hHeld => ?_)
        clear hK K
        refine norm_ (a' := ?_) ?_ ?_
        rotate_left
        ·show Act.put _ (some 22) _ = _
         simp only [Act.put, zY, zZ, yA, i64_w, i32_w]
         rfl
        refine pure_ (i := 9) (N := some 23) (v := ?_) (a' := ?_) #[true, true, true, true, true, true, true, true, true, true] rfl rfl (any_of HT_.out (by kernel_rfl)) (fun _ _ _ h => h) (Or.inl ⟨by rfl, ?_⟩) ?_ ?_
        rotate_left
        ·intro w'
         go_simp
         with_reducible rfl
        rotate_left
        ·simp only [Act.put, zY, zZ, yA, i64_w, i32_w]
         rfl
        refine done_ (done_of HT_.out (by kernel_rfl)) ?_
        have p291 : 0 ≤ (x7_1 : Int) := of_decide_eq_true (by first | (with_reducible assumption) | assumption)
        have q291 : x7_1 < (l0.length : Int) := of_decide_eq_true (by first | (with_reducible assumption) | assumption)
        obtain ⟨ad291, e291, hx291_0, hx291_1, hx291_2⟩ := at_T50 HR0.out x7_1 p291 q291
        obtain rfl : ad282 = ad291 := (by injection e291)
        replace hx291_0 := (HB.out.cell (zJ w _ hx291_0)).trans hx291_0
        replace hx291_1 := (HB.out.cell (zJ w _ hx291_1)).trans hx291_1
        replace hx291_2 := (HB.out.cell (zJ w _ hx291_2)).trans hx291_2
        replace p291 := eq_true p291
        replace q291 := eq_true q291
        try go_wp2_with (first | ((with_reducible refine gate_builtin (b := .append) (xs := #[.tmp 28, .tmp 33]) rfl ?_); at_builtin; refine Kd.R_append k50 (w0 := w) w.heap.size rfl (.tmp 28) (.tmp 33) 29 50 (.agg #[(.int .i64 0), (.int .i64 0), (.int .i64 0)]) 24 rfl Try.underlying29 info50 rfl (by decide) (by omega) u5 x5_1 (⟨(⟨(rd_T50 l0 x7_1).f0.f0, (rd_T50 l0 x7_1).f0.f1⟩ : S27), (rd_T50 l0 x7_1).f1⟩ : S50) [.int .i64 ((rd_T50 l0 x7_1).f0.f0), .int .i64 ((rd_T50 l0 x7_1).f0.f1), .int .i64 ((rd_T50 l0 x7_1).f1)] (fun k_ => k_ ≠ gb277) (fun _ => False) rfl rfl ?aP (fun _ hk => hk.elim) ?aF ?aO ?aB ?aS ?aL ?_; (case aP => exact k50_mkM _ _ _ (⟨(⟨(rd_T50 l0 x7_1).f0.f0, (rd_T50 l0 x7_1).f0.f1⟩ : S27), (rd_T50 l0 x7_1).f1⟩ : S50)); (case aB => exact (zl HB.out)); (case aF => exact (fun k_ hk => Kd.freshB (g := gb277) (o := .cells #[.int .i64 a1_0, .int .i64 a1_1, .int .i64 a1_2] 50 (0, 0)) (zb BK277.out) k_ hk)); (case aO => exact (zr HO_5.out)); (case aS => exact (yG (zl HB.out))); (case aL => have := LMc20.out; omega); intro v293 w23 ho hb hg hat; rw [← Ny292.out] at ho; have n0_ := zK (blk_grown (g := gb277) (o := .cells #[.int .i64 a1_0, .int .i64 a1_1, .int .i64 a1_2] 50 (0, 0)) (zb BK277.out) hg (Kd.R_away HO_5.out (fun _ hk => hk))); have n1_ := zK (hb); have n2_ := zK (ho); clear BK277; clear HB; clear HO_5; have BK277 := n0_; have HB := n1_; have HO294 := n2_; clear n0_ n1_ n2_; clear ho hb hg hat))
        go_roundg k1
        case measure => have := HK1.out; omega
        case rel => exact ⟨(y292), (false), (wrap64 (x7_1 + 1)), zz, zz, H', ⟨by have := HK1.out; omega⟩, ⟨by (with_reducible repeat (first | apply zA | apply zB | apply zC)); exact HO294.out⟩, ⟨by (with_reducible repeat (first | refine zD ?_ _ | refine zE ?_ | refine zF ?_ _)); exact BK277.out⟩, ⟨by repeat (first | (with_reducible first | exact HB.out | apply zG | apply zH | apply zI | refine zL ?_ GE277.out) | exact HB.out)⟩⟩
       ·rw [if_neg c20] at H
        exact absurd H (by simp)
     ·rw [if_neg c10] at H
      exact absurd H (by simp)
   ·rw [if_neg c4] at H
    have c4b0 : decide (x7_1 < (l0.length : Int)) = false := decide_eq_false c4
    clear c4
    by_cases c24 : x6_1 = true
    ·subst c24
     have H1 : (some x5_1) = some r := by rw [if_pos rfl] at H; exact H
     clear H
     have H := H1
     clear H1
     obtain rfl := Option.some.inj H
     go_wp2
     go_ret
     exact ⟨_, by first | rfl | (simp [errW_none, errW_some] <;> rfl) | (simp [*, errW_none, errW_some] <;> rfl), by (with_reducible repeat (first | apply zA | apply zB | apply zC)); exact Kd.R_mono HO_5.out (fun _ hk => trivial), zl HB.out⟩
    ·replace c24 := Bool.eq_false_iff.mpr c24
     subst c24
     have H1 : (if x5_1.length < 5864062014805 then (some (x5_1 ++ [(⟨(⟨a1_0, a1_1⟩ : S27), a1_2⟩ : S50)])) else (none)) = some r := by rw [if_neg (show ¬ (false = true) by decide)] at H; exact H
     clear H
     have H := H1
     clear H1
     by_cases c25 : x5_1.length < 5864062014805
     ·rw [if_pos c25] at H
      have LMc25 := zK c25
      clear c25
      obtain ⟨y295, hy295⟩ : ∃ y_ : List (S50), y_ = (x5_1 ++ [(⟨(⟨a1_0, a1_1⟩ : S27), a1_2⟩ : S50)]) := ⟨_, rfl⟩
      replace H : (some y295) = some r := by first | (rw [hy295]; with_reducible exact H) | (have H2_ := (Option.bind_some _ _).symm.trans H; rw [hy295]; with_reducible exact H2_) | (have H2_ := (Option.bind_some _ _).symm.trans H; with_reducible exact H2_) | with_reducible exact H | (rw [hy295]; exact H) | exact H
      have Ny295 := zK hy295
      clear hy295
      obtain rfl := Option.some.inj H
      have hcz26_0 : wr.cell? ⟨gb277, 0, none⟩ = some (.int .i64 a1_0) := (zQ BK277.out 0).trans rfl
      have hcz26_1 : wr.cell? ⟨gb277, 1, none⟩ = some (.int .i64 a1_1) := (zQ BK277.out 1).trans rfl
      have hcz26_2 : wr.cell? ⟨gb277, 2, none⟩ = some (.int .i64 a1_2) := (zQ BK277.out 2).trans rfl
      have hfz26_0 := zR BK277.out 0
      have hfz26_1 := zR BK277.out 1
      have hfz26_2 := zR BK277.out 2
      go_wp2_with (first | ((with_reducible refine gate_builtin (b := .append) (xs := #[.tmp 37, .tmp 39]) rfl ?_); at_builtin; refine Kd.R_append k50 (w0 := w) w.heap.size rfl (.tmp 37) (.tmp 39) 29 50 (.agg #[(.int .i64 0), (.int .i64 0), (.int .i64 0)]) 24 rfl Try.underlying29 info50 rfl (by decide) (by omega) u5 x5_1 (⟨(⟨a1_0, a1_1⟩ : S27), a1_2⟩ : S50) [.int .i64 a1_0, .int .i64 a1_1, .int .i64 a1_2] (fun k_ => k_ ≠ gb277) (fun _ => False) rfl rfl ?aP (fun _ hk => hk.elim) ?aF ?aO ?aB ?aS ?aL ?_; (case aP => exact k50_mkM _ _ _ (⟨(⟨a1_0, a1_1⟩ : S27), a1_2⟩ : S50)); (case aB => exact (zl HB.out)); (case aF => exact (fun k_ hk => Kd.freshB (g := gb277) (o := .cells #[.int .i64 a1_0, .int .i64 a1_1, .int .i64 a1_2] 50 (0, 0)) (zb BK277.out) k_ hk)); (case aO => exact (zr HO_5.out)); (case aS => exact (yG (zl HB.out))); (case aL => have := LMc25.out; omega); intro v296 w27 ho hb hg hat; rw [← Ny295.out] at ho; have n0_ := zK (blk_grown (g := gb277) (o := .cells #[.int .i64 a1_0, .int .i64 a1_1, .int .i64 a1_2] 50 (0, 0)) (zb BK277.out) hg (Kd.R_away HO_5.out (fun _ hk => hk))); have n1_ := zK (hb); have n2_ := zK (ho); clear BK277; clear HB; clear HO_5; have BK277 := n0_; have HB := n1_; have HO297 := n2_; clear n0_ n1_ n2_; clear ho hb hg hat))
      go_ret
      exact ⟨_, by first | rfl | (simp [errW_none, errW_some] <;> rfl) | (simp [*, errW_none, errW_some] <;> rfl), by (with_reducible repeat (first | apply zA | apply zB | apply zC)); exact Kd.R_mono HO297.out (fun _ hk => trivial), zl HB.out⟩
     ·rw [if_neg c25] at H
      exact absurd H (by simp)
def tollbarlaw0_SpoilInts.l0 : Nat → List Int → Int → Option (List Int)
 | 0, _, _ => none
 | k + 1, x0, x2 => if x2 < (x0.length : Int) then (if 0 ≤ x2 then (tollbarlaw0_SpoilInts.l0 k (x0.set (x2 : Int).toNat (wrap64 ((-9) - (Int.tmod (rd x0 x2) 1000)))) (wrap64 (x2 + 1))) else (none)) else (some x0)
def tollbarlaw0_SpoilInts.f (k : Nat) (l0 : List Int) : Option (List Int) := tollbarlaw0_SpoilInts.l0 k l0 0
set_option maxHeartbeats 8000000 in
set_option maxRecDepth 100000 in
theorem tollbarlaw0_SpoilInts.calls (k : Nat) (P0_ : Nat → Prop) (u9000_ : Value) (l0 : List Int) (r : List Int) (w0 w : World) (hB : Below w0.heap.size w0 w) (ho0 : Kd.R (Kd.int .i64) 3 w w0.heap.size P0_ u9000_ l0) (h : tollbarlaw0_SpoilInts.f k l0 = some r) :
  Calls Try.prog 61 #[u9000_] w fun e w' => e = .returned (.tuple #[]) ∧ Kd.R (Kd.int .i64) 3 w' w0.heap.size (fun k_ => (P0_ k_ ∨ w.heap.size ≤ k_)) u9000_ r ∧ Below w0.heap.size w0 w' ∧ Kept w w' (fun k_ => P0_ k_) := by
 have HO0 := zK (show Kd.R (Kd.int .i64) 3 w w0.heap.size (fun k_ => (P0_ k_ ∨ w.heap.size ≤ k_)) u9000_ l0 from Kd.R_mono ho0 (fun k_ hk => (.inl hk)))
 have HK := zK (Kept.refl w (fun k_ => P0_ k_))
 have HW0 := zK hB.size
 have HB := zK hB
 clear hB
 have H : (tollbarlaw0_SpoilInts.l0 k l0 0) = some r := h
 clear h
 have H' := zK H
 clear H
 go_enter Try.func61, Try.ntmps61
 go_wp2
 go_loopg [2] k (fun kq v2 w' => ∃ (x0_1 : List Int) (x2_1 : Int), v2 = .int .i64 x2_1 ∧ Aside0 (tollbarlaw0_SpoilInts.l0 kq x0_1 x2_1 = some r) ∧ Aside0 (kq ≤ k) ∧ Aside0 (Kd.R (Kd.int .i64) 3 w' w0.heap.size (fun k_ => (P0_ k_ ∨ w.heap.size ≤ k_)) u9000_ x0_1) ∧ Aside0 (Kept w w' (fun k_ => P0_ k_)) ∧ Aside0 (Below w0.heap.size w0 w'))
 case atStart => exact ⟨(l0), (0), zz, H', ⟨Nat.le_refl _⟩, ⟨by (with_reducible repeat (first | apply zA | apply zB | apply zC)); exact HO0.out⟩, ⟨by repeat (first | (with_reducible first | exact HK.out | apply Kept.alloc | apply Kept.drewN | apply Kept.drew) | exact HK.out)⟩, ⟨by repeat (first | (with_reducible first | exact HB.out | apply zG | apply zH | apply zI) | exact HB.out)⟩⟩
 case round =>
  clear H'
  obtain ⟨x0_1, x2_1, rfl, HA, HK1, HO_0, HK, HB⟩ := hrel
  cases gk with
  | zero => exact absurd HA.out (by simp [tollbarlaw0_SpoilInts.l0])
  | succ k1 =>
   have H := HA.out
   clear HA
   simp only [tollbarlaw0_SpoilInts.l0] at H
   by_cases c2 : x2_1 < (x0_1.length : Int)
   ·rw [if_pos c2] at H
    have c2b0 : decide (x2_1 < (x0_1.length : Int)) = true := decide_eq_true c2
    clear c2
    by_cases c3 : 0 ≤ x2_1
    ·rw [if_pos c3] at H
     have c3b0 : decide (0 ≤ x2_1) = true := decide_eq_true c3
     clear c3
     obtain ⟨y299, hy299⟩ : ∃ y_ : List Int, y_ = (x0_1.set (x2_1 : Int).toNat (wrap64 ((-9) - (Int.tmod (rd x0_1 x2_1) 1000)))) := ⟨_, rfl⟩
     replace H : (tollbarlaw0_SpoilInts.l0 k1 y299 (wrap64 (x2_1 + 1))) = some r := by first | (rw [hy299]; with_reducible exact H) | (have H2_ := (Option.bind_some _ _).symm.trans H; rw [hy299]; with_reducible exact H2_) | (have H2_ := (Option.bind_some _ _).symm.trans H; with_reducible exact H2_) | with_reducible exact H | (rw [hy299]; exact H) | exact H
     have Ny299 := zK hy299
     clear hy299
     have H' := zK H
     clear H
     obtain ⟨Ao5, co5, eo5⟩ := yE HO_0.out
     subst eo5
     have p298 : 0 ≤ (x2_1 : Int) := of_decide_eq_true (by first | (with_reducible assumption) | assumption)
     have q298 : x2_1 < (x0_1.length : Int) := of_decide_eq_true (by first | (with_reducible assumption) | assumption)
     obtain ⟨ad298, e298, hx298_0⟩ := Kd.at_int (zX HO_0.out).2.2 x2_1 p298 q298
     cases e298
     replace p298 := eq_true p298
     replace q298 := eq_true q298
     have p4 : 0 ≤ (x2_1 : Int) := of_decide_eq_true (by first | (with_reducible assumption) | assumption)
     have q4 : (x2_1 : Int) < ((x0_1.length : Int) : Int) := of_decide_eq_true (by first | (with_reducible assumption) | assumption)
     obtain ⟨go4, co4, eo4, gb4, gl4, cl4, HG4⟩ := Kd.R_form HO_0.out (by omega)
     (first | cases eo4 | (injection eo4 with ea_ en_ ec_; (first | subst ea_ | (injection ea_ with ea_; subst ea_)); subst ec_; clear en_))
     have GB4 := zK gb4
     have GG4 := zK HG4
     clear gb4 gl4 HG4
     have HMgo4 := zK (show (P0_ go4 ∨ w.heap.size ≤ go4) from (HO_0.out.1 _ rfl))
     (first | simp only [add_plain] at hx298_0 | skip)
     obtain ⟨hx4_0, hf4_0⟩ := Kd.R_celln 0 HO_0.out (x2_1 : Int) p4 q4
     replace p4 := eq_true p4
     replace q4 := eq_true q4
     have HP6 := Kd.R_putg HO_0.out (x2_1 : Int) (wrap64 ((-9) - (Int.tmod (rd x0_1 x2_1) 1000)))
     go_wp2_with (first | ((with_reducible refine gate_store (t := 3) (p := 17) rfl ?_); refine store_event (t := 3) (p := 17) (v := ?vo_w7) (w1 := (wr.setCell ⟨go4, (x2_1 : Int).toNat, none⟩ (.int .i64 (wrap64 ((-9) - (Int.tmod (rd x0_1 x2_1) 1000)))))) ?hg ?ho ?hn ?hr ?_; (case ho => rfl); (case hg => rfl); (case hn => rfl); (case hr => first | (go_simp; done) | (go_simp; rfl)); intro w7 hw; have hg : wr.grownBy w7 (some go4) := (by rw [hw]; exact HP6.2); have hp_ : Kd.R (Kd.int .i64) 3 w7 w0.heap.size (fun k_ => (P0_ k_ ∨ w.heap.size ≤ k_)) (.slice (some ⟨go4, 0, none⟩) x0_1.length co5) y299 := (by rw [hw, Ny299.out]; exact HP6.1); clear HP6; have n0_ := zK (hp_); have n1_ := zK ((by rw [hw]; exact zL (HB.out) GB4.out : Below w0.heap.size w0 w7)); have n2_ := zK (Kept.of_grown (S := (fun k_ => P0_ k_)) hg (by repeat (first | (with_reducible first | exact HK.out | apply Kept.alloc | apply Kept.drewN | apply Kept.drew) | exact HK.out)) (fun k_ e_ => (HO_0.out.1 k_ e_))); clear HO_0; clear HB; clear HK; have HO_0 := n0_; have HB := n1_; have HK := n2_; clear n0_ n1_ n2_; clear hg hw hp_))
     go_roundg k1
     case measure => have := HK1.out; omega
     case rel => exact ⟨(y299), (wrap64 (x2_1 + 1)), zz, H', ⟨by have := HK1.out; omega⟩, ⟨by (with_reducible repeat (first | apply zA | apply zB | apply zC)); exact HO_0.out⟩, ⟨by repeat (first | (with_reducible first | exact HK.out | apply Kept.alloc | apply Kept.drewN | apply Kept.drew) | exact HK.out)⟩, ⟨by repeat (first | (with_reducible first | exact HB.out | apply zG | apply zH | apply zI) | exact HB.out)⟩⟩
    ·rw [if_neg c3] at H
     exact absurd H (by simp)
   ·rw [if_neg c2] at H
    have c2b0 : decide (x2_1 < (x0_1.length : Int)) = false := decide_eq_false c2
    clear c2
    obtain rfl := Option.some.inj H
    obtain ⟨Ao8, co8, eo8⟩ := yE HO_0.out
    subst eo8
    go_wp2
    first | go_end0 | ((try simp only [Exit.inBlock, Exit.then]); refine bodyPost_ret (results_none rfl _ _ _) rfl ?_)
    exact ⟨ze, by (with_reducible repeat (first | apply zA | apply zB | apply zC)); exact HO_0.out, by repeat (first | (with_reducible first | exact HB.out | apply zG | apply zH | apply zI) | exact HB.out), by repeat (first | (with_reducible first | exact HK.out | apply Kept.alloc | apply Kept.drewN | apply Kept.drew) | exact HK.out)⟩
def tollbarlaw0_SpoilTree.l0 : Nat → Int → List (S64) → Int → List Int → Option ((List (S64)) × List Int)
 | 0, _, _, _, _ => none
 | k + 1, x2, xqd, xqe, xqf => if x2 < (xqd.length : Int) then (if 0 ≤ x2 then (tollbarlaw0_SpoilTree.l0 k (wrap64 (x2 + 1)) (xqd.set (x2 : Int).toNat (⟨(⟨(⟨0, 0⟩ : S27), 0⟩ : S50), (-9), (-9), 0, 0⟩ : S64)) xqe xqf) else (none)) else (some (xqd, xqf))
def tollbarlaw0_SpoilTree.f (k : Nat) (l0_0 : List (S64)) (a0_1 : Int) (l0_2 : List Int) : Option ((List (S64)) × List Int) := (tollbarlaw0_SpoilInts.f k l0_2).bind fun t301 => (tollbarlaw0_SpoilTree.l0 k 0 l0_0 a0_1 t301)
set_option maxHeartbeats 8000000 in
set_option maxRecDepth 100000 in
theorem tollbarlaw0_SpoilTree.calls (k : Nat) (P0_0_ : Nat → Prop) (u9000_ : Value) (l0_0 : List (S64)) (a0_1 : Int) (P0_2_ : Nat → Prop) (u9001_ : Value) (l0_2 : List Int) (r1 : List (S64)) (r2 : List Int) (w0 w : World) (hB : Below w0.heap.size w0 w) (ho0_0 : Kd.R k64 64 w w0.heap.size P0_0_ u9000_ l0_0) (ho0_2 : Kd.R (Kd.int .i64) 3 w w0.heap.size P0_2_ u9001_ l0_2) (h : tollbarlaw0_SpoilTree.f k l0_0 a0_1 l0_2 = some (r1, r2)) :
  Calls Try.prog 29 #[.agg #[u9000_, .int .i64 a0_1, u9001_]] w fun e w' => e = .returned (.tuple #[]) ∧ Kd.R k64 64 w' w0.heap.size (fun k_ => ((P0_0_ k_ ∨ P0_2_ k_) ∨ w.heap.size ≤ k_)) u9000_ r1 ∧ Kd.R (Kd.int .i64) 3 w' w0.heap.size (fun k_ => ((P0_0_ k_ ∨ P0_2_ k_) ∨ w.heap.size ≤ k_)) u9001_ r2 ∧ Below w0.heap.size w0 w' ∧ Kept w w' (fun k_ => P0_0_ k_ ∨ P0_2_ k_) := by
 have hu25 := Try.underlying25
 have hu64 := Try.underlying64
 have HO0_0 := zK (show Kd.R k64 64 w w0.heap.size (fun k_ => ((P0_0_ k_ ∨ P0_2_ k_) ∨ w.heap.size ≤ k_)) u9000_ l0_0 from Kd.R_mono ho0_0 (fun k_ hk => (.inl (.inl hk))))
 have HO0_2 := zK (show Kd.R (Kd.int .i64) 3 w w0.heap.size (fun k_ => ((P0_0_ k_ ∨ P0_2_ k_) ∨ w.heap.size ≤ k_)) u9001_ l0_2 from Kd.R_mono ho0_2 (fun k_ hk => (.inl (.inr hk))))
 have HK := zK (Kept.refl w (fun k_ => P0_0_ k_ ∨ P0_2_ k_))
 have HW0 := zK hB.size
 have HB := zK hB
 clear hB
 have H : ((tollbarlaw0_SpoilInts.f k l0_2).bind fun t301 => (tollbarlaw0_SpoilTree.l0 k 0 l0_0 a0_1 t301)) = some (r1, r2) := h
 clear h
 replace H := yH.mp H
 obtain ⟨t301, A20, H⟩ := H
 replace H : (tollbarlaw0_SpoilTree.l0 k 0 l0_0 a0_1 t301) = some (r1, r2) := H
 have A2 := zK A20
 clear A20
 have H' := zK H
 clear H
 obtain ⟨Ao3, co3, eo3⟩ := yE HO0_0.out
 subst eo3
 obtain ⟨Ao4, co4, eo4⟩ := yE HO0_2.out
 subst eo4
 go_enter Try.func29, Try.ntmps29
 go_wp2_with (first | ((with_reducible refine gate_dst (N := 1) rfl ?_); refine box_event ?hg (N := 1) ?hd (cs := #[.slice Ao3 l0_0.length co3, .int .i64 a0_1, .slice Ao4 l0_2.length co4]) (t := 25) ?hr ?_; (case hd => rfl); (case hg => rfl); (case hr => first | (go_simp; done) | (go_simp; rfl)); intro gb300 hg w5 hbox hb; have n0_ := zK (zO (zr HO0_0.out) hb); have n1_ := zK (zO (zr HO0_2.out) hb); have n2_ := zK (Kept.below (S := (fun k_ => P0_0_ k_ ∨ P0_2_ k_)) (by repeat (first | (with_reducible first | exact HK.out | apply Kept.alloc | apply Kept.drewN | apply Kept.drew) | exact HK.out)) hb); have n3_ := zK (yF (zl HB.out) hb); have n4_ := zK (hbox); have n5_ := zK ((by rw [hg]; exact (by first | exact HK.out.1 | exact (show Kept w _ (fun k_ => P0_0_ k_ ∨ P0_2_ k_) from by repeat (first | (with_reducible first | exact HK.out | apply Kept.alloc | apply Kept.drewN | apply Kept.drew) | exact HK.out)).1) : w.heap.size ≤ gb300)); have n6_ := zK ((by rw [hg]; exact (yG (zl HB.out)) : w0.heap.size ≤ gb300)); clear HO0_0; clear HO0_2; clear HK; clear HB; have HO0_0 := n0_; have HO0_2 := n1_; have HK := n2_; have HB := n3_; have BK300 := n4_; have GW300 := n5_; have GE300 := n6_; clear n0_ n1_ n2_ n3_ n4_ n5_ n6_; clear hb hbox hg; have hcz6_0 : w5.cell? ⟨gb300, 0, none⟩ = some (.slice Ao3 l0_0.length co3) := (zQ BK300.out 0).trans rfl; have hcz6_1 : w5.cell? ⟨gb300, 1, none⟩ = some (.int .i64 a0_1) := (zQ BK300.out 1).trans rfl; have hcz6_2 : w5.cell? ⟨gb300, 2, none⟩ = some (.slice Ao4 l0_2.length co4) := (zQ BK300.out 2).trans rfl; have hfz6_0 := zR BK300.out 0; have hfz6_1 := zR BK300.out 1; have hfz6_2 := zR BK300.out 2) | ((with_reducible refine gate_callee (f := 61) rfl ?_); refine goesL_ (some 5) rfl rfl Try.func61 (by kernel_rfl) rfl #[.slice Ao4 l0_2.length co4] rfl zt ?_; (with_reducible refine (tollbarlaw0_SpoilInts.calls k (fun k_ => some k_ = (.slice Ao4 l0_2.length co4 : Value).ownBlock) (.slice Ao4 l0_2.length co4) l0_2 t301 w0 _ ?side1 ?side2 A2.out).mono ?_); (case side1 => repeat (first | (with_reducible first | exact HB.out | apply zG | apply zH | apply zI | refine zL ?_ GE300.out) | exact HB.out)); (case side2 => exact Kd.R_tight rfl HO0_2.out); rintro e w7 ⟨rfl, hy0, hb, hkp⟩; refine ⟨_, rfl, ?_⟩; have n0_ := zK (Kd.R_mono (ok' := fun k_ => ((P0_0_ k_ ∨ P0_2_ k_) ∨ w.heap.size ≤ k_)) (Kd.R_keptB ((Kd.R_apart' HO0_0.out (Kd.R_typed HO0_2.out) (by decide))) hkp (fun k_ hk_ hs_ => (hk_.2) hs_)) (fun k_ hk_ => hk_.1.1)); have n1_ := zK (Kd.R_reok rfl hy0 (fun k_ e_ => HO0_2.out.1 k_ e_)); have n2_ := zK (blk_kept (zb BK300.out) hkp (fun hs_ => (fun e_ => (Kd.R_ne HO0_2.out BK300.out (by decide)) e_) hs_)); have n3_ := zK (Kept.then_ (S := (fun k_ => P0_0_ k_ ∨ P0_2_ k_)) (by repeat (first | (with_reducible first | exact HK.out | apply Kept.alloc | apply Kept.drewN | apply Kept.drew | refine Kept.setCell ?_ (.inr GW300.out) _) | exact HK.out)) hkp (fun k_ hs_ => (fun e_ => (HO0_2.out.1 k_ e_.symm)) hs_)); have n4_ := zK (hb); clear HO0_0; clear HO0_2; clear BK300; clear HK; clear HB; have HO0_0 := n0_; have HO0_2 := n1_; have BK300 := n2_; have HK := n3_; have HB := n4_; clear n0_ n1_ n2_ n3_ n4_; (try clear hb); (try clear hkp); (try clear hy0)))
 go_loopg [2] k (fun kq v2 w' => ∃ (x2_1 : Int) (xqd_1 : List (S64)), v2 = .int .i64 x2_1 ∧ Aside0 (tollbarlaw0_SpoilTree.l0 kq x2_1 xqd_1 a0_1 t301 = some (r1, r2)) ∧ Aside0 (kq ≤ k) ∧ Aside0 (Kd.R k64 64 w' w0.heap.size (fun k_ => ((P0_0_ k_ ∨ P0_2_ k_) ∨ w.heap.size ≤ k_)) (.slice Ao3 l0_0.length co3) xqd_1) ∧ Aside0 (Kd.R (Kd.int .i64) 3 w' w0.heap.size (fun k_ => ((P0_0_ k_ ∨ P0_2_ k_) ∨ w.heap.size ≤ k_)) (.slice Ao4 l0_2.length co4) t301) ∧ Aside0 (w'.heap[gb300]? = some (.cells #[(.slice Ao3 l0_0.length co3), .int .i64 a0_1, (.slice Ao4 l0_2.length co4)] 25 (0, 0))) ∧ Aside0 (Kept w w' (fun k_ => P0_0_ k_ ∨ P0_2_ k_)) ∧ Aside0 (Below w0.heap.size w0 w'))
 case atStart => exact ⟨(0), (l0_0), zz, H', ⟨Nat.le_refl _⟩, ⟨by (with_reducible repeat (first | apply zA | apply zB | apply zC)); exact HO0_0.out⟩, ⟨by (with_reducible repeat (first | apply zA | apply zB | apply zC)); exact HO0_2.out⟩, ⟨by (with_reducible repeat (first | refine zD ?_ _ | refine zE ?_ | refine zF ?_ _)); exact BK300.out⟩, ⟨by repeat (first | (with_reducible first | exact HK.out | apply Kept.alloc | apply Kept.drewN | apply Kept.drew | refine Kept.setCell ?_ (.inr GW300.out) _) | exact HK.out)⟩, ⟨by repeat (first | (with_reducible first | exact HB.out | apply zG | apply zH | apply zI | refine zL ?_ GE300.out) | exact HB.out)⟩⟩
 case round =>
  clear H'
  try clear c2
  try clear p2
  try clear c6
  try clear hcz6_0
  try clear hcz6_1
  try clear hcz6_2
  try clear hfz6_0
  try clear hfz6_1
  try clear hfz6_2
  obtain ⟨x2_1, xqd_1, rfl, HA, HK1, HO_qd, HO_qf, BK300, HK, HB⟩ := hrel
  have hlqd_1 := (zX HO_qd.out).1
  rw [hlqd_1] at HO_qd
  (try simp only [hlqd_1])
  (try simp only [hlqd_1] at BK300)
  (try simp only [hlqd_1] at HO_qf)
  have hlqf_1 := (zX HO_qf.out).1
  rw [hlqf_1] at HO_qf
  (try simp only [hlqf_1])
  (try simp only [hlqf_1] at BK300)
  (try simp only [hlqf_1] at HO_qd)
  cases gk with
  | zero => exact absurd HA.out (by simp [tollbarlaw0_SpoilTree.l0])
  | succ k1 =>
   have H := HA.out
   clear HA
   simp only [tollbarlaw0_SpoilTree.l0] at H
   by_cases c8 : x2_1 < (xqd_1.length : Int)
   ·rw [if_pos c8] at H
    have c8b0 : decide (x2_1 < (xqd_1.length : Int)) = true := decide_eq_true c8
    clear c8
    by_cases c9 : 0 ≤ x2_1
    ·rw [if_pos c9] at H
     have c9b0 : decide (0 ≤ x2_1) = true := decide_eq_true c9
     clear c9
     obtain ⟨y302, hy302⟩ : ∃ y_ : List (S64), y_ = (xqd_1.set (x2_1 : Int).toNat (⟨(⟨(⟨0, 0⟩ : S27), 0⟩ : S50), (-9), (-9), 0, 0⟩ : S64)) := ⟨_, rfl⟩
     replace H : (tollbarlaw0_SpoilTree.l0 k1 (wrap64 (x2_1 + 1)) y302 a0_1 t301) = some (r1, r2) := by first | (rw [hy302]; with_reducible exact H) | (have H2_ := (Option.bind_some _ _).symm.trans H; rw [hy302]; with_reducible exact H2_) | (have H2_ := (Option.bind_some _ _).symm.trans H; with_reducible exact H2_) | with_reducible exact H | (rw [hy302]; exact H) | exact H
     have Ny302 := zK hy302
     clear hy302
     have H' := zK H
     clear H
     have hcz11_0 : wr.cell? ⟨gb300, 0, none⟩ = some (.slice Ao3 xqd_1.length co3) := (zQ BK300.out 0).trans rfl
     have hcz11_1 : wr.cell? ⟨gb300, 1, none⟩ = some (.int .i64 a0_1) := (zQ BK300.out 1).trans rfl
     have hcz11_2 : wr.cell? ⟨gb300, 2, none⟩ = some (.slice Ao4 t301.length co4) := (zQ BK300.out 2).trans rfl
     have hfz11_0 := zR BK300.out 0
     have hfz11_1 := zR BK300.out 1
     have hfz11_2 := zR BK300.out 2
     have p10 : 0 ≤ (x2_1 : Int) := of_decide_eq_true (by first | (with_reducible assumption) | assumption)
     have q10 : (x2_1 : Int) < ((xqd_1.length : Int) : Int) := of_decide_eq_true (by first | (with_reducible assumption) | assumption)
     obtain ⟨go10, co10, eo10, gb10, gl10, cl10, HG10⟩ := Kd.R_form HO_qd.out (by omega)
     (first | cases eo10 | (injection eo10 with ea_ en_ ec_; (first | subst ea_ | (injection ea_ with ea_; subst ea_)); subst ec_; clear en_))
     have GB10 := zK gb10
     have GG10 := zK HG10
     clear gb10 gl10 HG10
     have HMgo10 := zK (show ((P0_0_ go10 ∨ P0_2_ go10) ∨ w.heap.size ≤ go10) from (HO_qd.out.1 _ rfl))
     obtain ⟨ce10, hcl10, hM10, hcc10, hfr10⟩ := Kd.R_elem HO_qd.out z64 (x2_1 : Int) p10 q10
     obtain rfl := k64_openM hM10
     have hx10_0 : wr.cell? ⟨go10, (x2_1 : Int).toNat * 7, none⟩ = some (.int .i64 ((rd_T64 xqd_1 x2_1).f0.f0.f0)) := hcc10 0 _ rfl
     have hx10_1 : wr.cell? ⟨go10, (x2_1 : Int).toNat * 7 + 1, none⟩ = some (.int .i64 ((rd_T64 xqd_1 x2_1).f0.f0.f1)) := hcc10 1 _ rfl
     have hx10_2 : wr.cell? ⟨go10, (x2_1 : Int).toNat * 7 + 2, none⟩ = some (.int .i64 ((rd_T64 xqd_1 x2_1).f0.f1)) := hcc10 2 _ rfl
     have hx10_3 : wr.cell? ⟨go10, (x2_1 : Int).toNat * 7 + 3, none⟩ = some (.int .i64 ((rd_T64 xqd_1 x2_1).f1)) := hcc10 3 _ rfl
     have hx10_4 : wr.cell? ⟨go10, (x2_1 : Int).toNat * 7 + 4, none⟩ = some (.int .i64 ((rd_T64 xqd_1 x2_1).f2)) := hcc10 4 _ rfl
     have hx10_5 : wr.cell? ⟨go10, (x2_1 : Int).toNat * 7 + 5, none⟩ = some (.int .i64 ((rd_T64 xqd_1 x2_1).f3)) := hcc10 5 _ rfl
     have hx10_6 : wr.cell? ⟨go10, (x2_1 : Int).toNat * 7 + 6, none⟩ = some (.int .i64 ((rd_T64 xqd_1 x2_1).f4)) := hcc10 6 _ rfl
     have hf10_0 : wr.frozen? ⟨go10, (x2_1 : Int).toNat * 7, none⟩ = false := hfr10 0
     have hf10_1 : wr.frozen? ⟨go10, (x2_1 : Int).toNat * 7 + 1, none⟩ = false := hfr10 1
     have hf10_2 : wr.frozen? ⟨go10, (x2_1 : Int).toNat * 7 + 2, none⟩ = false := hfr10 2
     have hf10_3 : wr.frozen? ⟨go10, (x2_1 : Int).toNat * 7 + 3, none⟩ = false := hfr10 3
     have hf10_4 : wr.frozen? ⟨go10, (x2_1 : Int).toNat * 7 + 4, none⟩ = false := hfr10 4
     have hf10_5 : wr.frozen? ⟨go10, (x2_1 : Int).toNat * 7 + 5, none⟩ = false := hfr10 5
     have hf10_6 : wr.frozen? ⟨go10, (x2_1 : Int).toNat * 7 + 6, none⟩ = false := hfr10 6
     clear hcl10 hcc10 hfr10 hM10
     replace p10 := eq_true p10
     replace q10 := eq_true q10
     have HX12 := zK (show Kd.R k64 64 wr w0.heap.size (fun k_ => ((P0_0_ k_ ∨ P0_2_ k_) ∨ w.heap.size ≤ k_)) (.slice (some ⟨go10, 0, none⟩) xqd_1.length co3) xqd_1 from (zr HO_qd.out))
     obtain ⟨ce12, hcl12, hM12, hcc12, hfr12⟩ := Kd.R_elem HX12.out z64 (x2_1 : Int) (of_decide_eq_true (by first | (with_reducible assumption) | assumption)) (by have h_ : (x2_1 : Int) < ((xqd_1.length : Int) : Int) := of_decide_eq_true (by first | (with_reducible assumption) | assumption); first | exact h_ | (have e_ := (zX HO_qd.out).1; omega) | simpa using h_)
     obtain rfl := k64_openM hM12
     have HP12 := Kd.R_seg HX12.out (x2_1 : Int) (of_decide_eq_true (by first | (with_reducible assumption) | assumption)) (by have h_ : (x2_1 : Int) < ((xqd_1.length : Int) : Int) := of_decide_eq_true (by first | (with_reducible assumption) | assumption); first | exact h_ | (have e_ := (zX HO_qd.out).1; omega) | simpa using h_) (seg := [.int .i64 0, .int .i64 0, .int .i64 0, .int .i64 (-9), .int .i64 (-9), .int .i64 0, .int .i64 0]) (j := 0) hcl12 hcc12 (show 7 ≤ 7 from by decide) (x' := (⟨(⟨(⟨0, 0⟩ : S27), 0⟩ : S50), (-9), (-9), 0, 0⟩ : S64)) (k64_mkM _ _ _ (⟨(⟨(⟨0, 0⟩ : S27), 0⟩ : S50), (-9), (-9), 0, 0⟩ : S64) ) (fun _ hk => hk)
     have hx12_0 := hcc12 0 _ rfl
     (try simp only [show (k64).sz = 7 from rfl, Nat.mul_one, Nat.add_zero] at hx12_0)
     have hf12_0 := hfr12 0
     (try simp only [show (k64).sz = 7 from rfl, Nat.mul_one, Nat.add_zero] at hf12_0)
     have hx12_1 := hcc12 1 _ rfl
     (try simp only [show (k64).sz = 7 from rfl, Nat.mul_one, Nat.add_zero] at hx12_1)
     have hf12_1 := hfr12 1
     (try simp only [show (k64).sz = 7 from rfl, Nat.mul_one, Nat.add_zero] at hf12_1)
     have hx12_2 := hcc12 2 _ rfl
     (try simp only [show (k64).sz = 7 from rfl, Nat.mul_one, Nat.add_zero] at hx12_2)
     have hf12_2 := hfr12 2
     (try simp only [show (k64).sz = 7 from rfl, Nat.mul_one, Nat.add_zero] at hf12_2)
     have hx12_3 := hcc12 3 _ rfl
     (try simp only [show (k64).sz = 7 from rfl, Nat.mul_one, Nat.add_zero] at hx12_3)
     have hf12_3 := hfr12 3
     (try simp only [show (k64).sz = 7 from rfl, Nat.mul_one, Nat.add_zero] at hf12_3)
     have hx12_4 := hcc12 4 _ rfl
     (try simp only [show (k64).sz = 7 from rfl, Nat.mul_one, Nat.add_zero] at hx12_4)
     have hf12_4 := hfr12 4
     (try simp only [show (k64).sz = 7 from rfl, Nat.mul_one, Nat.add_zero] at hf12_4)
     have hx12_5 := hcc12 5 _ rfl
     (try simp only [show (k64).sz = 7 from rfl, Nat.mul_one, Nat.add_zero] at hx12_5)
     have hf12_5 := hfr12 5
     (try simp only [show (k64).sz = 7 from rfl, Nat.mul_one, Nat.add_zero] at hf12_5)
     have hx12_6 := hcc12 6 _ rfl
     (try simp only [show (k64).sz = 7 from rfl, Nat.mul_one, Nat.add_zero] at hx12_6)
     have hf12_6 := hfr12 6
     (try simp only [show (k64).sz = 7 from rfl, Nat.mul_one, Nat.add_zero] at hf12_6)
     clear hcl12 hcc12 hfr12 hM12
     go_wp2_with (first | ((with_reducible refine gate_store (t := 64) (p := 17) rfl ?_); refine store_event (t := 64) (p := 17) (v := ?vo_w13) (w1 := (((((((wr.setCell ⟨go10, (x2_1 : Int).toNat * 7, none⟩ (.int .i64 0)).setCell ⟨go10, (x2_1 : Int).toNat * 7 + 1, none⟩ (.int .i64 0)).setCell ⟨go10, (x2_1 : Int).toNat * 7 + 2, none⟩ (.int .i64 0)).setCell ⟨go10, (x2_1 : Int).toNat * 7 + 3, none⟩ (.int .i64 (-9))).setCell ⟨go10, (x2_1 : Int).toNat * 7 + 4, none⟩ (.int .i64 (-9))).setCell ⟨go10, (x2_1 : Int).toNat * 7 + 5, none⟩ (.int .i64 0)).setCell ⟨go10, (x2_1 : Int).toNat * 7 + 6, none⟩ (.int .i64 0))) ?hg ?ho ?hn ?hr ?_; (case ho => rfl); (case hg => rfl); (case hn => rfl); (case hr => first | (go_simp; done) | (go_simp; rfl)); intro w13 hw; have hg : wr.grownBy w13 (some go10) := (by rw [hw]; exact HP12.2); have hp_ : Kd.R k64 64 w13 w0.heap.size (fun k_ => ((P0_0_ k_ ∨ P0_2_ k_) ∨ w.heap.size ≤ k_)) (.slice (some ⟨go10, 0, none⟩) xqd_1.length co3) y302 := (by rw [hw, Ny302.out]; exact HP12.1); clear HP12; have n0_ := zK (hp_); have n1_ := zK (Kd.R_over' (v := (.slice (some ⟨go10, 0, none⟩) xqd_1.length co3)) (zr HO_qf.out) (Kd.R_typed HO_qd.out) (by decide) hg); have n2_ := zK (blk_grown (g := gb300) (o := .cells #[.slice (some ⟨go10, 0, none⟩) xqd_1.length co3, .int .i64 a0_1, .slice Ao4 t301.length co4] 25 (0, 0)) (zb BK300.out) hg (Kd.R_ne HO_qd.out BK300.out (by decide))); have n3_ := zK ((by rw [hw]; exact zL (zL (zL (zL (zL (zL (zL (HB.out) GB10.out) GB10.out) GB10.out) GB10.out) GB10.out) GB10.out) GB10.out : Below w0.heap.size w0 w13)); have n4_ := zK (Kept.of_grown (S := (fun k_ => P0_0_ k_ ∨ P0_2_ k_)) hg (by repeat (first | (with_reducible first | exact HK.out | apply Kept.alloc | apply Kept.drewN | apply Kept.drew | refine Kept.setCell ?_ (.inr GW300.out) _) | exact HK.out)) (fun k_ e_ => (HO_qd.out.1 k_ e_))); clear HO_qd; clear HO_qf; clear BK300; clear HB; clear HK; have HO_qd := n0_; have HO_qf := n1_; have BK300 := n2_; have HB := n3_; have HK := n4_; clear n0_ n1_ n2_ n3_ n4_; clear hg hw hp_))
     (try simp only [← hlqd_1, ← hlqf_1])
     go_roundg k1
     case measure => have := HK1.out; omega
     case rel => exact ⟨(wrap64 (x2_1 + 1)), (y302), zz, H', ⟨by have := HK1.out; omega⟩, ⟨by (try simp only [hlqd_1]); (try simp only [hlqf_1]); (with_reducible repeat (first | apply zA | apply zB | apply zC)); exact HO_qd.out⟩, ⟨by (try simp only [hlqd_1]); (try simp only [hlqf_1]); (with_reducible repeat (first | apply zA | apply zB | apply zC)); exact HO_qf.out⟩, ⟨by (try simp only [hlqd_1]); (try simp only [hlqf_1]); (with_reducible repeat (first | refine zD ?_ _ | refine zE ?_ | refine zF ?_ _)); exact BK300.out⟩, ⟨by repeat (first | (with_reducible first | exact HK.out | apply Kept.alloc | apply Kept.drewN | apply Kept.drew | refine Kept.setCell ?_ (.inr GW300.out) _) | exact HK.out)⟩, ⟨by repeat (first | (with_reducible first | exact HB.out | apply zG | apply zH | apply zI | refine zL ?_ GE300.out) | exact HB.out)⟩⟩
    ·rw [if_neg c9] at H
     exact absurd H (by simp)
   ·rw [if_neg c8] at H
    have c8b0 : decide (x2_1 < (xqd_1.length : Int)) = false := decide_eq_false c8
    clear c8
    simp only [Option.some.injEq, Prod.mk.injEq] at H
    obtain ⟨rfl, rfl⟩ := H
    have hcz14_0 : wr.cell? ⟨gb300, 0, none⟩ = some (.slice Ao3 xqd_1.length co3) := (zQ BK300.out 0).trans rfl
    have hcz14_1 : wr.cell? ⟨gb300, 1, none⟩ = some (.int .i64 a0_1) := (zQ BK300.out 1).trans rfl
    have hcz14_2 : wr.cell? ⟨gb300, 2, none⟩ = some (.slice Ao4 t301.length co4) := (zQ BK300.out 2).trans rfl
    have hfz14_0 := zR BK300.out 0
    have hfz14_1 := zR BK300.out 1
    have hfz14_2 := zR BK300.out 2
    go_wp2
    first | go_end0 | ((try simp only [Exit.inBlock, Exit.then]); refine bodyPost_ret (results_none rfl _ _ _) rfl ?_)
    exact ⟨ze, (by first | exact (zr HO_qd.out) | (simp only [hlqd_1, hlqf_1]; exact (zr HO_qd.out))), (by first | exact (zr HO_qf.out) | (simp only [hlqd_1, hlqf_1]; exact (zr HO_qf.out))), by repeat (first | (with_reducible first | exact HB.out | apply zG | apply zH | apply zI | refine zL ?_ GE300.out) | exact HB.out), by repeat (first | (with_reducible first | exact HK.out | apply Kept.alloc | apply Kept.drewN | apply Kept.drew | refine Kept.setCell ?_ (.inr GW300.out) _) | exact HK.out)⟩
end Go.Proofs.Ytgkjpffbgnljeaa.QA
-- written by this session's program mprint.py: functions of the Go program, and their contracts
namespace Go.Proofs.Ytgkjpffbgnljeaa.QL
open Go.RowKit Go.Proofs.Ytgkjpffbgnljeaa.Au Go.Proofs.Ytgkjpffbgnljeaa.QT Go.Proofs.Ytgkjpffbgnljeaa.Man Go.Proofs.Ytgkjpffbgnljeaa.QA Go.Proofs.YtgkjpffbgnljeaaW.PrintWords Go.Proofs.YtgkjpffbgnljeaaW.PrintLast Go.Proofs.YtgkjpffbgnljeaaW.PrintMore
attribute [local go_sem] max2_int min2_int max_two min_two max_three min_three max_four min_four
set_option linter.unusedVariables false
set_option linter.unusedSimpArgs false
def tollbarlaw0_SpoilInts.l0 : Nat → List Int → Int → Option (List Int)
 | 0, _, _ => none
 | k + 1, x0, x2 => if x2 < (x0.length : Int) then (if 0 ≤ x2 then (tollbarlaw0_SpoilInts.l0 k (x0.set (x2 : Int).toNat (wrap64 ((-9) - (Int.tmod (rd x0 x2) 1000)))) (wrap64 (x2 + 1))) else (none)) else (some x0)
def tollbarlaw0_SpoilInts.f (k : Nat) (l0 : List Int) : Option (List Int) := tollbarlaw0_SpoilInts.l0 k l0 0
set_option maxHeartbeats 8000000 in
set_option maxRecDepth 100000 in
theorem tollbarlaw0_SpoilInts.calls (k : Nat) (P0_ : Nat → Prop) (u9000_ : Value) (l0 : List Int) (r : List Int) (w0 w : World) (hB : Below w0.heap.size w0 w) (ho0 : Kd.R (Kd.int .i64) 3 w w0.heap.size P0_ u9000_ l0) (h : tollbarlaw0_SpoilInts.f k l0 = some r) :
  Calls Try.prog 61 #[u9000_] w fun e w' => e = .returned (.tuple #[]) ∧ Kd.R (Kd.int .i64) 3 w' w0.heap.size (fun k_ => (P0_ k_ ∨ w.heap.size ≤ k_)) u9000_ r ∧ Below w0.heap.size w0 w' ∧ Kept w w' (fun k_ => P0_ k_) := by
 have HO0 := zK (show Kd.R (Kd.int .i64) 3 w w0.heap.size (fun k_ => (P0_ k_ ∨ w.heap.size ≤ k_)) u9000_ l0 from Kd.R_mono ho0 (fun k_ hk => (.inl hk)))
 have HK := zK (Kept.refl w (fun k_ => P0_ k_))
 have HW0 := zK hB.size
 have HB := zK hB
 clear hB
 have H : (tollbarlaw0_SpoilInts.l0 k l0 0) = some r := h
 clear h
 have H' := zK H
 clear H
 go_enter Try.func61, Try.ntmps61
 go_wp2
 go_loopg [2] k (fun kq v2 w' => ∃ (x0_1 : List Int) (x2_1 : Int), v2 = .int .i64 x2_1 ∧ Aside0 (tollbarlaw0_SpoilInts.l0 kq x0_1 x2_1 = some r) ∧ Aside0 (kq ≤ k) ∧ Aside0 (Kd.R (Kd.int .i64) 3 w' w0.heap.size (fun k_ => (P0_ k_ ∨ w.heap.size ≤ k_)) u9000_ x0_1) ∧ Aside0 (Kept w w' (fun k_ => P0_ k_)) ∧ Aside0 (Below w0.heap.size w0 w'))
 case atStart => exact ⟨(l0), (0), zz, H', ⟨Nat.le_refl _⟩, ⟨by (with_reducible repeat (first | apply zA | apply zB | apply zC)); exact HO0.out⟩, ⟨by repeat (first | (with_reducible first | exact HK.out | apply Kept.alloc | apply Kept.drewN | apply Kept.drew) | exact HK.out)⟩, ⟨by repeat (first | (with_reducible first | exact HB.out | apply zG | apply zH | apply zI) | exact HB.out)⟩⟩
 case round =>
  clear H'
  obtain ⟨x0_1, x2_1, rfl, HA, HK1, HO_0, HK, HB⟩ := hrel
  cases gk with
  | zero => exact absurd HA.out (by simp [tollbarlaw0_SpoilInts.l0])
  | succ k1 =>
   have H := HA.out
   clear HA
   simp only [tollbarlaw0_SpoilInts.l0] at H
   by_cases c2 : x2_1 < (x0_1.length : Int)
   ·rw [if_pos c2] at H
    have c2b0 : decide (x2_1 < (x0_1.length : Int)) = true := decide_eq_true c2
    clear c2
    by_cases c3 : 0 ≤ x2_1
    ·rw [if_pos c3] at H
     have c3b0 : decide (0 ≤ x2_1) = true := decide_eq_true c3
     clear c3
     obtain ⟨y102, hy102⟩ : ∃ y_ : List Int, y_ = (x0_1.set (x2_1 : Int).toNat (wrap64 ((-9) - (Int.tmod (rd x0_1 x2_1) 1000)))) := ⟨_, rfl⟩
     replace H : (tollbarlaw0_SpoilInts.l0 k1 y102 (wrap64 (x2_1 + 1))) = some r := by first | (rw [hy102]; with_reducible exact H) | (have H2_ := (Option.bind_some _ _).symm.trans H; rw [hy102]; with_reducible exact H2_) | (have H2_ := (Option.bind_some _ _).symm.trans H; with_reducible exact H2_) | with_reducible exact H | (rw [hy102]; exact H) | exact H
     have Ny102 := zK hy102
     clear hy102
     have H' := zK H
     clear H
     obtain ⟨Ao5, co5, eo5⟩ := yE HO_0.out
     subst eo5
     have p101 : 0 ≤ (x2_1 : Int) := of_decide_eq_true (by first | (with_reducible assumption) | assumption)
     have q101 : x2_1 < (x0_1.length : Int) := of_decide_eq_true (by first | (with_reducible assumption) | assumption)
     obtain ⟨ad101, e101, hx101_0⟩ := Kd.at_int (zX HO_0.out).2.2 x2_1 p101 q101
     cases e101
     replace p101 := eq_true p101
     replace q101 := eq_true q101
     have p4 : 0 ≤ (x2_1 : Int) := of_decide_eq_true (by first | (with_reducible assumption) | assumption)
     have q4 : (x2_1 : Int) < ((x0_1.length : Int) : Int) := of_decide_eq_true (by first | (with_reducible assumption) | assumption)
     obtain ⟨go4, co4, eo4, gb4, gl4, cl4, HG4⟩ := Kd.R_form HO_0.out (by omega)
     (first | cases eo4 | (injection eo4 with ea_ en_ ec_; (first | subst ea_ | (injection ea_ with ea_; subst ea_)); subst ec_; clear en_))
     have GB4 := zK gb4
     have GG4 := zK HG4
     clear gb4 gl4 HG4
     have HMgo4 := zK (show (P0_ go4 ∨ w.heap.size ≤ go4) from (HO_0.out.1 _ rfl))
     (first | simp only [add_plain] at hx101_0 | skip)
     obtain ⟨hx4_0, hf4_0⟩ := Kd.R_celln 0 HO_0.out (x2_1 : Int) p4 q4
     replace p4 := eq_true p4
     replace q4 := eq_true q4
     have HP6 := Kd.R_putg HO_0.out (x2_1 : Int) (wrap64 ((-9) - (Int.tmod (rd x0_1 x2_1) 1000)))
     go_wp2_with (first | ((with_reducible refine gate_store (t := 3) (p := 17) rfl ?_); refine store_event (t := 3) (p := 17) (v := ?vo_w7) (w1 := (wr.setCell ⟨go4, (x2_1 : Int).toNat, none⟩ (.int .i64 (wrap64 ((-9) - (Int.tmod (rd x0_1 x2_1) 1000)))))) ?hg ?ho ?hn ?hr ?_; (case ho => rfl); (case hg => rfl); (case hn => rfl); (case hr => first | (go_simp; done) | (go_simp; rfl)); intro w7 hw; have hg : wr.grownBy w7 (some go4) := (by rw [hw]; exact HP6.2); have hp_ : Kd.R (Kd.int .i64) 3 w7 w0.heap.size (fun k_ => (P0_ k_ ∨ w.heap.size ≤ k_)) (.slice (some ⟨go4, 0, none⟩) x0_1.length co5) y102 := (by rw [hw, Ny102.out]; exact HP6.1); clear HP6; have n0_ := zK (hp_); have n1_ := zK ((by rw [hw]; exact zL (HB.out) GB4.out : Below w0.heap.size w0 w7)); have n2_ := zK (Kept.of_grown (S := (fun k_ => P0_ k_)) hg (by repeat (first | (with_reducible first | exact HK.out | apply Kept.alloc | apply Kept.drewN | apply Kept.drew) | exact HK.out)) (fun k_ e_ => (HO_0.out.1 k_ e_))); clear HO_0; clear HB; clear HK; have HO_0 := n0_; have HB := n1_; have HK := n2_; clear n0_ n1_ n2_; clear hg hw hp_))
     go_roundg k1
     case measure => have := HK1.out; omega
     case rel => exact ⟨(y102), (wrap64 (x2_1 + 1)), zz, H', ⟨by have := HK1.out; omega⟩, ⟨by (with_reducible repeat (first | apply zA | apply zB | apply zC)); exact HO_0.out⟩, ⟨by repeat (first | (with_reducible first | exact HK.out | apply Kept.alloc | apply Kept.drewN | apply Kept.drew) | exact HK.out)⟩, ⟨by repeat (first | (with_reducible first | exact HB.out | apply zG | apply zH | apply zI) | exact HB.out)⟩⟩
    ·rw [if_neg c3] at H
     exact absurd H (by simp)
   ·rw [if_neg c2] at H
    have c2b0 : decide (x2_1 < (x0_1.length : Int)) = false := decide_eq_false c2
    clear c2
    obtain rfl := Option.some.inj H
    obtain ⟨Ao8, co8, eo8⟩ := yE HO_0.out
    subst eo8
    go_wp2
    first | go_end0 | ((try simp only [Exit.inBlock, Exit.then]); refine bodyPost_ret (results_none rfl _ _ _) rfl ?_)
    exact ⟨ze, by (with_reducible repeat (first | apply zA | apply zB | apply zC)); exact HO_0.out, by repeat (first | (with_reducible first | exact HB.out | apply zG | apply zH | apply zI) | exact HB.out), by repeat (first | (with_reducible first | exact HK.out | apply Kept.alloc | apply Kept.drewN | apply Kept.drew) | exact HK.out)⟩
def tollbarlaw0_SpoilTree.l0 : Nat → Int → List (S64) → Int → List Int → Option ((List (S64)) × List Int)
 | 0, _, _, _, _ => none
 | k + 1, x2, xqa, xqb, xqc => if x2 < (xqa.length : Int) then (if 0 ≤ x2 then (tollbarlaw0_SpoilTree.l0 k (wrap64 (x2 + 1)) (xqa.set (x2 : Int).toNat (⟨(⟨(⟨0, 0⟩ : S27), 0⟩ : S50), (-9), (-9), 0, 0⟩ : S64)) xqb xqc) else (none)) else (some (xqa, xqc))
def tollbarlaw0_SpoilTree.f (k : Nat) (l0_0 : List (S64)) (a0_1 : Int) (l0_2 : List Int) : Option ((List (S64)) × List Int) := (tollbarlaw0_SpoilInts.f k l0_2).bind fun t104 => (tollbarlaw0_SpoilTree.l0 k 0 l0_0 a0_1 t104)
set_option maxHeartbeats 8000000 in
set_option maxRecDepth 100000 in
theorem tollbarlaw0_SpoilTree.calls (k : Nat) (P0_0_ : Nat → Prop) (u9000_ : Value) (l0_0 : List (S64)) (a0_1 : Int) (P0_2_ : Nat → Prop) (u9001_ : Value) (l0_2 : List Int) (r1 : List (S64)) (r2 : List Int) (w0 w : World) (hB : Below w0.heap.size w0 w) (ho0_0 : Kd.R k64 64 w w0.heap.size P0_0_ u9000_ l0_0) (ho0_2 : Kd.R (Kd.int .i64) 3 w w0.heap.size P0_2_ u9001_ l0_2) (h : tollbarlaw0_SpoilTree.f k l0_0 a0_1 l0_2 = some (r1, r2)) :
  Calls Try.prog 29 #[.agg #[u9000_, .int .i64 a0_1, u9001_]] w fun e w' => e = .returned (.tuple #[]) ∧ Kd.R k64 64 w' w0.heap.size (fun k_ => ((P0_0_ k_ ∨ P0_2_ k_) ∨ w.heap.size ≤ k_)) u9000_ r1 ∧ Kd.R (Kd.int .i64) 3 w' w0.heap.size (fun k_ => ((P0_0_ k_ ∨ P0_2_ k_) ∨ w.heap.size ≤ k_)) u9001_ r2 ∧ Below w0.heap.size w0 w' ∧ Kept w w' (fun k_ => P0_0_ k_ ∨ P0_2_ k_) := by
 have hu25 := Try.underlying25
 have hu64 := Try.underlying64
 have HO0_0 := zK (show Kd.R k64 64 w w0.heap.size (fun k_ => ((P0_0_ k_ ∨ P0_2_ k_) ∨ w.heap.size ≤ k_)) u9000_ l0_0 from Kd.R_mono ho0_0 (fun k_ hk => (.inl (.inl hk))))
 have HO0_2 := zK (show Kd.R (Kd.int .i64) 3 w w0.heap.size (fun k_ => ((P0_0_ k_ ∨ P0_2_ k_) ∨ w.heap.size ≤ k_)) u9001_ l0_2 from Kd.R_mono ho0_2 (fun k_ hk => (.inl (.inr hk))))
 have HK := zK (Kept.refl w (fun k_ => P0_0_ k_ ∨ P0_2_ k_))
 have HW0 := zK hB.size
 have HB := zK hB
 clear hB
 have H : ((tollbarlaw0_SpoilInts.f k l0_2).bind fun t104 => (tollbarlaw0_SpoilTree.l0 k 0 l0_0 a0_1 t104)) = some (r1, r2) := h
 clear h
 replace H := yH.mp H
 obtain ⟨t104, A20, H⟩ := H
 replace H : (tollbarlaw0_SpoilTree.l0 k 0 l0_0 a0_1 t104) = some (r1, r2) := H
 have A2 := zK A20
 clear A20
 have H' := zK H
 clear H
 obtain ⟨Ao3, co3, eo3⟩ := yE HO0_0.out
 subst eo3
 obtain ⟨Ao4, co4, eo4⟩ := yE HO0_2.out
 subst eo4
 go_enter Try.func29, Try.ntmps29
 go_wp2_with (first | ((with_reducible refine gate_dst (N := 1) rfl ?_); refine box_event ?hg (N := 1) ?hd (cs := #[.slice Ao3 l0_0.length co3, .int .i64 a0_1, .slice Ao4 l0_2.length co4]) (t := 25) ?hr ?_; (case hd => rfl); (case hg => rfl); (case hr => first | (go_simp; done) | (go_simp; rfl)); intro gb103 hg w5 hbox hb; have n0_ := zK (zO (zr HO0_0.out) hb); have n1_ := zK (zO (zr HO0_2.out) hb); have n2_ := zK (Kept.below (S := (fun k_ => P0_0_ k_ ∨ P0_2_ k_)) (by repeat (first | (with_reducible first | exact HK.out | apply Kept.alloc | apply Kept.drewN | apply Kept.drew) | exact HK.out)) hb); have n3_ := zK (yF (zl HB.out) hb); have n4_ := zK (hbox); have n5_ := zK ((by rw [hg]; exact (by first | exact HK.out.1 | exact (show Kept w _ (fun k_ => P0_0_ k_ ∨ P0_2_ k_) from by repeat (first | (with_reducible first | exact HK.out | apply Kept.alloc | apply Kept.drewN | apply Kept.drew) | exact HK.out)).1) : w.heap.size ≤ gb103)); have n6_ := zK ((by rw [hg]; exact (yG (zl HB.out)) : w0.heap.size ≤ gb103)); clear HO0_0; clear HO0_2; clear HK; clear HB; have HO0_0 := n0_; have HO0_2 := n1_; have HK := n2_; have HB := n3_; have BK103 := n4_; have GW103 := n5_; have GE103 := n6_; clear n0_ n1_ n2_ n3_ n4_ n5_ n6_; clear hb hbox hg; have hcz6_0 : w5.cell? ⟨gb103, 0, none⟩ = some (.slice Ao3 l0_0.length co3) := (zQ BK103.out 0).trans rfl; have hcz6_1 : w5.cell? ⟨gb103, 1, none⟩ = some (.int .i64 a0_1) := (zQ BK103.out 1).trans rfl; have hcz6_2 : w5.cell? ⟨gb103, 2, none⟩ = some (.slice Ao4 l0_2.length co4) := (zQ BK103.out 2).trans rfl; have hfz6_0 := zR BK103.out 0; have hfz6_1 := zR BK103.out 1; have hfz6_2 := zR BK103.out 2) | ((with_reducible refine gate_callee (f := 61) rfl ?_); refine goesL_ (some 5) rfl rfl Try.func61 (by kernel_rfl) rfl #[.slice Ao4 l0_2.length co4] rfl zt ?_; (with_reducible refine (tollbarlaw0_SpoilInts.calls k (fun k_ => some k_ = (.slice Ao4 l0_2.length co4 : Value).ownBlock) (.slice Ao4 l0_2.length co4) l0_2 t104 w0 _ ?side1 ?side2 A2.out).mono ?_); (case side1 => repeat (first | (with_reducible first | exact HB.out | apply zG | apply zH | apply zI | refine zL ?_ GE103.out) | exact HB.out)); (case side2 => exact Kd.R_tight rfl HO0_2.out); rintro e w7 ⟨rfl, hy0, hb, hkp⟩; refine ⟨_, rfl, ?_⟩; have n0_ := zK (Kd.R_mono (ok' := fun k_ => ((P0_0_ k_ ∨ P0_2_ k_) ∨ w.heap.size ≤ k_)) (Kd.R_keptB ((Kd.R_apart' HO0_0.out (Kd.R_typed HO0_2.out) (by decide))) hkp (fun k_ hk_ hs_ => (hk_.2) hs_)) (fun k_ hk_ => hk_.1.1)); have n1_ := zK (Kd.R_reok rfl hy0 (fun k_ e_ => HO0_2.out.1 k_ e_)); have n2_ := zK (blk_kept (zb BK103.out) hkp (fun hs_ => (fun e_ => (Kd.R_ne HO0_2.out BK103.out (by decide)) e_) hs_)); have n3_ := zK (Kept.then_ (S := (fun k_ => P0_0_ k_ ∨ P0_2_ k_)) (by repeat (first | (with_reducible first | exact HK.out | apply Kept.alloc | apply Kept.drewN | apply Kept.drew | refine Kept.setCell ?_ (.inr GW103.out) _) | exact HK.out)) hkp (fun k_ hs_ => (fun e_ => (HO0_2.out.1 k_ e_.symm)) hs_)); have n4_ := zK (hb); clear HO0_0; clear HO0_2; clear BK103; clear HK; clear HB; have HO0_0 := n0_; have HO0_2 := n1_; have BK103 := n2_; have HK := n3_; have HB := n4_; clear n0_ n1_ n2_ n3_ n4_; (try clear hb); (try clear hkp); (try clear hy0)))
 go_loopg [2] k (fun kq v2 w' => ∃ (x2_1 : Int) (xqa_1 : List (S64)), v2 = .int .i64 x2_1 ∧ Aside0 (tollbarlaw0_SpoilTree.l0 kq x2_1 xqa_1 a0_1 t104 = some (r1, r2)) ∧ Aside0 (kq ≤ k) ∧ Aside0 (Kd.R k64 64 w' w0.heap.size (fun k_ => ((P0_0_ k_ ∨ P0_2_ k_) ∨ w.heap.size ≤ k_)) (.slice Ao3 l0_0.length co3) xqa_1) ∧ Aside0 (Kd.R (Kd.int .i64) 3 w' w0.heap.size (fun k_ => ((P0_0_ k_ ∨ P0_2_ k_) ∨ w.heap.size ≤ k_)) (.slice Ao4 l0_2.length co4) t104) ∧ Aside0 (w'.heap[gb103]? = some (.cells #[(.slice Ao3 l0_0.length co3), .int .i64 a0_1, (.slice Ao4 l0_2.length co4)] 25 (0, 0))) ∧ Aside0 (Kept w w' (fun k_ => P0_0_ k_ ∨ P0_2_ k_)) ∧ Aside0 (Below w0.heap.size w0 w'))
 case atStart => exact ⟨(0), (l0_0), zz, H', ⟨Nat.le_refl _⟩, ⟨by (with_reducible repeat (first | apply zA | apply zB | apply zC)); exact HO0_0.out⟩, ⟨by (with_reducible repeat (first | apply zA | apply zB | apply zC)); exact HO0_2.out⟩, ⟨by (with_reducible repeat (first | refine zD ?_ _ | refine zE ?_ | refine zF ?_ _)); exact BK103.out⟩, ⟨by repeat (first | (with_reducible first | exact HK.out | apply Kept.alloc | apply Kept.drewN | apply Kept.drew | refine Kept.setCell ?_ (.inr GW103.out) _) | exact HK.out)⟩, ⟨by repeat (first | (with_reducible first | exact HB.out | apply zG | apply zH | apply zI | refine zL ?_ GE103.out) | exact HB.out)⟩⟩
 case round =>
  clear H'
  try clear c2
  try clear p2
  try clear c6
  try clear hcz6_0
  try clear hcz6_1
  try clear hcz6_2
  try clear hfz6_0
  try clear hfz6_1
  try clear hfz6_2
  obtain ⟨x2_1, xqa_1, rfl, HA, HK1, HO_qa, HO_qc, BK103, HK, HB⟩ := hrel
  have hlqa_1 := (zX HO_qa.out).1
  rw [hlqa_1] at HO_qa
  (try simp only [hlqa_1])
  (try simp only [hlqa_1] at BK103)
  (try simp only [hlqa_1] at HO_qc)
  have hlqc_1 := (zX HO_qc.out).1
  rw [hlqc_1] at HO_qc
  (try simp only [hlqc_1])
  (try simp only [hlqc_1] at BK103)
  (try simp only [hlqc_1] at HO_qa)
  cases gk with
  | zero => exact absurd HA.out (by simp [tollbarlaw0_SpoilTree.l0])
  | succ k1 =>
   have H := HA.out
   clear HA
   simp only [tollbarlaw0_SpoilTree.l0] at H
   by_cases c8 : x2_1 < (xqa_1.length : Int)
   ·rw [if_pos c8] at H
    have c8b0 : decide (x2_1 < (xqa_1.length : Int)) = true := decide_eq_true c8
    clear c8
    by_cases c9 : 0 ≤ x2_1
    ·rw [if_pos c9] at H
     have c9b0 : decide (0 ≤ x2_1) = true := decide_eq_true c9
     clear c9
     obtain ⟨y105, hy105⟩ : ∃ y_ : List (S64), y_ = (xqa_1.set (x2_1 : Int).toNat (⟨(⟨(⟨0, 0⟩ : S27), 0⟩ : S50), (-9), (-9), 0, 0⟩ : S64)) := ⟨_, rfl⟩
     replace H : (tollbarlaw0_SpoilTree.l0 k1 (wrap64 (x2_1 + 1)) y105 a0_1 t104) = some (r1, r2) := by first | (rw [hy105]; with_reducible exact H) | (have H2_ := (Option.bind_some _ _).symm.trans H; rw [hy105]; with_reducible exact H2_) | (have H2_ := (Option.bind_some _ _).symm.trans H; with_reducible exact H2_) | with_reducible exact H | (rw [hy105]; exact H) | exact H
     have Ny105 := zK hy105
     clear hy105
     have H' := zK H
     clear H
     have hcz11_0 : wr.cell? ⟨gb103, 0, none⟩ = some (.slice Ao3 xqa_1.length co3) := (zQ BK103.out 0).trans rfl
     have hcz11_1 : wr.cell? ⟨gb103, 1, none⟩ = some (.int .i64 a0_1) := (zQ BK103.out 1).trans rfl
     have hcz11_2 : wr.cell? ⟨gb103, 2, none⟩ = some (.slice Ao4 t104.length co4) := (zQ BK103.out 2).trans rfl
     have hfz11_0 := zR BK103.out 0
     have hfz11_1 := zR BK103.out 1
     have hfz11_2 := zR BK103.out 2
     have p10 : 0 ≤ (x2_1 : Int) := of_decide_eq_true (by first | (with_reducible assumption) | assumption)
     have q10 : (x2_1 : Int) < ((xqa_1.length : Int) : Int) := of_decide_eq_true (by first | (with_reducible assumption) | assumption)
     obtain ⟨go10, co10, eo10, gb10, gl10, cl10, HG10⟩ := Kd.R_form HO_qa.out (by omega)
     (first | cases eo10 | (injection eo10 with ea_ en_ ec_; (first | subst ea_ | (injection ea_ with ea_; subst ea_)); subst ec_; clear en_))
     have GB10 := zK gb10
     have GG10 := zK HG10
     clear gb10 gl10 HG10
     have HMgo10 := zK (show ((P0_0_ go10 ∨ P0_2_ go10) ∨ w.heap.size ≤ go10) from (HO_qa.out.1 _ rfl))
     obtain ⟨ce10, hcl10, hM10, hcc10, hfr10⟩ := Kd.R_elem HO_qa.out z64 (x2_1 : Int) p10 q10
     obtain rfl := k64_openM hM10
     have hx10_0 : wr.cell? ⟨go10, (x2_1 : Int).toNat * 7, none⟩ = some (.int .i64 ((rd_T64 xqa_1 x2_1).f0.f0.f0)) := hcc10 0 _ rfl
     have hx10_1 : wr.cell? ⟨go10, (x2_1 : Int).toNat * 7 + 1, none⟩ = some (.int .i64 ((rd_T64 xqa_1 x2_1).f0.f0.f1)) := hcc10 1 _ rfl
     have hx10_2 : wr.cell? ⟨go10, (x2_1 : Int).toNat * 7 + 2, none⟩ = some (.int .i64 ((rd_T64 xqa_1 x2_1).f0.f1)) := hcc10 2 _ rfl
     have hx10_3 : wr.cell? ⟨go10, (x2_1 : Int).toNat * 7 + 3, none⟩ = some (.int .i64 ((rd_T64 xqa_1 x2_1).f1)) := hcc10 3 _ rfl
     have hx10_4 : wr.cell? ⟨go10, (x2_1 : Int).toNat * 7 + 4, none⟩ = some (.int .i64 ((rd_T64 xqa_1 x2_1).f2)) := hcc10 4 _ rfl
     have hx10_5 : wr.cell? ⟨go10, (x2_1 : Int).toNat * 7 + 5, none⟩ = some (.int .i64 ((rd_T64 xqa_1 x2_1).f3)) := hcc10 5 _ rfl
     have hx10_6 : wr.cell? ⟨go10, (x2_1 : Int).toNat * 7 + 6, none⟩ = some (.int .i64 ((rd_T64 xqa_1 x2_1).f4)) := hcc10 6 _ rfl
     have hf10_0 : wr.frozen? ⟨go10, (x2_1 : Int).toNat * 7, none⟩ = false := hfr10 0
     have hf10_1 : wr.frozen? ⟨go10, (x2_1 : Int).toNat * 7 + 1, none⟩ = false := hfr10 1
     have hf10_2 : wr.frozen? ⟨go10, (x2_1 : Int).toNat * 7 + 2, none⟩ = false := hfr10 2
     have hf10_3 : wr.frozen? ⟨go10, (x2_1 : Int).toNat * 7 + 3, none⟩ = false := hfr10 3
     have hf10_4 : wr.frozen? ⟨go10, (x2_1 : Int).toNat * 7 + 4, none⟩ = false := hfr10 4
     have hf10_5 : wr.frozen? ⟨go10, (x2_1 : Int).toNat * 7 + 5, none⟩ = false := hfr10 5
     have hf10_6 : wr.frozen? ⟨go10, (x2_1 : Int).toNat * 7 + 6, none⟩ = false := hfr10 6
     clear hcl10 hcc10 hfr10 hM10
     replace p10 := eq_true p10
     replace q10 := eq_true q10
     have HX12 := zK (show Kd.R k64 64 wr w0.heap.size (fun k_ => ((P0_0_ k_ ∨ P0_2_ k_) ∨ w.heap.size ≤ k_)) (.slice (some ⟨go10, 0, none⟩) xqa_1.length co3) xqa_1 from (zr HO_qa.out))
     obtain ⟨ce12, hcl12, hM12, hcc12, hfr12⟩ := Kd.R_elem HX12.out z64 (x2_1 : Int) (of_decide_eq_true (by first | (with_reducible assumption) | assumption)) (by have h_ : (x2_1 : Int) < ((xqa_1.length : Int) : Int) := of_decide_eq_true (by first | (with_reducible assumption) | assumption); first | exact h_ | (have e_ := (zX HO_qa.out).1; omega) | simpa using h_)
     obtain rfl := k64_openM hM12
     have HP12 := Kd.R_seg HX12.out (x2_1 : Int) (of_decide_eq_true (by first | (with_reducible assumption) | assumption)) (by have h_ : (x2_1 : Int) < ((xqa_1.length : Int) : Int) := of_decide_eq_true (by first | (with_reducible assumption) | assumption); first | exact h_ | (have e_ := (zX HO_qa.out).1; omega) | simpa using h_) (seg := [.int .i64 0, .int .i64 0, .int .i64 0, .int .i64 (-9), .int .i64 (-9), .int .i64 0, .int .i64 0]) (j := 0) hcl12 hcc12 (show 7 ≤ 7 from by decide) (x' := (⟨(⟨(⟨0, 0⟩ : S27), 0⟩ : S50), (-9), (-9), 0, 0⟩ : S64)) (k64_mkM _ _ _ (⟨(⟨(⟨0, 0⟩ : S27), 0⟩ : S50), (-9), (-9), 0, 0⟩ : S64) ) (fun _ hk => hk)
     have hx12_0 := hcc12 0 _ rfl
     (try simp only [show (k64).sz = 7 from rfl, Nat.mul_one, Nat.add_zero] at hx12_0)
     have hf12_0 := hfr12 0
     (try simp only [show (k64).sz = 7 from rfl, Nat.mul_one, Nat.add_zero] at hf12_0)
     have hx12_1 := hcc12 1 _ rfl
     (try simp only [show (k64).sz = 7 from rfl, Nat.mul_one, Nat.add_zero] at hx12_1)
     have hf12_1 := hfr12 1
     (try simp only [show (k64).sz = 7 from rfl, Nat.mul_one, Nat.add_zero] at hf12_1)
     have hx12_2 := hcc12 2 _ rfl
     (try simp only [show (k64).sz = 7 from rfl, Nat.mul_one, Nat.add_zero] at hx12_2)
     have hf12_2 := hfr12 2
     (try simp only [show (k64).sz = 7 from rfl, Nat.mul_one, Nat.add_zero] at hf12_2)
     have hx12_3 := hcc12 3 _ rfl
     (try simp only [show (k64).sz = 7 from rfl, Nat.mul_one, Nat.add_zero] at hx12_3)
     have hf12_3 := hfr12 3
     (try simp only [show (k64).sz = 7 from rfl, Nat.mul_one, Nat.add_zero] at hf12_3)
     have hx12_4 := hcc12 4 _ rfl
     (try simp only [show (k64).sz = 7 from rfl, Nat.mul_one, Nat.add_zero] at hx12_4)
     have hf12_4 := hfr12 4
     (try simp only [show (k64).sz = 7 from rfl, Nat.mul_one, Nat.add_zero] at hf12_4)
     have hx12_5 := hcc12 5 _ rfl
     (try simp only [show (k64).sz = 7 from rfl, Nat.mul_one, Nat.add_zero] at hx12_5)
     have hf12_5 := hfr12 5
     (try simp only [show (k64).sz = 7 from rfl, Nat.mul_one, Nat.add_zero] at hf12_5)
     have hx12_6 := hcc12 6 _ rfl
     (try simp only [show (k64).sz = 7 from rfl, Nat.mul_one, Nat.add_zero] at hx12_6)
     have hf12_6 := hfr12 6
     (try simp only [show (k64).sz = 7 from rfl, Nat.mul_one, Nat.add_zero] at hf12_6)
     clear hcl12 hcc12 hfr12 hM12
     go_wp2_with (first | ((with_reducible refine gate_store (t := 64) (p := 17) rfl ?_); refine store_event (t := 64) (p := 17) (v := ?vo_w13) (w1 := (((((((wr.setCell ⟨go10, (x2_1 : Int).toNat * 7, none⟩ (.int .i64 0)).setCell ⟨go10, (x2_1 : Int).toNat * 7 + 1, none⟩ (.int .i64 0)).setCell ⟨go10, (x2_1 : Int).toNat * 7 + 2, none⟩ (.int .i64 0)).setCell ⟨go10, (x2_1 : Int).toNat * 7 + 3, none⟩ (.int .i64 (-9))).setCell ⟨go10, (x2_1 : Int).toNat * 7 + 4, none⟩ (.int .i64 (-9))).setCell ⟨go10, (x2_1 : Int).toNat * 7 + 5, none⟩ (.int .i64 0)).setCell ⟨go10, (x2_1 : Int).toNat * 7 + 6, none⟩ (.int .i64 0))) ?hg ?ho ?hn ?hr ?_; (case ho => rfl); (case hg => rfl); (case hn => rfl); (case hr => first | (go_simp; done) | (go_simp; rfl)); intro w13 hw; have hg : wr.grownBy w13 (some go10) := (by rw [hw]; exact HP12.2); have hp_ : Kd.R k64 64 w13 w0.heap.size (fun k_ => ((P0_0_ k_ ∨ P0_2_ k_) ∨ w.heap.size ≤ k_)) (.slice (some ⟨go10, 0, none⟩) xqa_1.length co3) y105 := (by rw [hw, Ny105.out]; exact HP12.1); clear HP12; have n0_ := zK (hp_); have n1_ := zK (Kd.R_over' (v := (.slice (some ⟨go10, 0, none⟩) xqa_1.length co3)) (zr HO_qc.out) (Kd.R_typed HO_qa.out) (by decide) hg); have n2_ := zK (blk_grown (g := gb103) (o := .cells #[.slice (some ⟨go10, 0, none⟩) xqa_1.length co3, .int .i64 a0_1, .slice Ao4 t104.length co4] 25 (0, 0)) (zb BK103.out) hg (Kd.R_ne HO_qa.out BK103.out (by decide))); have n3_ := zK ((by rw [hw]; exact zL (zL (zL (zL (zL (zL (zL (HB.out) GB10.out) GB10.out) GB10.out) GB10.out) GB10.out) GB10.out) GB10.out : Below w0.heap.size w0 w13)); have n4_ := zK (Kept.of_grown (S := (fun k_ => P0_0_ k_ ∨ P0_2_ k_)) hg (by repeat (first | (with_reducible first | exact HK.out | apply Kept.alloc | apply Kept.drewN | apply Kept.drew | refine Kept.setCell ?_ (.inr GW103.out) _) | exact HK.out)) (fun k_ e_ => (HO_qa.out.1 k_ e_))); clear HO_qa; clear HO_qc; clear BK103; clear HB; clear HK; have HO_qa := n0_; have HO_qc := n1_; have BK103 := n2_; have HB := n3_; have HK := n4_; clear n0_ n1_ n2_ n3_ n4_; clear hg hw hp_))
     (try simp only [← hlqa_1, ← hlqc_1])
     go_roundg k1
     case measure => have := HK1.out; omega
     case rel => exact ⟨(wrap64 (x2_1 + 1)), (y105), zz, H', ⟨by have := HK1.out; omega⟩, ⟨by (try simp only [hlqa_1]); (try simp only [hlqc_1]); (with_reducible repeat (first | apply zA | apply zB | apply zC)); exact HO_qa.out⟩, ⟨by (try simp only [hlqa_1]); (try simp only [hlqc_1]); (with_reducible repeat (first | apply zA | apply zB | apply zC)); exact HO_qc.out⟩, ⟨by (try simp only [hlqa_1]); (try simp only [hlqc_1]); (with_reducible repeat (first | refine zD ?_ _ | refine zE ?_ | refine zF ?_ _)); exact BK103.out⟩, ⟨by repeat (first | (with_reducible first | exact HK.out | apply Kept.alloc | apply Kept.drewN | apply Kept.drew | refine Kept.setCell ?_ (.inr GW103.out) _) | exact HK.out)⟩, ⟨by repeat (first | (with_reducible first | exact HB.out | apply zG | apply zH | apply zI | refine zL ?_ GE103.out) | exact HB.out)⟩⟩
    ·rw [if_neg c9] at H
     exact absurd H (by simp)
   ·rw [if_neg c8] at H
    have c8b0 : decide (x2_1 < (xqa_1.length : Int)) = false := decide_eq_false c8
    clear c8
    simp only [Option.some.injEq, Prod.mk.injEq] at H
    obtain ⟨rfl, rfl⟩ := H
    have hcz14_0 : wr.cell? ⟨gb103, 0, none⟩ = some (.slice Ao3 xqa_1.length co3) := (zQ BK103.out 0).trans rfl
    have hcz14_1 : wr.cell? ⟨gb103, 1, none⟩ = some (.int .i64 a0_1) := (zQ BK103.out 1).trans rfl
    have hcz14_2 : wr.cell? ⟨gb103, 2, none⟩ = some (.slice Ao4 t104.length co4) := (zQ BK103.out 2).trans rfl
    have hfz14_0 := zR BK103.out 0
    have hfz14_1 := zR BK103.out 1
    have hfz14_2 := zR BK103.out 2
    go_wp2
    first | go_end0 | ((try simp only [Exit.inBlock, Exit.then]); refine bodyPost_ret (results_none rfl _ _ _) rfl ?_)
    exact ⟨ze, (by first | exact (zr HO_qa.out) | (simp only [hlqa_1, hlqc_1]; exact (zr HO_qa.out))), (by first | exact (zr HO_qc.out) | (simp only [hlqa_1, hlqc_1]; exact (zr HO_qc.out))), by repeat (first | (with_reducible first | exact HB.out | apply zG | apply zH | apply zI | refine zL ?_ GE103.out) | exact HB.out), by repeat (first | (with_reducible first | exact HK.out | apply Kept.alloc | apply Kept.drewN | apply Kept.drew | refine Kept.setCell ?_ (.inr GW103.out) _) | exact HK.out)⟩
end Go.Proofs.Ytgkjpffbgnljeaa.QL
-- written by this session's program mprint.py: functions of the Go program, and their contracts
namespace Go.Proofs.Ytgkjpffbgnljeaa.QL
open Go.RowKit Go.Proofs.Ytgkjpffbgnljeaa.Au Go.Proofs.Ytgkjpffbgnljeaa.QT Go.Proofs.Ytgkjpffbgnljeaa.Man Go.Proofs.Ytgkjpffbgnljeaa.QA Go.Proofs.YtgkjpffbgnljeaaW.PrintWords Go.Proofs.YtgkjpffbgnljeaaW.PrintLast Go.Proofs.YtgkjpffbgnljeaaW.PrintMore
attribute [local go_sem] max2_int min2_int max_two min_two max_three min_three max_four min_four
set_option linter.unusedVariables false
set_option linter.unusedSimpArgs false
mutual
noncomputable def tollbarlaw17_TreeInserts.j0 : Nat → Int → Bool → List (S64) → Int → List Int → Int → Int → Int → List (S64) → Int → List Int → List (S64) → Int → List Int → Option (Bool)
 | 0, _, _, _, _, _, _, _, _, _, _, _, _, _, _ => none
 | k + 1, x8, x33, xqa, xqb, xqc, xqd, xqe, xqf, xqg, xqh, xqi, xqj, xqk, xql => if x33 = true then (some false) else (if x8 = 0 then ((tollbarref17_All.f k xqa xqb xqc).bind fun bt129 => ((tollbarref17_All.f k xqj xqk xql).bind fun bt133 => (if bt133.2 = true then ((tollbarref17_With.f k bt129.1 xqd xqe xqf).bind fun t137 => ((tollbarlaw0_SameItems.f k bt133.1 t137).bind fun t140 => (tollbarlaw17_TreeInserts.j1 k (!t140) xqa xqb xqc xqg xqh xqi xqj xqk xql))) else (tollbarlaw17_TreeInserts.j1 k true xqa xqb xqc xqg xqh xqi xqj xqk xql)))) else ((tollbarlaw17_awake.f).bind fun t128 => (if t128 = true then (if (xqj.length : Int) = 0 then (if (xql.length : Int) = 0 then (some (xqk == 0)) else (some false)) else (some false)) else (some false))))
noncomputable def tollbarlaw17_TreeInserts.j1 : Nat → Bool → List (S64) → Int → List Int → List (S64) → Int → List Int → List (S64) → Int → List Int → Option (Bool)
 | 0, _, _, _, _, _, _, _, _, _, _ => none
 | k + 1, x73, xqa, xqb, xqc, xqg, xqh, xqi, xqj, xqk, xql => if x73 = true then (some false) else ((tollbarlaw0_SpoilTree.f k xqj xqk xql).bind fun bt141 => ((tollbarlaw17_awake.f).bind fun t143 => (if t143 = true then ((tollbarlaw0_SameTree.f k xqg xqh xqi xqa xqb xqc).bind fun t144 => (some t144)) else (some false))))
end
noncomputable def tollbarlaw17_TreeInserts.f (k : Nat) (l0_0 : List (S64)) (a0_1 : Int) (l0_2 : List Int) (a1_0 : Int) (a1_1 : Int) (a1_2 : Int) : Option (Bool) := (tollbarlaw0_CopyTree.f l0_0 a0_1 l0_2).bind fun bt108 => ((tree_Insert.f bt108.1 bt108.2.1 bt108.2.2 a1_0 a1_1 a1_2).bind fun bt116 => ((tollbarref17_InsertError.f k l0_0 a0_1 l0_2 a1_0 a1_1 a1_2).bind fun t125 => ((tollbarlaw0_Num.f bt116.2.2.2).bind fun t126 => (if t126 = t125 then ((tollbarlaw0_SameTree.f k bt108.1 bt108.2.1 bt108.2.2 l0_0 a0_1 l0_2).bind fun t127 => (tollbarlaw17_TreeInserts.j0 k t125 (!t127) l0_0 a0_1 l0_2 a1_0 a1_1 a1_2 bt108.1 bt108.2.1 bt108.2.2 bt116.1 bt116.2.1 bt116.2.2.1)) else (tollbarlaw17_TreeInserts.j0 k t125 true l0_0 a0_1 l0_2 a1_0 a1_1 a1_2 bt108.1 bt108.2.1 bt108.2.2 bt116.1 bt116.2.1 bt116.2.2.1)))))
set_option maxHeartbeats 8000000 in
set_option maxRecDepth 100000 in
theorem tollbarlaw17_TreeInserts.calls (k : Nat) (A0_0 : Option Addr) (c0_0 : Nat) (l0_0 : List (S64)) (a0_1 : Int) (A0_2 : Option Addr) (c0_2 : Nat) (l0_2 : List Int) (a1_0 : Int) (a1_1 : Int) (a1_2 : Int) (r : Bool) (w : World) (hr0_0 : Kd.C k64 w A0_0 l0_0.length l0_0) (hc0_0 : l0_0.length ≤ c0_0) (hr0_2 : Kd.C (Kd.int .i64) w A0_2 l0_2.length l0_2) (hc0_2 : l0_2.length ≤ c0_2) (h : tollbarlaw17_TreeInserts.f k l0_0 a0_1 l0_2 a1_0 a1_1 a1_2 = some r) :
  Calls Try.prog 4 #[.agg #[.slice A0_0 l0_0.length c0_0, .int .i64 a0_1, .slice A0_2 l0_2.length c0_2], .agg #[.int .i64 a1_0, .int .i64 a1_1, .int .i64 a1_2]] w fun e w' => e = .returned (.bool r) ∧ Below w.heap.size w w' := by
 have hu25 := Try.underlying25
 have hu50 := Try.underlying50
 have HR0_0 := zK hr0_0
 have HC0_0 := zK hc0_0
 clear hr0_0 hc0_0
 have HR0_2 := zK hr0_2
 have HC0_2 := zK hc0_2
 clear hr0_2 hc0_2
 have HB := zK (Below.refl w.heap.size w)
 have H : ((tollbarlaw0_CopyTree.f l0_0 a0_1 l0_2).bind fun bt108 => ((tree_Insert.f bt108.1 bt108.2.1 bt108.2.2 a1_0 a1_1 a1_2).bind fun bt116 => ((tollbarref17_InsertError.f k l0_0 a0_1 l0_2 a1_0 a1_1 a1_2).bind fun t125 => ((tollbarlaw0_Num.f bt116.2.2.2).bind fun t126 => (if t126 = t125 then ((tollbarlaw0_SameTree.f k bt108.1 bt108.2.1 bt108.2.2 l0_0 a0_1 l0_2).bind fun t127 => (tollbarlaw17_TreeInserts.j0 k t125 (!t127) l0_0 a0_1 l0_2 a1_0 a1_1 a1_2 bt108.1 bt108.2.1 bt108.2.2 bt116.1 bt116.2.1 bt116.2.2.1)) else (tollbarlaw17_TreeInserts.j0 k t125 true l0_0 a0_1 l0_2 a1_0 a1_1 a1_2 bt108.1 bt108.2.1 bt108.2.2 bt116.1 bt116.2.1 bt116.2.2.1)))))) = some r := h
 clear h
 replace H := yH.mp H
 obtain ⟨⟨t108, t111, t112⟩, A30, H⟩ := H
 replace H : ((tree_Insert.f t108 t111 t112 a1_0 a1_1 a1_2).bind fun bt116 => ((tollbarref17_InsertError.f k l0_0 a0_1 l0_2 a1_0 a1_1 a1_2).bind fun t125 => ((tollbarlaw0_Num.f bt116.2.2.2).bind fun t126 => (if t126 = t125 then ((tollbarlaw0_SameTree.f k t108 t111 t112 l0_0 a0_1 l0_2).bind fun t127 => (tollbarlaw17_TreeInserts.j0 k t125 (!t127) l0_0 a0_1 l0_2 a1_0 a1_1 a1_2 t108 t111 t112 bt116.1 bt116.2.1 bt116.2.2.1)) else (tollbarlaw17_TreeInserts.j0 k t125 true l0_0 a0_1 l0_2 a1_0 a1_1 a1_2 t108 t111 t112 bt116.1 bt116.2.1 bt116.2.2.1))))) = some r := H
 have A3 := zK A30
 clear A30
 replace H := yH.mp H
 obtain ⟨⟨t116, t119, t120, t123⟩, A40, H⟩ := H
 replace H : ((tollbarref17_InsertError.f k l0_0 a0_1 l0_2 a1_0 a1_1 a1_2).bind fun t125 => ((tollbarlaw0_Num.f t123).bind fun t126 => (if t126 = t125 then ((tollbarlaw0_SameTree.f k t108 t111 t112 l0_0 a0_1 l0_2).bind fun t127 => (tollbarlaw17_TreeInserts.j0 k t125 (!t127) l0_0 a0_1 l0_2 a1_0 a1_1 a1_2 t108 t111 t112 t116 t119 t120)) else (tollbarlaw17_TreeInserts.j0 k t125 true l0_0 a0_1 l0_2 a1_0 a1_1 a1_2 t108 t111 t112 t116 t119 t120)))) = some r := H
 have A4 := zK A40
 clear A40
 replace H := yH.mp H
 obtain ⟨t125, A50, H⟩ := H
 replace H : ((tollbarlaw0_Num.f t123).bind fun t126 => (if t126 = t125 then ((tollbarlaw0_SameTree.f k t108 t111 t112 l0_0 a0_1 l0_2).bind fun t127 => (tollbarlaw17_TreeInserts.j0 k t125 (!t127) l0_0 a0_1 l0_2 a1_0 a1_1 a1_2 t108 t111 t112 t116 t119 t120)) else (tollbarlaw17_TreeInserts.j0 k t125 true l0_0 a0_1 l0_2 a1_0 a1_1 a1_2 t108 t111 t112 t116 t119 t120))) = some r := H
 have A5 := zK A50
 clear A50
 have HC6 := zK H
 clear H
 go_enter Try.func4, Try.ntmps4
 go_upto_region 4 with (first | ((with_reducible refine gate_dst (N := 2) rfl ?_); (try (refine gate_guard (by rfl) ?_; dsimp only)); refine box_event ?hg (N := 2) ?hd (cs := #[.slice A0_0 l0_0.length c0_0, .int .i64 a0_1, .slice A0_2 l0_2.length c0_2]) (t := 25) ?hr ?_; (case hd => rfl); (case hg => rfl); (case hr => first | (go_simp; done) | (go_simp; rfl)); intro gb106 hg w7 hbox hb; have n0_ := zK (yF (zl HB.out) hb); have n1_ := zK (hbox); have n2_ := zK ((by rw [hg]; exact (yG (zl HB.out)) : w.heap.size ≤ gb106)); have n3_ := zK ((by rw [hg]; exact (yG (zl HB.out)) : w.heap.size ≤ gb106)); clear HB; have HB := n0_; have BK106 := n1_; have GW106 := n2_; have GE106 := n3_; clear n0_ n1_ n2_ n3_; clear hb hbox hg) | ((with_reducible refine gate_dst (N := 3) rfl ?_); (try (refine gate_guard (by rfl) ?_; dsimp only)); refine box_event ?hg (N := 3) ?hd (cs := #[.int .i64 a1_0, .int .i64 a1_1, .int .i64 a1_2]) (t := 50) ?hr ?_; (case hd => rfl); (case hg => rfl); (case hr => first | (go_simp; done) | (go_simp; rfl)); intro gb107 hg w8 hbox hb; have n0_ := zK (zP (g := gb106) (o := .cells #[.slice A0_0 l0_0.length c0_0, .int .i64 a0_1, .slice A0_2 l0_2.length c0_2] 25 (0, 0)) (zb BK106.out) hb); have n1_ := zK (yF (zl HB.out) hb); have n2_ := zK (hbox); have n3_ := zK ((by rw [hg]; exact (yG (zl HB.out)) : w.heap.size ≤ gb107)); have n4_ := zK ((by rw [hg]; exact (yG (zl HB.out)) : w.heap.size ≤ gb107)); have n5_ := zK ((by rw [hg]; exact zN (blk_lt (g := gb106) (o := .cells #[.slice A0_0 l0_0.length c0_0, .int .i64 a0_1, .slice A0_2 l0_2.length c0_2] 25 (0, 0)) (zb BK106.out)) : gb106 ≠ gb107)); have n6_ := zK ((by rw [hg]; exact Nat.ne_of_gt (blk_lt (g := gb106) (o := .cells #[.slice A0_0 l0_0.length c0_0, .int .i64 a0_1, .slice A0_2 l0_2.length c0_2] 25 (0, 0)) (zb BK106.out)) : gb107 ≠ gb106)); clear BK106; clear HB; have BK106 := n0_; have HB := n1_; have BK107 := n2_; have GW107 := n3_; have GE107 := n4_; have NB106_107 := n5_; have NB107_106 := n6_; clear n0_ n1_ n2_ n3_ n4_ n5_ n6_; clear hb hbox hg; have hnb9 := NB106_107.out; have hnc9 := NB107_106.out; have hcz10_0 : w8.cell? ⟨gb106, 0, none⟩ = some (.slice A0_0 l0_0.length c0_0) := (zQ BK106.out 0).trans rfl; have hcz10_1 : w8.cell? ⟨gb106, 1, none⟩ = some (.int .i64 a0_1) := (zQ BK106.out 1).trans rfl; have hcz10_2 : w8.cell? ⟨gb106, 2, none⟩ = some (.slice A0_2 l0_2.length c0_2) := (zQ BK106.out 2).trans rfl; have hfz10_0 := zR BK106.out 0; have hfz10_1 := zR BK106.out 1; have hfz10_2 := zR BK106.out 2) | ((with_reducible refine gate_callee (f := 11) rfl ?_); refine goesL_ (some 14) rfl rfl Try.func11 (by kernel_rfl) rfl #[.agg #[.slice A0_0 l0_0.length c0_0, .int .i64 a0_1, .slice A0_2 l0_2.length c0_2]] rfl zt ?_; (with_reducible refine (tollbarlaw0_CopyTree.calls _ _ l0_0 a0_1 _ _ l0_2 t108 t111 t112 _ ?side1 ?side2 ?side3 ?side4 A3.out).mono ?_); (case side1 => repeat (first | exact (yD HR0_0.out HB.out) | (with_reducible refine zS ?_ _) | (with_reducible refine zT ?_ _) | (with_reducible refine zU ?_))); (case side2 => exact HC0_0.out); (case side3 => repeat (first | exact (yD HR0_2.out HB.out) | (with_reducible refine zS ?_ _) | (with_reducible refine zT ?_ _) | (with_reducible refine zU ?_))); (case side4 => exact HC0_2.out); rintro e w11 ⟨v109, v113, rfl, ho0, ho1, hb⟩; refine ⟨_, rfl, ?_⟩; have n0_ := zK (zV ho0 (yG (zl HB.out))); have n1_ := zK (zV ho1 (yG (zl HB.out))); have n2_ := zK (zP (g := gb106) (o := .cells #[.slice A0_0 l0_0.length c0_0, .int .i64 a0_1, .slice A0_2 l0_2.length c0_2] 25 (0, 0)) (zb BK106.out) hb); have n3_ := zK (zP (g := gb107) (o := .cells #[.int .i64 a1_0, .int .i64 a1_1, .int .i64 a1_2] 50 (0, 0)) (zb BK107.out) hb); have n4_ := zK (yF (zl HB.out) hb); clear BK106; clear BK107; clear HB; have HO110 := n0_; have HO114 := n1_; have BK106 := n2_; have BK107 := n3_; have HB := n4_; clear n0_ n1_ n2_ n3_ n4_; (try clear hb); (try clear hb2); (try clear hk); (try clear hi); (try clear ho0); (try clear ho1)) | ((with_reducible refine gate_dst (N := 5) rfl ?_); (try (refine gate_guard (by rfl) ?_; dsimp only)); refine box_event ?hg (N := 5) ?hd (cs := #[.slice none 0 0, .int .i64 0, .slice none 0 0]) (t := 25) ?hr ?_; (case hd => rfl); (case hg => rfl); (case hr => first | (go_simp; done) | (go_simp; rfl)); intro gb115 hg w12 hbox hb; have n0_ := zK (zO (zr HO110.out) hb); have n1_ := zK (zO (zr HO114.out) hb); have n2_ := zK (zP (g := gb106) (o := .cells #[.slice A0_0 l0_0.length c0_0, .int .i64 a0_1, .slice A0_2 l0_2.length c0_2] 25 (0, 0)) (zb BK106.out) hb); have n3_ := zK (zP (g := gb107) (o := .cells #[.int .i64 a1_0, .int .i64 a1_1, .int .i64 a1_2] 50 (0, 0)) (zb BK107.out) hb); have n4_ := zK (yF (zl HB.out) hb); have n5_ := zK (hbox); have n6_ := zK ((by rw [hg]; exact (yG (zl HB.out)) : w.heap.size ≤ gb115)); have n7_ := zK ((by rw [hg]; exact (yG (zl HB.out)) : w.heap.size ≤ gb115)); have n8_ := zK ((by rw [hg]; exact zN (blk_lt (g := gb106) (o := .cells #[.slice A0_0 l0_0.length c0_0, .int .i64 a0_1, .slice A0_2 l0_2.length c0_2] 25 (0, 0)) (zb BK106.out)) : gb106 ≠ gb115)); have n9_ := zK ((by rw [hg]; exact Nat.ne_of_gt (blk_lt (g := gb106) (o := .cells #[.slice A0_0 l0_0.length c0_0, .int .i64 a0_1, .slice A0_2 l0_2.length c0_2] 25 (0, 0)) (zb BK106.out)) : gb115 ≠ gb106)); have n10_ := zK ((by rw [hg]; exact zN (blk_lt (g := gb107) (o := .cells #[.int .i64 a1_0, .int .i64 a1_1, .int .i64 a1_2] 50 (0, 0)) (zb BK107.out)) : gb107 ≠ gb115)); have n11_ := zK ((by rw [hg]; exact Nat.ne_of_gt (blk_lt (g := gb107) (o := .cells #[.int .i64 a1_0, .int .i64 a1_1, .int .i64 a1_2] 50 (0, 0)) (zb BK107.out)) : gb115 ≠ gb107)); clear HO110; clear HO114; clear BK106; clear BK107; clear HB; have HO110 := n0_; have HO114 := n1_; have BK106 := n2_; have BK107 := n3_; have HB := n4_; have BK115 := n5_; have GW115 := n6_; have GE115 := n7_; have NB106_115 := n8_; have NB115_106 := n9_; have NB107_115 := n10_; have NB115_107 := n11_; clear n0_ n1_ n2_ n3_ n4_ n5_ n6_ n7_ n8_ n9_ n10_ n11_; clear hb hbox hg; obtain ⟨Ao13, co13, eo13⟩ := yE HO110.out; subst eo13; have hnb14 := NB115_106.out; have hnc14 := NB106_115.out; have hnb15 := NB115_107.out; have hnc15 := NB107_115.out; have hcz16_0 : w12.cell? ⟨gb115, 0, none⟩ = some (.slice none 0 0) := (zQ BK115.out 0).trans rfl; have hcz16_1 : w12.cell? ⟨gb115, 1, none⟩ = some (.int .i64 0) := (zQ BK115.out 1).trans rfl; have hcz16_2 : w12.cell? ⟨gb115, 2, none⟩ = some (.slice none 0 0) := (zQ BK115.out 2).trans rfl; have hfz16_0 := zR BK115.out 0; have hfz16_1 := zR BK115.out 1; have hfz16_2 := zR BK115.out 2; obtain ⟨Ao17, co17, eo17⟩ := yE HO114.out; subst eo17; have hcz18_0 : w12.cell? ⟨gb107, 0, none⟩ = some (.int .i64 a1_0) := (zQ BK107.out 0).trans rfl; have hcz18_1 : w12.cell? ⟨gb107, 1, none⟩ = some (.int .i64 a1_1) := (zQ BK107.out 1).trans rfl; have hcz18_2 : w12.cell? ⟨gb107, 2, none⟩ = some (.int .i64 a1_2) := (zQ BK107.out 2).trans rfl; have hfz18_0 := zR BK107.out 0; have hfz18_1 := zR BK107.out 1; have hfz18_2 := zR BK107.out 2) | ((with_reducible refine gate_callee (f := 26) rfl ?_); refine goesL_ (some 18) rfl rfl Try.func26 (by kernel_rfl) rfl #[.agg #[.slice Ao13 t108.length co13, .int .i64 t111, .slice Ao17 t112.length co17], .agg #[.int .i64 a1_0, .int .i64 a1_1, .int .i64 a1_2]] rfl zt ?_; (with_reducible refine (tree_Insert.calls _ _ t108 t111 _ _ t112 a1_0 a1_1 a1_2 t116 t119 t120 t123 _ ?side1 ?side2 ?side3 ?side4 A4.out).mono ?_); (case side1 => refine (zX (e := 64) (base := w.heap.size) (ok := fun k_ => True) (n := t108.length) (c := co13) ?_).2.2; exact (by (with_reducible repeat (first | apply zA | apply zB | apply zC)); exact (Kd.R_mono (Kd.R_far (p := ⟨gb115, 2, none⟩) (Kd.R_far (p := ⟨gb115, 1, none⟩) (Kd.R_far (p := ⟨gb115, 0, none⟩) (Kd.R_types HO110.out BK115.out (by decide)) (fun _ hk => hk.2) (.slice Ao13 t108.length co13)) (fun _ hk => hk.2) (.int .i64 t111)) (fun _ hk => hk.2) (.slice Ao17 t112.length co17)) (fun _ h_ => h_.1)))); (case side2 => exact (zX HO110.out).2.1); (case side3 => refine (zX (e := 3) (base := w.heap.size) (ok := fun k_ => True) (n := t112.length) (c := co17) ?_).2.2; exact (by (with_reducible repeat (first | apply zA | apply zB | apply zC)); exact (Kd.R_mono (Kd.R_far (p := ⟨gb115, 2, none⟩) (Kd.R_far (p := ⟨gb115, 1, none⟩) (Kd.R_far (p := ⟨gb115, 0, none⟩) (Kd.R_types HO114.out BK115.out (by decide)) (fun _ hk => hk.2) (.slice Ao13 t108.length co13)) (fun _ hk => hk.2) (.int .i64 t111)) (fun _ hk => hk.2) (.slice Ao17 t112.length co17)) (fun _ h_ => h_.1)))); (case side4 => exact (zX HO114.out).2.1); rintro e w19 ⟨v117, v121, rfl, ho0, ho1, hb⟩; refine ⟨_, rfl, ?_⟩; have n0_ := zK (yC (by (with_reducible repeat (first | apply zA | apply zB | apply zC)); exact (Kd.R_mono (Kd.R_far (p := ⟨gb115, 2, none⟩) (Kd.R_far (p := ⟨gb115, 1, none⟩) (Kd.R_far (p := ⟨gb115, 0, none⟩) (Kd.R_types HO110.out BK115.out (by decide)) (fun _ hk => hk.2) (.slice Ao13 t108.length co13)) (fun _ hk => hk.2) (.int .i64 t111)) (fun _ hk => hk.2) (.slice Ao17 t112.length co17)) (fun _ h_ => h_.1))) (Kd.R_base ho0) hb); have n1_ := zK (yC (by (with_reducible repeat (first | apply zA | apply zB | apply zC)); exact (Kd.R_mono (Kd.R_far (p := ⟨gb115, 2, none⟩) (Kd.R_far (p := ⟨gb115, 1, none⟩) (Kd.R_far (p := ⟨gb115, 0, none⟩) (Kd.R_types HO114.out BK115.out (by decide)) (fun _ hk => hk.2) (.slice Ao13 t108.length co13)) (fun _ hk => hk.2) (.int .i64 t111)) (fun _ hk => hk.2) (.slice Ao17 t112.length co17)) (fun _ h_ => h_.1))) (Kd.R_base ho1) hb); have n2_ := zK (zV (zW ho0 (yB (by (with_reducible repeat (first | apply zA | apply zB | apply zC)); exact (Kd.R_mono (Kd.R_far (p := ⟨gb115, 2, none⟩) (Kd.R_far (p := ⟨gb115, 1, none⟩) (Kd.R_far (p := ⟨gb115, 0, none⟩) (Kd.R_types HO110.out BK115.out (by decide)) (fun _ hk => hk.2) (.slice Ao13 t108.length co13)) (fun _ hk => hk.2) (.int .i64 t111)) (fun _ hk => hk.2) (.slice Ao17 t112.length co17)) (fun _ h_ => h_.1))))) (yG (zl HB.out))); have n3_ := zK (zV (zW ho1 (yB (by (with_reducible repeat (first | apply zA | apply zB | apply zC)); exact (Kd.R_mono (Kd.R_far (p := ⟨gb115, 2, none⟩) (Kd.R_far (p := ⟨gb115, 1, none⟩) (Kd.R_far (p := ⟨gb115, 0, none⟩) (Kd.R_types HO114.out BK115.out (by decide)) (fun _ hk => hk.2) (.slice Ao13 t108.length co13)) (fun _ hk => hk.2) (.int .i64 t111)) (fun _ hk => hk.2) (.slice Ao17 t112.length co17)) (fun _ h_ => h_.1))))) (yG (zl HB.out))); have n4_ := zK (zP (g := gb106) (o := .cells #[.slice A0_0 l0_0.length c0_0, .int .i64 a0_1, .slice A0_2 l0_2.length c0_2] 25 (0, 0)) (by (with_reducible repeat (first | refine zD ?_ _ | refine zE ?_ | refine zF ?_ _)); refine blk_far ?_ NB106_115.out _; (with_reducible repeat (first | refine zD ?_ _ | refine zE ?_ | refine zF ?_ _)); refine blk_far ?_ NB106_115.out _; (with_reducible repeat (first | refine zD ?_ _ | refine zE ?_ | refine zF ?_ _)); refine blk_far ?_ NB106_115.out _; (with_reducible repeat (first | refine zD ?_ _ | refine zE ?_ | refine zF ?_ _)); exact BK106.out) hb); have n5_ := zK (zP (g := gb107) (o := .cells #[.int .i64 a1_0, .int .i64 a1_1, .int .i64 a1_2] 50 (0, 0)) (by (with_reducible repeat (first | refine zD ?_ _ | refine zE ?_ | refine zF ?_ _)); refine blk_far ?_ NB107_115.out _; (with_reducible repeat (first | refine zD ?_ _ | refine zE ?_ | refine zF ?_ _)); refine blk_far ?_ NB107_115.out _; (with_reducible repeat (first | refine zD ?_ _ | refine zE ?_ | refine zF ?_ _)); refine blk_far ?_ NB107_115.out _; (with_reducible repeat (first | refine zD ?_ _ | refine zE ?_ | refine zF ?_ _)); exact BK107.out) hb); have n6_ := zK (zP (g := gb115) (o := .cells #[.slice Ao13 t108.length co13, .int .i64 t111, .slice Ao17 t112.length co17] 25 (0, 0)) (by (with_reducible repeat (first | refine zD ?_ _ | refine zE ?_ | refine zF ?_ _)); refine blk_put (cs := #[.slice Ao13 t108.length co13, .int .i64 t111, .slice none 0 0]) ?_ 2 _ rfl; (with_reducible repeat (first | refine zD ?_ _ | refine zE ?_ | refine zF ?_ _)); refine blk_put (cs := #[.slice Ao13 t108.length co13, .int .i64 0, .slice none 0 0]) ?_ 1 _ rfl; (with_reducible repeat (first | refine zD ?_ _ | refine zE ?_ | refine zF ?_ _)); refine blk_put (cs := #[.slice none 0 0, .int .i64 0, .slice none 0 0]) ?_ 0 _ rfl; (with_reducible repeat (first | refine zD ?_ _ | refine zE ?_ | refine zF ?_ _)); exact BK115.out) hb); have n7_ := zK (yF (zl HB.out) hb); clear HO110; clear HO114; clear BK106; clear BK107; clear BK115; clear HB; have HO110 := n0_; have HO114 := n1_; have HO118 := n2_; have HO122 := n3_; have BK106 := n4_; have BK107 := n5_; have BK115 := n6_; have HB := n7_; clear n0_ n1_ n2_ n3_ n4_ n5_ n6_ n7_; (try clear hb); (try clear hb2); (try clear hk); (try clear hi); (try clear ho0); (try clear ho1)) | ((with_reducible refine gate_dst (N := 6) rfl ?_); (try (refine gate_guard (by rfl) ?_; dsimp only)); refine box_event ?hg (N := 6) ?hd (cs := #[.slice none 0 0, .int .i64 0, .slice none 0 0]) (t := 25) ?hr ?_; (case hd => rfl); (case hg => rfl); (case hr => first | (go_simp; done) | (go_simp; rfl)); intro gb124 hg w20 hbox hb; have n0_ := zK (zO (zr HO110.out) hb); have n1_ := zK (zO (zr HO114.out) hb); have n2_ := zK (zO (zr HO118.out) hb); have n3_ := zK (zO (zr HO122.out) hb); have n4_ := zK (zP (g := gb106) (o := .cells #[.slice A0_0 l0_0.length c0_0, .int .i64 a0_1, .slice A0_2 l0_2.length c0_2] 25 (0, 0)) (zb BK106.out) hb); have n5_ := zK (zP (g := gb107) (o := .cells #[.int .i64 a1_0, .int .i64 a1_1, .int .i64 a1_2] 50 (0, 0)) (zb BK107.out) hb); have n6_ := zK (zP (g := gb115) (o := .cells #[.slice Ao13 t108.length co13, .int .i64 t111, .slice Ao17 t112.length co17] 25 (0, 0)) (zb BK115.out) hb); have n7_ := zK (yF (zl HB.out) hb); have n8_ := zK (hbox); have n9_ := zK ((by rw [hg]; exact (yG (zl HB.out)) : w.heap.size ≤ gb124)); have n10_ := zK ((by rw [hg]; exact (yG (zl HB.out)) : w.heap.size ≤ gb124)); have n11_ := zK ((by rw [hg]; exact zN (blk_lt (g := gb106) (o := .cells #[.slice A0_0 l0_0.length c0_0, .int .i64 a0_1, .slice A0_2 l0_2.length c0_2] 25 (0, 0)) (zb BK106.out)) : gb106 ≠ gb124)); have n12_ := zK ((by rw [hg]; exact Nat.ne_of_gt (blk_lt (g := gb106) (o := .cells #[.slice A0_0 l0_0.length c0_0, .int .i64 a0_1, .slice A0_2 l0_2.length c0_2] 25 (0, 0)) (zb BK106.out)) : gb124 ≠ gb106)); have n13_ := zK ((by rw [hg]; exact zN (blk_lt (g := gb107) (o := .cells #[.int .i64 a1_0, .int .i64 a1_1, .int .i64 a1_2] 50 (0, 0)) (zb BK107.out)) : gb107 ≠ gb124)); have n14_ := zK ((by rw [hg]; exact Nat.ne_of_gt (blk_lt (g := gb107) (o := .cells #[.int .i64 a1_0, .int .i64 a1_1, .int .i64 a1_2] 50 (0, 0)) (zb BK107.out)) : gb124 ≠ gb107)); have n15_ := zK ((by rw [hg]; exact zN (blk_lt (g := gb115) (o := .cells #[.slice Ao13 t108.length co13, .int .i64 t111, .slice Ao17 t112.length co17] 25 (0, 0)) (zb BK115.out)) : gb115 ≠ gb124)); have n16_ := zK ((by rw [hg]; exact Nat.ne_of_gt (blk_lt (g := gb115) (o := .cells #[.slice Ao13 t108.length co13, .int .i64 t111, .slice Ao17 t112.length co17] 25 (0, 0)) (zb BK115.out)) : gb124 ≠ gb115)); clear HO110; clear HO114; clear HO118; clear HO122; clear BK106; clear BK107; clear BK115; clear HB; have HO110 := n0_; have HO114 := n1_; have HO118 := n2_; have HO122 := n3_; have BK106 := n4_; have BK107 := n5_; have BK115 := n6_; have HB := n7_; have BK124 := n8_; have GW124 := n9_; have GE124 := n10_; have NB106_124 := n11_; have NB124_106 := n12_; have NB107_124 := n13_; have NB124_107 := n14_; have NB115_124 := n15_; have NB124_115 := n16_; clear n0_ n1_ n2_ n3_ n4_ n5_ n6_ n7_ n8_ n9_ n10_ n11_ n12_ n13_ n14_ n15_ n16_; clear hb hbox hg; obtain ⟨Ao21, co21, eo21⟩ := yE HO118.out; subst eo21; have hnb22 := NB124_106.out; have hnc22 := NB106_124.out; have hnb23 := NB124_107.out; have hnc23 := NB107_124.out; have hnb24 := NB124_115.out; have hnc24 := NB115_124.out; have hcz25_0 : w20.cell? ⟨gb124, 0, none⟩ = some (.slice none 0 0) := (zQ BK124.out 0).trans rfl; have hcz25_1 : w20.cell? ⟨gb124, 1, none⟩ = some (.int .i64 0) := (zQ BK124.out 1).trans rfl; have hcz25_2 : w20.cell? ⟨gb124, 2, none⟩ = some (.slice none 0 0) := (zQ BK124.out 2).trans rfl; have hfz25_0 := zR BK124.out 0; have hfz25_1 := zR BK124.out 1; have hfz25_2 := zR BK124.out 2; obtain ⟨Ao26, co26, eo26⟩ := yE HO122.out; subst eo26; have hcz27_0 : w20.cell? ⟨gb106, 0, none⟩ = some (.slice A0_0 l0_0.length c0_0) := (zQ BK106.out 0).trans rfl; have hcz27_1 : w20.cell? ⟨gb106, 1, none⟩ = some (.int .i64 a0_1) := (zQ BK106.out 1).trans rfl; have hcz27_2 : w20.cell? ⟨gb106, 2, none⟩ = some (.slice A0_2 l0_2.length c0_2) := (zQ BK106.out 2).trans rfl; have hfz27_0 := zR BK106.out 0; have hfz27_1 := zR BK106.out 1; have hfz27_2 := zR BK106.out 2; have hcz28_0 : w20.cell? ⟨gb107, 0, none⟩ = some (.int .i64 a1_0) := (zQ BK107.out 0).trans rfl; have hcz28_1 : w20.cell? ⟨gb107, 1, none⟩ = some (.int .i64 a1_1) := (zQ BK107.out 1).trans rfl; have hcz28_2 : w20.cell? ⟨gb107, 2, none⟩ = some (.int .i64 a1_2) := (zQ BK107.out 2).trans rfl; have hfz28_0 := zR BK107.out 0; have hfz28_1 := zR BK107.out 1; have hfz28_2 := zR BK107.out 2) | ((with_reducible refine gate_callee (f := 27) rfl ?_); refine goesL_ (some 23) rfl rfl Try.func27 (by kernel_rfl) rfl #[.agg #[.slice A0_0 l0_0.length c0_0, .int .i64 a0_1, .slice A0_2 l0_2.length c0_2], .agg #[.int .i64 a1_0, .int .i64 a1_1, .int .i64 a1_2]] rfl zt ?_; (with_reducible refine (tollbarref17_InsertError.calls k _ _ l0_0 a0_1 _ _ l0_2 a1_0 a1_1 a1_2 t125 _ ?side1 ?side2 ?side3 ?side4 A5.out).mono ?_); (case side1 => exact yD HR0_0.out (zl HB.out)); (case side2 => exact HC0_0.out); (case side3 => exact yD HR0_2.out (zl HB.out)); (case side4 => exact HC0_2.out); rintro e w29 ⟨rfl, hb⟩; refine ⟨_, rfl, ?_⟩; have n0_ := zK (zO (by (with_reducible repeat (first | apply zA | apply zB | apply zC)); exact (Kd.R_mono (Kd.R_far (p := ⟨gb124, 2, none⟩) (Kd.R_far (p := ⟨gb124, 1, none⟩) (Kd.R_far (p := ⟨gb124, 0, none⟩) (Kd.R_types HO110.out BK124.out (by decide)) (fun _ hk => hk.2) (.slice Ao21 t116.length co21)) (fun _ hk => hk.2) (.int .i64 t119)) (fun _ hk => hk.2) (.slice Ao26 t120.length co26)) (fun _ h_ => h_.1))) hb); have n1_ := zK (zO (by (with_reducible repeat (first | apply zA | apply zB | apply zC)); exact (Kd.R_mono (Kd.R_far (p := ⟨gb124, 2, none⟩) (Kd.R_far (p := ⟨gb124, 1, none⟩) (Kd.R_far (p := ⟨gb124, 0, none⟩) (Kd.R_types HO114.out BK124.out (by decide)) (fun _ hk => hk.2) (.slice Ao21 t116.length co21)) (fun _ hk => hk.2) (.int .i64 t119)) (fun _ hk => hk.2) (.slice Ao26 t120.length co26)) (fun _ h_ => h_.1))) hb); have n2_ := zK (zO (by (with_reducible repeat (first | apply zA | apply zB | apply zC)); exact (Kd.R_mono (Kd.R_far (p := ⟨gb124, 2, none⟩) (Kd.R_far (p := ⟨gb124, 1, none⟩) (Kd.R_far (p := ⟨gb124, 0, none⟩) (Kd.R_types HO118.out BK124.out (by decide)) (fun _ hk => hk.2) (.slice Ao21 t116.length co21)) (fun _ hk => hk.2) (.int .i64 t119)) (fun _ hk => hk.2) (.slice Ao26 t120.length co26)) (fun _ h_ => h_.1))) hb); have n3_ := zK (zO (by (with_reducible repeat (first | apply zA | apply zB | apply zC)); exact (Kd.R_mono (Kd.R_far (p := ⟨gb124, 2, none⟩) (Kd.R_far (p := ⟨gb124, 1, none⟩) (Kd.R_far (p := ⟨gb124, 0, none⟩) (Kd.R_types HO122.out BK124.out (by decide)) (fun _ hk => hk.2) (.slice Ao21 t116.length co21)) (fun _ hk => hk.2) (.int .i64 t119)) (fun _ hk => hk.2) (.slice Ao26 t120.length co26)) (fun _ h_ => h_.1))) hb); have n4_ := zK (zP (g := gb106) (o := .cells #[.slice A0_0 l0_0.length c0_0, .int .i64 a0_1, .slice A0_2 l0_2.length c0_2] 25 (0, 0)) (by (with_reducible repeat (first | refine zD ?_ _ | refine zE ?_ | refine zF ?_ _)); refine blk_far ?_ NB106_124.out _; (with_reducible repeat (first | refine zD ?_ _ | refine zE ?_ | refine zF ?_ _)); refine blk_far ?_ NB106_124.out _; (with_reducible repeat (first | refine zD ?_ _ | refine zE ?_ | refine zF ?_ _)); refine blk_far ?_ NB106_124.out _; (with_reducible repeat (first | refine zD ?_ _ | refine zE ?_ | refine zF ?_ _)); exact BK106.out) hb); have n5_ := zK (zP (g := gb107) (o := .cells #[.int .i64 a1_0, .int .i64 a1_1, .int .i64 a1_2] 50 (0, 0)) (by (with_reducible repeat (first | refine zD ?_ _ | refine zE ?_ | refine zF ?_ _)); refine blk_far ?_ NB107_124.out _; (with_reducible repeat (first | refine zD ?_ _ | refine zE ?_ | refine zF ?_ _)); refine blk_far ?_ NB107_124.out _; (with_reducible repeat (first | refine zD ?_ _ | refine zE ?_ | refine zF ?_ _)); refine blk_far ?_ NB107_124.out _; (with_reducible repeat (first | refine zD ?_ _ | refine zE ?_ | refine zF ?_ _)); exact BK107.out) hb); have n6_ := zK (zP (g := gb115) (o := .cells #[.slice Ao13 t108.length co13, .int .i64 t111, .slice Ao17 t112.length co17] 25 (0, 0)) (by (with_reducible repeat (first | refine zD ?_ _ | refine zE ?_ | refine zF ?_ _)); refine blk_far ?_ NB115_124.out _; (with_reducible repeat (first | refine zD ?_ _ | refine zE ?_ | refine zF ?_ _)); refine blk_far ?_ NB115_124.out _; (with_reducible repeat (first | refine zD ?_ _ | refine zE ?_ | refine zF ?_ _)); refine blk_far ?_ NB115_124.out _; (with_reducible repeat (first | refine zD ?_ _ | refine zE ?_ | refine zF ?_ _)); exact BK115.out) hb); have n7_ := zK (zP (g := gb124) (o := .cells #[.slice Ao21 t116.length co21, .int .i64 t119, .slice Ao26 t120.length co26] 25 (0, 0)) (by (with_reducible repeat (first | refine zD ?_ _ | refine zE ?_ | refine zF ?_ _)); refine blk_put (cs := #[.slice Ao21 t116.length co21, .int .i64 t119, .slice none 0 0]) ?_ 2 _ rfl; (with_reducible repeat (first | refine zD ?_ _ | refine zE ?_ | refine zF ?_ _)); refine blk_put (cs := #[.slice Ao21 t116.length co21, .int .i64 0, .slice none 0 0]) ?_ 1 _ rfl; (with_reducible repeat (first | refine zD ?_ _ | refine zE ?_ | refine zF ?_ _)); refine blk_put (cs := #[.slice none 0 0, .int .i64 0, .slice none 0 0]) ?_ 0 _ rfl; (with_reducible repeat (first | refine zD ?_ _ | refine zE ?_ | refine zF ?_ _)); exact BK124.out) hb); have n8_ := zK (yF (zl HB.out) hb); clear HO110; clear HO114; clear HO118; clear HO122; clear BK106; clear BK107; clear BK115; clear BK124; clear HB; have HO110 := n0_; have HO114 := n1_; have HO118 := n2_; have HO122 := n3_; have BK106 := n4_; have BK107 := n5_; have BK115 := n6_; have BK124 := n7_; have HB := n8_; clear n0_ n1_ n2_ n3_ n4_ n5_ n6_ n7_ n8_; (try clear hb); (try clear hb2); (try clear hk); (try clear hi)))
 (try simp only [Act.put, zY, zZ, yA])
 go_cut [33] (fun v33 wc => ∃ (kq : Nat) (x33_5 : Bool), v33 = .bool x33_5 ∧ Aside0 (tollbarlaw17_TreeInserts.j0 kq t125 x33_5 l0_0 a0_1 l0_2 a1_0 a1_1 a1_2 t108 t111 t112 t116 t119 t120 = some r) ∧ Aside0 (kq ≤ k) ∧ Aside0 (Kd.R k64 64 wc w.heap.size (fun k_ => some k_ ≠ ((.slice Ao21 t116.length co21) : Value).ownBlock) (.slice Ao13 t108.length co13) t108) ∧ Aside0 (Kd.R (Kd.int .i64) 3 wc w.heap.size (fun k_ => some k_ ≠ ((.slice Ao26 t120.length co26) : Value).ownBlock) (.slice Ao17 t112.length co17) t112) ∧ Aside0 (Kd.R k64 64 wc w.heap.size (fun k_ => some k_ ≠ ((.slice Ao13 t108.length co13) : Value).ownBlock) (.slice Ao21 t116.length co21) t116) ∧ Aside0 (Kd.R (Kd.int .i64) 3 wc w.heap.size (fun k_ => some k_ ≠ ((.slice Ao17 t112.length co17) : Value).ownBlock) (.slice Ao26 t120.length co26) t120) ∧ Aside0 (wc.heap[gb106]? = some (.cells #[(.slice A0_0 l0_0.length c0_0), .int .i64 a0_1, (.slice A0_2 l0_2.length c0_2)] 25 (0, 0))) ∧ Aside0 (wc.heap[gb107]? = some (.cells #[.int .i64 a1_0, .int .i64 a1_1, .int .i64 a1_2] 50 (0, 0))) ∧ Aside0 (wc.heap[gb115]? = some (.cells #[(.slice Ao13 t108.length co13), .int .i64 t111, (.slice Ao17 t112.length co17)] 25 (0, 0))) ∧ Aside0 (wc.heap[gb124]? = some (.cells #[(.slice Ao21 t116.length co21), .int .i64 t119, (.slice Ao26 t120.length co26)] 25 (0, 0))) ∧ Aside0 (Below w.heap.size w wc))
 case first =>
  have H := HC6.out
  clear HC6
  replace H := yH.mp H
  obtain ⟨t126, A300, H⟩ := H
  replace H : (if t126 = t125 then ((tollbarlaw0_SameTree.f k t108 t111 t112 l0_0 a0_1 l0_2).bind fun t127 => (tollbarlaw17_TreeInserts.j0 k t125 (!t127) l0_0 a0_1 l0_2 a1_0 a1_1 a1_2 t108 t111 t112 t116 t119 t120)) else (tollbarlaw17_TreeInserts.j0 k t125 true l0_0 a0_1 l0_2 a1_0 a1_1 a1_2 t108 t111 t112 t116 t119 t120)) = some r := H
  have A30 := zK A300
  clear A300
  by_cases c31 : t126 = t125
  ·rw [if_pos c31] at H
   have c31b0 : (t126 == t125) = true := yI.mpr c31
   have c31b1 : (t126 != t125) = false := yJ.mpr c31
   clear c31
   (first | rw [c31b0] | (simp only [i64_w, i32_w]; rw [c31b0]) | skip)
   replace H := yH.mp H
   obtain ⟨t127, A320, H⟩ := H
   replace H : (tollbarlaw17_TreeInserts.j0 k t125 (!t127) l0_0 a0_1 l0_2 a1_0 a1_1 a1_2 t108 t111 t112 t116 t119 t120) = some r := H
   have A32 := zK A320
   clear A320
   have H' := zK H
   clear H
   go_wp2_with (first | ((with_reducible refine gate_callee (f := 19) rfl ?_); refine goesL_ (some 25) rfl rfl Try.func19 (by kernel_rfl) rfl #[.int .i64 t123] rfl zt ?_; (with_reducible refine (tollbarlaw0_Num.calls t123 t126 _ A30.out).mono ?_); rintro e w' ⟨rfl, ⟨nd, rfl⟩⟩; refine ⟨_, rfl, ?_⟩; have hnb33 := NB115_106.out; have hnc33 := NB106_115.out; have hnb34 := NB115_107.out; have hnc34 := NB107_115.out; have hnb35 := NB115_124.out; have hnc35 := NB124_115.out; have hcz36_0 : w29.cell? ⟨gb115, 0, none⟩ = some (.slice Ao13 t108.length co13) := (zQ BK115.out 0).trans rfl; have hcz36_1 : w29.cell? ⟨gb115, 1, none⟩ = some (.int .i64 t111) := (zQ BK115.out 1).trans rfl; have hcz36_2 : w29.cell? ⟨gb115, 2, none⟩ = some (.slice Ao17 t112.length co17) := (zQ BK115.out 2).trans rfl; have hfz36_0 := zR BK115.out 0; have hfz36_1 := zR BK115.out 1; have hfz36_2 := zR BK115.out 2; have hnb37 := NB106_107.out; have hnc37 := NB107_106.out; have hnb38 := NB106_124.out; have hnc38 := NB124_106.out; have hcz39_0 : w29.cell? ⟨gb106, 0, none⟩ = some (.slice A0_0 l0_0.length c0_0) := (zQ BK106.out 0).trans rfl; have hcz39_1 : w29.cell? ⟨gb106, 1, none⟩ = some (.int .i64 a0_1) := (zQ BK106.out 1).trans rfl; have hcz39_2 : w29.cell? ⟨gb106, 2, none⟩ = some (.slice A0_2 l0_2.length c0_2) := (zQ BK106.out 2).trans rfl; have hfz39_0 := zR BK106.out 0; have hfz39_1 := zR BK106.out 1; have hfz39_2 := zR BK106.out 2) | (go_at_call 17; (with_reducible refine (tollbarlaw0_SameTree.calls k _ _ t108 t111 _ _ t112 _ _ l0_0 a0_1 _ _ l0_2 t127 _ ?side1 ?side2 ?side3 ?side4 ?side5 ?side6 ?side7 ?side8 A32.out).mono ?_); (case side1 => exact zc (zX HO110.out).2.2); (case side2 => exact (zX HO110.out).2.1); (case side3 => exact zc (zX HO114.out).2.2); (case side4 => exact (zX HO114.out).2.1); (case side5 => repeat (first | exact (yD HR0_0.out (zl HB.out)) | (with_reducible refine zS ?_ _) | (with_reducible refine zT ?_ _) | (with_reducible refine zU ?_))); (case side6 => exact HC0_0.out); (case side7 => repeat (first | exact (yD HR0_2.out (zl HB.out)) | (with_reducible refine zS ?_ _) | (with_reducible refine zT ?_ _) | (with_reducible refine zU ?_))); (case side8 => exact HC0_2.out); rintro e w40 ⟨rfl, hb⟩; have n0_ := zK (zO (zr HO110.out) hb); have n1_ := zK (zO (zr HO114.out) hb); have n2_ := zK (zO (zr HO118.out) hb); have n3_ := zK (zO (zr HO122.out) hb); have n4_ := zK (zP (g := gb106) (o := .cells #[.slice A0_0 l0_0.length c0_0, .int .i64 a0_1, .slice A0_2 l0_2.length c0_2] 25 (0, 0)) (zb BK106.out) hb); have n5_ := zK (zP (g := gb107) (o := .cells #[.int .i64 a1_0, .int .i64 a1_1, .int .i64 a1_2] 50 (0, 0)) (zb BK107.out) hb); have n6_ := zK (zP (g := gb115) (o := .cells #[.slice Ao13 t108.length co13, .int .i64 t111, .slice Ao17 t112.length co17] 25 (0, 0)) (zb BK115.out) hb); have n7_ := zK (zP (g := gb124) (o := .cells #[.slice Ao21 t116.length co21, .int .i64 t119, .slice Ao26 t120.length co26] 25 (0, 0)) (zb BK124.out) hb); have n8_ := zK (yF (zl HB.out) hb); clear HO110; clear HO114; clear HO118; clear HO122; clear BK106; clear BK107; clear BK115; clear BK124; clear HB; have HO110 := n0_; have HO114 := n1_; have HO118 := n2_; have HO122 := n3_; have BK106 := n4_; have BK107 := n5_; have BK115 := n6_; have BK124 := n7_; have HB := n8_; clear n0_ n1_ n2_ n3_ n4_ n5_ n6_ n7_ n8_; (try clear hb); (try clear hb2); (try clear hk); (try clear hi)))
   go_meet
   case rel => exact ⟨_, (!t127), zz, H', ⟨by first | omega | exact Nat.le_refl _⟩, ⟨by (with_reducible repeat (first | apply zA | apply zB | apply zC)); exact Kd.R_mono HO110.out (fun _ hk => hk.2)⟩, ⟨by (with_reducible repeat (first | apply zA | apply zB | apply zC)); exact Kd.R_mono HO114.out (fun _ hk => hk.2)⟩, ⟨by (with_reducible repeat (first | apply zA | apply zB | apply zC)); exact Kd.R_mono HO118.out (fun _ hk => hk.2)⟩, ⟨by (with_reducible repeat (first | apply zA | apply zB | apply zC)); exact Kd.R_mono HO122.out (fun _ hk => hk.2)⟩, ⟨by (with_reducible repeat (first | refine zD ?_ _ | refine zE ?_ | refine zF ?_ _)); exact BK106.out⟩, ⟨by (with_reducible repeat (first | refine zD ?_ _ | refine zE ?_ | refine zF ?_ _)); exact BK107.out⟩, ⟨by (with_reducible repeat (first | refine zD ?_ _ | refine zE ?_ | refine zF ?_ _)); exact BK115.out⟩, ⟨by (with_reducible repeat (first | refine zD ?_ _ | refine zE ?_ | refine zF ?_ _)); exact BK124.out⟩, ⟨by repeat (first | (with_reducible first | exact HB.out | apply zG | apply zH | apply zI | refine zL ?_ GE106.out | refine zL ?_ GE107.out | refine zL ?_ GE115.out | refine zL ?_ GE124.out) | exact HB.out)⟩⟩
  ·rw [if_neg c31] at H
   have c31b0 : (t126 == t125) = false := yK.mpr c31
   have c31b1 : (t126 != t125) = true := yL.mpr c31
   (first | rw [c31b0] | (simp only [i64_w, i32_w]; rw [c31b0]) | skip)
   have H' := zK H
   clear H
   go_wp2_with (first | ((with_reducible refine gate_callee (f := 19) rfl ?_); refine goesL_ (some 25) rfl rfl Try.func19 (by kernel_rfl) rfl #[.int .i64 t123] rfl zt ?_; (with_reducible refine (tollbarlaw0_Num.calls t123 t126 _ A30.out).mono ?_); rintro e w' ⟨rfl, ⟨nd, rfl⟩⟩; refine ⟨_, rfl, ?_⟩))
   go_meet
   case rel => exact ⟨_, (true), zz, H', ⟨by first | omega | exact Nat.le_refl _⟩, ⟨by (with_reducible repeat (first | apply zA | apply zB | apply zC)); exact Kd.R_mono HO110.out (fun _ hk => hk.2)⟩, ⟨by (with_reducible repeat (first | apply zA | apply zB | apply zC)); exact Kd.R_mono HO114.out (fun _ hk => hk.2)⟩, ⟨by (with_reducible repeat (first | apply zA | apply zB | apply zC)); exact Kd.R_mono HO118.out (fun _ hk => hk.2)⟩, ⟨by (with_reducible repeat (first | apply zA | apply zB | apply zC)); exact Kd.R_mono HO122.out (fun _ hk => hk.2)⟩, ⟨by (with_reducible repeat (first | refine zD ?_ _ | refine zE ?_ | refine zF ?_ _)); exact BK106.out⟩, ⟨by (with_reducible repeat (first | refine zD ?_ _ | refine zE ?_ | refine zF ?_ _)); exact BK107.out⟩, ⟨by (with_reducible repeat (first | refine zD ?_ _ | refine zE ?_ | refine zF ?_ _)); exact BK115.out⟩, ⟨by (with_reducible repeat (first | refine zD ?_ _ | refine zE ?_ | refine zF ?_ _)); exact BK124.out⟩, ⟨by repeat (first | (with_reducible first | exact HB.out | apply zG | apply zH | apply zI | refine zL ?_ GE106.out | refine zL ?_ GE107.out | refine zL ?_ GE115.out | refine zL ?_ GE124.out) | exact HB.out)⟩⟩
 case rest =>
  clear HC6
  try clear c1
  try clear c2
  try clear p2
  try clear c3
  try clear c4
  try clear c9
  try clear c11
  try clear c14
  try clear c15
  try clear c19
  try clear c22
  try clear c23
  try clear c24
  try clear c26
  try clear c27
  try clear c31
  try clear c31b0
  try clear c31b1
  try clear c33
  try clear c34
  try clear c35
  try clear c37
  try clear c38
  try clear hcz10_0
  try clear hcz10_1
  try clear hcz10_2
  try clear hcz16_0
  try clear hcz16_1
  try clear hcz16_2
  try clear hcz18_0
  try clear hcz18_1
  try clear hcz18_2
  try clear hcz25_0
  try clear hcz25_1
  try clear hcz25_2
  try clear hcz27_0
  try clear hcz27_1
  try clear hcz27_2
  try clear hcz28_0
  try clear hcz28_1
  try clear hcz28_2
  try clear hcz36_0
  try clear hcz36_1
  try clear hcz36_2
  try clear hcz39_0
  try clear hcz39_1
  try clear hcz39_2
  try clear hfz10_0
  try clear hfz10_1
  try clear hfz10_2
  try clear hfz16_0
  try clear hfz16_1
  try clear hfz16_2
  try clear hfz18_0
  try clear hfz18_1
  try clear hfz18_2
  try clear hfz25_0
  try clear hfz25_1
  try clear hfz25_2
  try clear hfz27_0
  try clear hfz27_1
  try clear hfz27_2
  try clear hfz28_0
  try clear hfz28_1
  try clear hfz28_2
  try clear hfz36_0
  try clear hfz36_1
  try clear hfz36_2
  try clear hfz39_0
  try clear hfz39_1
  try clear hfz39_2
  obtain ⟨kq, x33_5, rfl, HA, HJ5, HO_qg, HO_qi, HO_qj, HO_ql, BK106, BK107, BK115, BK124, HB⟩ := hcut
  cases kq with
  | zero => exact absurd HA.out (by simp [tollbarlaw17_TreeInserts.j0])
  | succ kj5 =>
   have H := HA.out
   clear HA
   simp only [tollbarlaw17_TreeInserts.j0] at H
   by_cases c41 : x33_5 = true
   ·subst c41
    have H1 : (some false) = some r := by rw [if_pos rfl] at H; exact H
    clear H
    have H := H1
    clear H1
    obtain rfl := Option.some.inj H
    go_wp2
    go_ret
    exact ⟨ze, zl HB.out⟩
   ·replace c41 := Bool.eq_false_iff.mpr c41
    subst c41
    have H1 : (if t125 = 0 then ((tollbarref17_All.f kj5 l0_0 a0_1 l0_2).bind fun bt129 => ((tollbarref17_All.f kj5 t116 t119 t120).bind fun bt133 => (if bt133.2 = true then ((tollbarref17_With.f kj5 bt129.1 a1_0 a1_1 a1_2).bind fun t137 => ((tollbarlaw0_SameItems.f kj5 bt133.1 t137).bind fun t140 => (tollbarlaw17_TreeInserts.j1 kj5 (!t140) l0_0 a0_1 l0_2 t108 t111 t112 t116 t119 t120))) else (tollbarlaw17_TreeInserts.j1 kj5 true l0_0 a0_1 l0_2 t108 t111 t112 t116 t119 t120)))) else ((tollbarlaw17_awake.f).bind fun t128 => (if t128 = true then (if (t116.length : Int) = 0 then (if (t120.length : Int) = 0 then (some (t119 == 0)) else (some false)) else (some false)) else (some false)))) = some r := by rw [if_neg (show ¬ (false = true) by decide)] at H; exact H
    clear H
    have H := H1
    clear H1
    by_cases c42 : t125 = 0
    ·rw [if_pos c42] at H
     have c42b0 : (t125 == 0) = true := yI.mpr c42
     have c42b1 : (t125 != 0) = false := yJ.mpr c42
     clear c42
     replace H := yH.mp H
     obtain ⟨⟨t129, t132⟩, A430, H⟩ := H
     replace H : ((tollbarref17_All.f kj5 t116 t119 t120).bind fun bt133 => (if bt133.2 = true then ((tollbarref17_With.f kj5 t129 a1_0 a1_1 a1_2).bind fun t137 => ((tollbarlaw0_SameItems.f kj5 bt133.1 t137).bind fun t140 => (tollbarlaw17_TreeInserts.j1 kj5 (!t140) l0_0 a0_1 l0_2 t108 t111 t112 t116 t119 t120))) else (tollbarlaw17_TreeInserts.j1 kj5 true l0_0 a0_1 l0_2 t108 t111 t112 t116 t119 t120))) = some r := H
     have A43 := zK A430
     clear A430
     replace H := yH.mp H
     obtain ⟨⟨t133, t136⟩, A440, H⟩ := H
     replace H : (if t136 = true then ((tollbarref17_With.f kj5 t129 a1_0 a1_1 a1_2).bind fun t137 => ((tollbarlaw0_SameItems.f kj5 t133 t137).bind fun t140 => (tollbarlaw17_TreeInserts.j1 kj5 (!t140) l0_0 a0_1 l0_2 t108 t111 t112 t116 t119 t120))) else (tollbarlaw17_TreeInserts.j1 kj5 true l0_0 a0_1 l0_2 t108 t111 t112 t116 t119 t120)) = some r := H
     have A44 := zK A440
     clear A440
     have HC45 := zK H
     clear H
     have hnb46 := NB106_107.out
     have hnc46 := NB107_106.out
     have hnb47 := NB106_115.out
     have hnc47 := NB115_106.out
     have hnb48 := NB106_124.out
     have hnc48 := NB124_106.out
     have hcz49_0 : wc.cell? ⟨gb106, 0, none⟩ = some (.slice A0_0 l0_0.length c0_0) := (zQ BK106.out 0).trans rfl
     have hcz49_1 : wc.cell? ⟨gb106, 1, none⟩ = some (.int .i64 a0_1) := (zQ BK106.out 1).trans rfl
     have hcz49_2 : wc.cell? ⟨gb106, 2, none⟩ = some (.slice A0_2 l0_2.length c0_2) := (zQ BK106.out 2).trans rfl
     have hfz49_0 := zR BK106.out 0
     have hfz49_1 := zR BK106.out 1
     have hfz49_2 := zR BK106.out 2
     go_upto_region 10 with (first | ((with_reducible refine gate_callee (f := 12) rfl ?_); refine goesL_ (some 56) rfl rfl Try.func12 (by kernel_rfl) rfl #[.agg #[.slice A0_0 l0_0.length c0_0, .int .i64 a0_1, .slice A0_2 l0_2.length c0_2]] rfl zt ?_; (with_reducible refine (tollbarref17_All.calls kj5 _ _ l0_0 a0_1 _ _ l0_2 t129 t132 _ ?side1 ?side2 ?side3 ?side4 A43.out).mono ?_); (case side1 => repeat (first | exact (yD HR0_0.out HB.out) | (with_reducible refine zS ?_ _) | (with_reducible refine zT ?_ _) | (with_reducible refine zU ?_))); (case side2 => exact HC0_0.out); (case side3 => repeat (first | exact (yD HR0_2.out HB.out) | (with_reducible refine zS ?_ _) | (with_reducible refine zT ?_ _) | (with_reducible refine zU ?_))); (case side4 => exact HC0_2.out); rintro e w50 ⟨v130, rfl, ho0, hb⟩; refine ⟨_, rfl, ?_⟩; have n0_ := zK (zO (zr HO_qg.out) hb); have n1_ := zK (zO (zr HO_qi.out) hb); have n2_ := zK (zO (zr HO_qj.out) hb); have n3_ := zK (zO (zr HO_ql.out) hb); have n4_ := zK (zV (Kd.R_newB ho0 (g := gb107) (o := .cells #[.int .i64 a1_0, .int .i64 a1_1, .int .i64 a1_2] 50 (0, 0)) (zb BK107.out)) (yG (zl HB.out))); have n5_ := zK (zP (g := gb106) (o := .cells #[.slice A0_0 l0_0.length c0_0, .int .i64 a0_1, .slice A0_2 l0_2.length c0_2] 25 (0, 0)) (zb BK106.out) hb); have n6_ := zK (zP (g := gb107) (o := .cells #[.int .i64 a1_0, .int .i64 a1_1, .int .i64 a1_2] 50 (0, 0)) (zb BK107.out) hb); have n7_ := zK (zP (g := gb115) (o := .cells #[.slice Ao13 t108.length co13, .int .i64 t111, .slice Ao17 t112.length co17] 25 (0, 0)) (zb BK115.out) hb); have n8_ := zK (zP (g := gb124) (o := .cells #[.slice Ao21 t116.length co21, .int .i64 t119, .slice Ao26 t120.length co26] 25 (0, 0)) (zb BK124.out) hb); have n9_ := zK (yF (zl HB.out) hb); clear HO_qg; clear HO_qi; clear HO_qj; clear HO_ql; clear BK106; clear BK107; clear BK115; clear BK124; clear HB; have HO_qg := n0_; have HO_qi := n1_; have HO_qj := n2_; have HO_ql := n3_; have HO131 := n4_; have BK106 := n5_; have BK107 := n6_; have BK115 := n7_; have BK124 := n8_; have HB := n9_; clear n0_ n1_ n2_ n3_ n4_ n5_ n6_ n7_ n8_ n9_; (try clear hb); (try clear hb2); (try clear hk); (try clear hi); (try clear ho0); have hnb51 := NB124_107.out; have hnc51 := NB107_124.out; have hnb52 := NB124_115.out; have hnc52 := NB115_124.out; have hcz53_0 : w50.cell? ⟨gb124, 0, none⟩ = some (.slice Ao21 t116.length co21) := (zQ BK124.out 0).trans rfl; have hcz53_1 : w50.cell? ⟨gb124, 1, none⟩ = some (.int .i64 t119) := (zQ BK124.out 1).trans rfl; have hcz53_2 : w50.cell? ⟨gb124, 2, none⟩ = some (.slice Ao26 t120.length co26) := (zQ BK124.out 2).trans rfl; have hfz53_0 := zR BK124.out 0; have hfz53_1 := zR BK124.out 1; have hfz53_2 := zR BK124.out 2) | ((with_reducible refine gate_callee (f := 12) rfl ?_); refine goesL_ (some 61) rfl rfl Try.func12 (by kernel_rfl) rfl #[.agg #[.slice Ao21 t116.length co21, .int .i64 t119, .slice Ao26 t120.length co26]] rfl zt ?_; (with_reducible refine (tollbarref17_All.calls kj5 _ _ t116 t119 _ _ t120 t133 t136 _ ?side1 ?side2 ?side3 ?side4 A44.out).mono ?_); (case side1 => exact zc (zX HO_qj.out).2.2); (case side2 => exact (zX HO_qj.out).2.1); (case side3 => exact zc (zX HO_ql.out).2.2); (case side4 => exact (zX HO_ql.out).2.1); rintro e w54 ⟨v134, rfl, ho0, hb⟩; refine ⟨_, rfl, ?_⟩; have n0_ := zK (zO (zr HO_qg.out) hb); have n1_ := zK (zO (zr HO_qi.out) hb); have n2_ := zK (zO (zr HO_qj.out) hb); have n3_ := zK (zO (zr HO_ql.out) hb); have n4_ := zK (yC (zr HO131.out) (Kd.R_base ho0) hb); have n5_ := zK (zV (Kd.R_newB (zW ho0 (yB (zr HO131.out))) (g := gb107) (o := .cells #[.int .i64 a1_0, .int .i64 a1_1, .int .i64 a1_2] 50 (0, 0)) (zb BK107.out)) (yG (zl HB.out))); have n6_ := zK (zP (g := gb106) (o := .cells #[.slice A0_0 l0_0.length c0_0, .int .i64 a0_1, .slice A0_2 l0_2.length c0_2] 25 (0, 0)) (zb BK106.out) hb); have n7_ := zK (zP (g := gb107) (o := .cells #[.int .i64 a1_0, .int .i64 a1_1, .int .i64 a1_2] 50 (0, 0)) (zb BK107.out) hb); have n8_ := zK (zP (g := gb115) (o := .cells #[.slice Ao13 t108.length co13, .int .i64 t111, .slice Ao17 t112.length co17] 25 (0, 0)) (zb BK115.out) hb); have n9_ := zK (zP (g := gb124) (o := .cells #[.slice Ao21 t116.length co21, .int .i64 t119, .slice Ao26 t120.length co26] 25 (0, 0)) (zb BK124.out) hb); have n10_ := zK (yF (zl HB.out) hb); clear HO_qg; clear HO_qi; clear HO_qj; clear HO_ql; clear HO131; clear BK106; clear BK107; clear BK115; clear BK124; clear HB; have HO_qg := n0_; have HO_qi := n1_; have HO_qj := n2_; have HO_ql := n3_; have HO131 := n4_; have HO135 := n5_; have BK106 := n6_; have BK107 := n7_; have BK115 := n8_; have BK124 := n9_; have HB := n10_; clear n0_ n1_ n2_ n3_ n4_ n5_ n6_ n7_ n8_ n9_ n10_; (try clear hb); (try clear hb2); (try clear hk); (try clear hi); (try clear ho0)))
     (try simp only [Act.put, zY, zZ, yA])
     go_cut [73] (fun v73 wc => ∃ (kq : Nat) (x73_44 : Bool), v73 = .bool x73_44 ∧ Aside0 (tollbarlaw17_TreeInserts.j1 kq x73_44 l0_0 a0_1 l0_2 t108 t111 t112 t116 t119 t120 = some r) ∧ Aside0 (kq ≤ kj5) ∧ Aside0 (Kd.R k64 64 wc w.heap.size (fun k_ => some k_ ≠ ((.slice Ao21 t116.length co21) : Value).ownBlock) (.slice Ao13 t108.length co13) t108) ∧ Aside0 (Kd.R (Kd.int .i64) 3 wc w.heap.size (fun k_ => some k_ ≠ ((.slice Ao26 t120.length co26) : Value).ownBlock) (.slice Ao17 t112.length co17) t112) ∧ Aside0 (Kd.R k64 64 wc w.heap.size (fun k_ => some k_ ≠ ((.slice Ao13 t108.length co13) : Value).ownBlock) (.slice Ao21 t116.length co21) t116) ∧ Aside0 (Kd.R (Kd.int .i64) 3 wc w.heap.size (fun k_ => some k_ ≠ ((.slice Ao17 t112.length co17) : Value).ownBlock) (.slice Ao26 t120.length co26) t120) ∧ Aside0 (wc.heap[gb106]? = some (.cells #[(.slice A0_0 l0_0.length c0_0), .int .i64 a0_1, (.slice A0_2 l0_2.length c0_2)] 25 (0, 0))) ∧ Aside0 (wc.heap[gb107]? = some (.cells #[.int .i64 a1_0, .int .i64 a1_1, .int .i64 a1_2] 50 (0, 0))) ∧ Aside0 (wc.heap[gb115]? = some (.cells #[(.slice Ao13 t108.length co13), .int .i64 t111, (.slice Ao17 t112.length co17)] 25 (0, 0))) ∧ Aside0 (wc.heap[gb124]? = some (.cells #[(.slice Ao21 t116.length co21), .int .i64 t119, (.slice Ao26 t120.length co26)] 25 (0, 0))) ∧ Aside0 (Below w.heap.size w wc))
     case first =>
      have H := HC45.out
      clear HC45
      by_cases c55 : t136 = true
      ·subst c55
       have H1 : ((tollbarref17_With.f kj5 t129 a1_0 a1_1 a1_2).bind fun t137 => ((tollbarlaw0_SameItems.f kj5 t133 t137).bind fun t140 => (tollbarlaw17_TreeInserts.j1 kj5 (!t140) l0_0 a0_1 l0_2 t108 t111 t112 t116 t119 t120))) = some r := by rw [if_pos rfl] at H; exact H
       clear H
       have H := H1
       clear H1
       replace H := yH.mp H
       obtain ⟨t137, A560, H⟩ := H
       replace H : ((tollbarlaw0_SameItems.f kj5 t133 t137).bind fun t140 => (tollbarlaw17_TreeInserts.j1 kj5 (!t140) l0_0 a0_1 l0_2 t108 t111 t112 t116 t119 t120)) = some r := H
       have A56 := zK A560
       clear A560
       replace H := yH.mp H
       obtain ⟨t140, A570, H⟩ := H
       replace H : (tollbarlaw17_TreeInserts.j1 kj5 (!t140) l0_0 a0_1 l0_2 t108 t111 t112 t116 t119 t120) = some r := H
       have A57 := zK A570
       clear A570
       have H' := zK H
       clear H
       have hnb58 := NB107_106.out
       have hnc58 := NB106_107.out
       have hnb59 := NB107_115.out
       have hnc59 := NB115_107.out
       have hnb60 := NB107_124.out
       have hnc60 := NB124_107.out
       have hcz61_0 : w54.cell? ⟨gb107, 0, none⟩ = some (.int .i64 a1_0) := (zQ BK107.out 0).trans rfl
       have hcz61_1 : w54.cell? ⟨gb107, 1, none⟩ = some (.int .i64 a1_1) := (zQ BK107.out 1).trans rfl
       have hcz61_2 : w54.cell? ⟨gb107, 2, none⟩ = some (.int .i64 a1_2) := (zQ BK107.out 2).trans rfl
       have hfz61_0 := zR BK107.out 0
       have hfz61_1 := zR BK107.out 1
       have hfz61_2 := zR BK107.out 2
       obtain ⟨Ao62, co62, eo62⟩ := yE HO131.out
       subst eo62
       go_wp2_with (first | (go_at_call 28; (with_reducible refine (tollbarref17_With.calls kj5 _ _ t129 a1_0 a1_1 a1_2 t137 _ ?side1 ?side2 A56.out).mono ?_); (case side1 => exact zc (zX HO131.out).2.2); (case side2 => exact (zX HO131.out).2.1); rintro e w63 ⟨v138, rfl, ho0, hb⟩; have n0_ := zK (zO (zr HO_qg.out) hb); have n1_ := zK (zO (zr HO_qi.out) hb); have n2_ := zK (zO (zr HO_qj.out) hb); have n3_ := zK (zO (zr HO_ql.out) hb); have n4_ := zK (yC (zr HO131.out) (Kd.R_base ho0) hb); have n5_ := zK (yC (zr HO135.out) (Kd.R_base ho0) hb); have n6_ := zK (zV (Kd.R_newB (zW (zW ho0 (yB (zr HO131.out))) (yB (zr HO135.out))) (g := gb107) (o := .cells #[.int .i64 a1_0, .int .i64 a1_1, .int .i64 a1_2] 50 (0, 0)) (zb BK107.out)) (yG (zl HB.out))); have n7_ := zK (zP (g := gb106) (o := .cells #[.slice A0_0 l0_0.length c0_0, .int .i64 a0_1, .slice A0_2 l0_2.length c0_2] 25 (0, 0)) (zb BK106.out) hb); have n8_ := zK (zP (g := gb107) (o := .cells #[.int .i64 a1_0, .int .i64 a1_1, .int .i64 a1_2] 50 (0, 0)) (zb BK107.out) hb); have n9_ := zK (zP (g := gb115) (o := .cells #[.slice Ao13 t108.length co13, .int .i64 t111, .slice Ao17 t112.length co17] 25 (0, 0)) (zb BK115.out) hb); have n10_ := zK (zP (g := gb124) (o := .cells #[.slice Ao21 t116.length co21, .int .i64 t119, .slice Ao26 t120.length co26] 25 (0, 0)) (zb BK124.out) hb); have n11_ := zK (yF (zl HB.out) hb); clear HO_qg; clear HO_qi; clear HO_qj; clear HO_ql; clear HO131; clear HO135; clear BK106; clear BK107; clear BK115; clear BK124; clear HB; have HO_qg := n0_; have HO_qi := n1_; have HO_qj := n2_; have HO_ql := n3_; have HO131 := n4_; have HO135 := n5_; have HO139 := n6_; have BK106 := n7_; have BK107 := n8_; have BK115 := n9_; have BK124 := n10_; have HB := n11_; clear n0_ n1_ n2_ n3_ n4_ n5_ n6_ n7_ n8_ n9_ n10_ n11_; (try clear hb); (try clear hb2); (try clear hk); (try clear hi); (try clear ho0); obtain ⟨Ao64, co64, eo64⟩ := yE HO135.out; subst eo64; obtain ⟨Ao65, co65, eo65⟩ := yE HO139.out; subst eo65) | (go_at_call 20; (with_reducible refine (tollbarlaw0_SameItems.calls kj5 _ _ t133 _ _ t137 t140 _ ?side1 ?side2 ?side3 ?side4 A57.out).mono ?_); (case side1 => exact zc (zX HO135.out).2.2); (case side2 => exact (zX HO135.out).2.1); (case side3 => exact zc (zX HO139.out).2.2); (case side4 => exact (zX HO139.out).2.1); rintro e w' ⟨rfl, ⟨nd, rfl⟩⟩))
       go_meet
       case rel => exact ⟨_, (!t140), zz, H', ⟨by have := HJ5.out; first | omega | exact Nat.le_refl _⟩, ⟨by (with_reducible repeat (first | apply zA | apply zB | apply zC)); exact HO_qg.out⟩, ⟨by (with_reducible repeat (first | apply zA | apply zB | apply zC)); exact HO_qi.out⟩, ⟨by (with_reducible repeat (first | apply zA | apply zB | apply zC)); exact HO_qj.out⟩, ⟨by (with_reducible repeat (first | apply zA | apply zB | apply zC)); exact HO_ql.out⟩, ⟨by (with_reducible repeat (first | refine zD ?_ _ | refine zE ?_ | refine zF ?_ _)); exact BK106.out⟩, ⟨by (with_reducible repeat (first | refine zD ?_ _ | refine zE ?_ | refine zF ?_ _)); exact BK107.out⟩, ⟨by (with_reducible repeat (first | refine zD ?_ _ | refine zE ?_ | refine zF ?_ _)); exact BK115.out⟩, ⟨by (with_reducible repeat (first | refine zD ?_ _ | refine zE ?_ | refine zF ?_ _)); exact BK124.out⟩, ⟨by repeat (first | (with_reducible first | exact HB.out | apply zG | apply zH | apply zI | refine zL ?_ GE106.out | refine zL ?_ GE107.out | refine zL ?_ GE115.out | refine zL ?_ GE124.out) | exact HB.out)⟩⟩
      ·replace c55 := Bool.eq_false_iff.mpr c55
       subst c55
       have H1 : (tollbarlaw17_TreeInserts.j1 kj5 true l0_0 a0_1 l0_2 t108 t111 t112 t116 t119 t120) = some r := by rw [if_neg (show ¬ (false = true) by decide)] at H; exact H
       clear H
       have H := H1
       clear H1
       have H' := zK H
       clear H
       go_wp2
       go_meet
       case rel => exact ⟨_, (true), zz, H', ⟨by have := HJ5.out; first | omega | exact Nat.le_refl _⟩, ⟨by (with_reducible repeat (first | apply zA | apply zB | apply zC)); exact HO_qg.out⟩, ⟨by (with_reducible repeat (first | apply zA | apply zB | apply zC)); exact HO_qi.out⟩, ⟨by (with_reducible repeat (first | apply zA | apply zB | apply zC)); exact HO_qj.out⟩, ⟨by (with_reducible repeat (first | apply zA | apply zB | apply zC)); exact HO_ql.out⟩, ⟨by (with_reducible repeat (first | refine zD ?_ _ | refine zE ?_ | refine zF ?_ _)); exact BK106.out⟩, ⟨by (with_reducible repeat (first | refine zD ?_ _ | refine zE ?_ | refine zF ?_ _)); exact BK107.out⟩, ⟨by (with_reducible repeat (first | refine zD ?_ _ | refine zE ?_ | refine zF ?_ _)); exact BK115.out⟩, ⟨by (with_reducible repeat (first | refine zD ?_ _ | refine zE ?_ | refine zF ?_ _)); exact BK124.out⟩, ⟨by repeat (first | (with_reducible first | exact HB.out | apply zG | apply zH | apply zI | refine zL ?_ GE106.out | refine zL ?_ GE107.out | refine zL ?_ GE115.out | refine zL ?_ GE124.out) | exact HB.out)⟩⟩
     case rest =>
      clear HC45
      try clear c1
      try clear c2
      try clear p2
      try clear c3
      try clear c4
      try clear c5
      try clear c6
      try clear c9
      try clear c11
      try clear c12
      try clear c14
      try clear c15
      try clear c19
      try clear c22
      try clear c23
      try clear c24
      try clear c26
      try clear c27
      try clear c31
      try clear c31b0
      try clear c31b1
      try clear c33
      try clear c34
      try clear c35
      try clear c37
      try clear c38
      try clear c41
      try clear c42
      try clear c42b0
      try clear c42b1
      try clear c46
      try clear c47
      try clear c48
      try clear c51
      try clear c52
      try clear c55
      try clear c58
      try clear c59
      try clear c60
      try clear hcz10_0
      try clear hcz10_1
      try clear hcz10_2
      try clear hcz16_0
      try clear hcz16_1
      try clear hcz16_2
      try clear hcz18_0
      try clear hcz18_1
      try clear hcz18_2
      try clear hcz25_0
      try clear hcz25_1
      try clear hcz25_2
      try clear hcz27_0
      try clear hcz27_1
      try clear hcz27_2
      try clear hcz28_0
      try clear hcz28_1
      try clear hcz28_2
      try clear hcz36_0
      try clear hcz36_1
      try clear hcz36_2
      try clear hcz39_0
      try clear hcz39_1
      try clear hcz39_2
      try clear hcz49_0
      try clear hcz49_1
      try clear hcz49_2
      try clear hcz53_0
      try clear hcz53_1
      try clear hcz53_2
      try clear hcz61_0
      try clear hcz61_1
      try clear hcz61_2
      try clear hfz10_0
      try clear hfz10_1
      try clear hfz10_2
      try clear hfz16_0
      try clear hfz16_1
      try clear hfz16_2
      try clear hfz18_0
      try clear hfz18_1
      try clear hfz18_2
      try clear hfz25_0
      try clear hfz25_1
      try clear hfz25_2
      try clear hfz27_0
      try clear hfz27_1
      try clear hfz27_2
      try clear hfz28_0
      try clear hfz28_1
      try clear hfz28_2
      try clear hfz36_0
      try clear hfz36_1
      try clear hfz36_2
      try clear hfz39_0
      try clear hfz39_1
      try clear hfz39_2
      try clear hfz49_0
      try clear hfz49_1
      try clear hfz49_2
      try clear hfz53_0
      try clear hfz53_1
      try clear hfz53_2
      try clear hfz61_0
      try clear hfz61_1
      try clear hfz61_2
      try clear p2
      obtain ⟨kq, x73_44, rfl, HA, HJ44, HO_qg, HO_qi, HO_qj, HO_ql, BK106, BK107, BK115, BK124, HB⟩ := hcut
      cases kq with
      | zero => exact absurd HA.out (by simp [tollbarlaw17_TreeInserts.j1])
      | succ kj44 =>
       have H := HA.out
       clear HA
       simp only [tollbarlaw17_TreeInserts.j1] at H
       by_cases c66 : x73_44 = true
       ·subst c66
        have H1 : (some false) = some r := by rw [if_pos rfl] at H; exact H
        clear H
        have H := H1
        clear H1
        obtain rfl := Option.some.inj H
        go_wp2
        go_ret
        exact ⟨ze, zl HB.out⟩
       ·replace c66 := Bool.eq_false_iff.mpr c66
        subst c66
        have H1 : ((tollbarlaw0_SpoilTree.f kj44 t116 t119 t120).bind fun bt141 => ((tollbarlaw17_awake.f).bind fun t143 => (if t143 = true then ((tollbarlaw0_SameTree.f kj44 t108 t111 t112 l0_0 a0_1 l0_2).bind fun t144 => (some t144)) else (some false)))) = some r := by rw [if_neg (show ¬ (false = true) by decide)] at H; exact H
        clear H
        have H := H1
        clear H1
        replace H := yH.mp H
        obtain ⟨⟨t141, t142⟩, A670, H⟩ := H
        replace H : ((tollbarlaw17_awake.f).bind fun t143 => (if t143 = true then ((tollbarlaw0_SameTree.f kj44 t108 t111 t112 l0_0 a0_1 l0_2).bind fun t144 => (some t144)) else (some false))) = some r := H
        have A67 := zK A670
        clear A670
        replace H := yH.mp H
        obtain ⟨t143, A680, H⟩ := H
        replace H : (if t143 = true then ((tollbarlaw0_SameTree.f kj44 t108 t111 t112 l0_0 a0_1 l0_2).bind fun t144 => (some t144)) else (some false)) = some r := H
        have A68 := zK A680
        clear A680
        by_cases c69 : t143 = true
        ·subst c69
         have H1 : ((tollbarlaw0_SameTree.f kj44 t108 t111 t112 l0_0 a0_1 l0_2).bind fun t144 => (some t144)) = some r := by rw [if_pos rfl] at H; exact H
         clear H
         have H := H1
         clear H1
         replace H := yH.mp H
         obtain ⟨t144, A700, H⟩ := H
         replace H : (some t144) = some r := H
         have A70 := zK A700
         clear A700
         obtain rfl := Option.some.inj H
         have hnb71 := NB124_106.out
         have hnc71 := NB106_124.out
         have hnb72 := NB124_107.out
         have hnc72 := NB107_124.out
         have hnb73 := NB124_115.out
         have hnc73 := NB115_124.out
         have hcz74_0 : wc.cell? ⟨gb124, 0, none⟩ = some (.slice Ao21 t116.length co21) := (zQ BK124.out 0).trans rfl
         have hcz74_1 : wc.cell? ⟨gb124, 1, none⟩ = some (.int .i64 t119) := (zQ BK124.out 1).trans rfl
         have hcz74_2 : wc.cell? ⟨gb124, 2, none⟩ = some (.slice Ao26 t120.length co26) := (zQ BK124.out 2).trans rfl
         have hfz74_0 := zR BK124.out 0
         have hfz74_1 := zR BK124.out 1
         have hfz74_2 := zR BK124.out 2
         go_wp2_with (first | ((with_reducible refine gate_callee (f := 29) rfl ?_); refine goesL_ (some 75) rfl rfl Try.func29 (by kernel_rfl) rfl #[.agg #[.slice Ao21 t116.length co21, .int .i64 t119, .slice Ao26 t120.length co26]] rfl zt ?_; (with_reducible refine (tollbarlaw0_SpoilTree.calls kj44 (fun k_ => some k_ = (.slice Ao21 t116.length co21 : Value).ownBlock) (.slice Ao21 t116.length co21) t116 t119 (fun k_ => some k_ = (.slice Ao26 t120.length co26 : Value).ownBlock) (.slice Ao26 t120.length co26) t120 t141 t142 w _ ?side1 ?side2 ?side3 A67.out).mono ?_); (case side1 => repeat (first | (with_reducible first | exact HB.out | apply zG | apply zH | apply zI | refine zL ?_ GE106.out | refine zL ?_ GE107.out | refine zL ?_ GE115.out | refine zL ?_ GE124.out) | exact HB.out)); (case side2 => exact Kd.R_tight rfl HO_qj.out); (case side3 => exact Kd.R_tight rfl HO_ql.out); rintro e w75 ⟨rfl, hy0, hy1, hb, hkp⟩; refine ⟨_, rfl, ?_⟩; have n0_ := zK (Kd.R_mono (ok' := fun k_ => some k_ ≠ (.slice Ao21 t116.length co21 : Value).ownBlock) (Kd.R_keptB ((Kd.R_apart' HO_qg.out (Kd.R_typed HO_ql.out) (by decide))) hkp (fun k_ hk_ hs_ => Or.elim hs_ (fun e_ => (hk_.1) e_) (fun e_ => (hk_.2) e_))) (fun k_ hk_ => hk_.1.1)); have n1_ := zK (Kd.R_mono (ok' := fun k_ => some k_ ≠ (.slice Ao26 t120.length co26 : Value).ownBlock) (Kd.R_keptB ((Kd.R_apart' HO_qi.out (Kd.R_typed HO_qj.out) (by decide))) hkp (fun k_ hk_ hs_ => Or.elim hs_ (fun e_ => (hk_.2) e_) (fun e_ => (hk_.1) e_))) (fun k_ hk_ => hk_.1.1)); have n2_ := zK (Kd.R_reok rfl hy0 (fun k_ e_ => HO_qj.out.1 k_ e_)); have n3_ := zK (Kd.R_reok rfl hy1 (fun k_ e_ => HO_ql.out.1 k_ e_)); have n4_ := zK (blk_kept (zb BK106.out) hkp (fun hs_ => Or.elim hs_ (fun e_ => (fun e_ => (Kd.R_ne HO_qj.out BK106.out (by decide)) e_) e_) (fun e_ => (fun e_ => (Kd.R_ne HO_ql.out BK106.out (by decide)) e_) e_))); have n5_ := zK (blk_kept (zb BK107.out) hkp (fun hs_ => Or.elim hs_ (fun e_ => (fun e_ => (Kd.R_ne HO_qj.out BK107.out (by decide)) e_) e_) (fun e_ => (fun e_ => (Kd.R_ne HO_ql.out BK107.out (by decide)) e_) e_))); have n6_ := zK (blk_kept (zb BK115.out) hkp (fun hs_ => Or.elim hs_ (fun e_ => (fun e_ => (Kd.R_ne HO_qj.out BK115.out (by decide)) e_) e_) (fun e_ => (fun e_ => (Kd.R_ne HO_ql.out BK115.out (by decide)) e_) e_))); have n7_ := zK (blk_kept (zb BK124.out) hkp (fun hs_ => Or.elim hs_ (fun e_ => (fun e_ => (Kd.R_ne HO_qj.out BK124.out (by decide)) e_) e_) (fun e_ => (fun e_ => (Kd.R_ne HO_ql.out BK124.out (by decide)) e_) e_))); have n8_ := zK (hb); clear HO_qg; clear HO_qi; clear HO_qj; clear HO_ql; clear BK106; clear BK107; clear BK115; clear BK124; clear HB; have HO_qg := n0_; have HO_qi := n1_; have HO_qj := n2_; have HO_ql := n3_; have BK106 := n4_; have BK107 := n5_; have BK115 := n6_; have BK124 := n7_; have HB := n8_; clear n0_ n1_ n2_ n3_ n4_ n5_ n6_ n7_ n8_; (try clear hb); (try clear hkp); (try clear hy0); (try clear hy1)) | ((with_reducible refine gate_callee (f := 18) rfl ?_); refine goesL_ (some 76) rfl rfl Try.func18 (by kernel_rfl) rfl #[] rfl zt ?_; (with_reducible refine (tollbarlaw17_awake.calls  true _ A68.out).mono ?_); rintro e w76 ⟨rfl, hb⟩; refine ⟨_, rfl, ?_⟩; have n0_ := zK (zO (zr HO_qg.out) hb); have n1_ := zK (zO (zr HO_qi.out) hb); have n2_ := zK (zO (zr HO_qj.out) hb); have n3_ := zK (zO (zr HO_ql.out) hb); have n4_ := zK (zP (g := gb106) (o := .cells #[.slice A0_0 l0_0.length c0_0, .int .i64 a0_1, .slice A0_2 l0_2.length c0_2] 25 (0, 0)) (zb BK106.out) hb); have n5_ := zK (zP (g := gb107) (o := .cells #[.int .i64 a1_0, .int .i64 a1_1, .int .i64 a1_2] 50 (0, 0)) (zb BK107.out) hb); have n6_ := zK (zP (g := gb115) (o := .cells #[.slice Ao13 t108.length co13, .int .i64 t111, .slice Ao17 t112.length co17] 25 (0, 0)) (zb BK115.out) hb); have n7_ := zK (zP (g := gb124) (o := .cells #[.slice Ao21 t116.length co21, .int .i64 t119, .slice Ao26 t120.length co26] 25 (0, 0)) (zb BK124.out) hb); have n8_ := zK (yF (zl HB.out) hb); clear HO_qg; clear HO_qi; clear HO_qj; clear HO_ql; clear BK106; clear BK107; clear BK115; clear BK124; clear HB; have HO_qg := n0_; have HO_qi := n1_; have HO_qj := n2_; have HO_ql := n3_; have BK106 := n4_; have BK107 := n5_; have BK115 := n6_; have BK124 := n7_; have HB := n8_; clear n0_ n1_ n2_ n3_ n4_ n5_ n6_ n7_ n8_; (try clear hb); (try clear hb2); (try clear hk); (try clear hi); have hnb77 := NB115_106.out; have hnc77 := NB106_115.out; have hnb78 := NB115_107.out; have hnc78 := NB107_115.out; have hcz79_0 : w76.cell? ⟨gb115, 0, none⟩ = some (.slice Ao13 t108.length co13) := (zQ BK115.out 0).trans rfl; have hcz79_1 : w76.cell? ⟨gb115, 1, none⟩ = some (.int .i64 t111) := (zQ BK115.out 1).trans rfl; have hcz79_2 : w76.cell? ⟨gb115, 2, none⟩ = some (.slice Ao17 t112.length co17) := (zQ BK115.out 2).trans rfl; have hfz79_0 := zR BK115.out 0; have hfz79_1 := zR BK115.out 1; have hfz79_2 := zR BK115.out 2; have hnb80 := NB106_107.out; have hnc80 := NB107_106.out; have hcz81_0 : w76.cell? ⟨gb106, 0, none⟩ = some (.slice A0_0 l0_0.length c0_0) := (zQ BK106.out 0).trans rfl; have hcz81_1 : w76.cell? ⟨gb106, 1, none⟩ = some (.int .i64 a0_1) := (zQ BK106.out 1).trans rfl; have hcz81_2 : w76.cell? ⟨gb106, 2, none⟩ = some (.slice A0_2 l0_2.length c0_2) := (zQ BK106.out 2).trans rfl; have hfz81_0 := zR BK106.out 0; have hfz81_1 := zR BK106.out 1; have hfz81_2 := zR BK106.out 2) | (go_at_call 17; (with_reducible refine (tollbarlaw0_SameTree.calls kj44 _ _ t108 t111 _ _ t112 _ _ l0_0 a0_1 _ _ l0_2 t144 _ ?side1 ?side2 ?side3 ?side4 ?side5 ?side6 ?side7 ?side8 A70.out).mono ?_); (case side1 => exact zc (zX HO_qg.out).2.2); (case side2 => exact (zX HO_qg.out).2.1); (case side3 => exact zc (zX HO_qi.out).2.2); (case side4 => exact (zX HO_qi.out).2.1); (case side5 => repeat (first | exact (yD HR0_0.out HB.out) | (with_reducible refine zS ?_ _) | (with_reducible refine zT ?_ _) | (with_reducible refine zU ?_))); (case side6 => exact HC0_0.out); (case side7 => repeat (first | exact (yD HR0_2.out HB.out) | (with_reducible refine zS ?_ _) | (with_reducible refine zT ?_ _) | (with_reducible refine zU ?_))); (case side8 => exact HC0_2.out); rintro e w82 ⟨rfl, hb⟩; have n0_ := zK (zO (zr HO_qg.out) hb); have n1_ := zK (zO (zr HO_qi.out) hb); have n2_ := zK (zO (zr HO_qj.out) hb); have n3_ := zK (zO (zr HO_ql.out) hb); have n4_ := zK (zP (g := gb106) (o := .cells #[.slice A0_0 l0_0.length c0_0, .int .i64 a0_1, .slice A0_2 l0_2.length c0_2] 25 (0, 0)) (zb BK106.out) hb); have n5_ := zK (zP (g := gb107) (o := .cells #[.int .i64 a1_0, .int .i64 a1_1, .int .i64 a1_2] 50 (0, 0)) (zb BK107.out) hb); have n6_ := zK (zP (g := gb115) (o := .cells #[.slice Ao13 t108.length co13, .int .i64 t111, .slice Ao17 t112.length co17] 25 (0, 0)) (zb BK115.out) hb); have n7_ := zK (zP (g := gb124) (o := .cells #[.slice Ao21 t116.length co21, .int .i64 t119, .slice Ao26 t120.length co26] 25 (0, 0)) (zb BK124.out) hb); have n8_ := zK (yF (zl HB.out) hb); clear HO_qg; clear HO_qi; clear HO_qj; clear HO_ql; clear BK106; clear BK107; clear BK115; clear BK124; clear HB; have HO_qg := n0_; have HO_qi := n1_; have HO_qj := n2_; have HO_ql := n3_; have BK106 := n4_; have BK107 := n5_; have BK115 := n6_; have BK124 := n7_; have HB := n8_; clear n0_ n1_ n2_ n3_ n4_ n5_ n6_ n7_ n8_; (try clear hb); (try clear hb2); (try clear hk); (try clear hi)))
         go_ret
         exact ⟨ze, zl HB.out⟩
        ·replace c69 := Bool.eq_false_iff.mpr c69
         subst c69
         have H1 : (some false) = some r := by rw [if_neg (show ¬ (false = true) by decide)] at H; exact H
         clear H
         have H := H1
         clear H1
         obtain rfl := Option.some.inj H
         have hnb83 := NB124_106.out
         have hnc83 := NB106_124.out
         have hnb84 := NB124_107.out
         have hnc84 := NB107_124.out
         have hnb85 := NB124_115.out
         have hnc85 := NB115_124.out
         have hcz86_0 : wc.cell? ⟨gb124, 0, none⟩ = some (.slice Ao21 t116.length co21) := (zQ BK124.out 0).trans rfl
         have hcz86_1 : wc.cell? ⟨gb124, 1, none⟩ = some (.int .i64 t119) := (zQ BK124.out 1).trans rfl
         have hcz86_2 : wc.cell? ⟨gb124, 2, none⟩ = some (.slice Ao26 t120.length co26) := (zQ BK124.out 2).trans rfl
         have hfz86_0 := zR BK124.out 0
         have hfz86_1 := zR BK124.out 1
         have hfz86_2 := zR BK124.out 2
         go_wp2_with (first | ((with_reducible refine gate_callee (f := 29) rfl ?_); refine goesL_ (some 75) rfl rfl Try.func29 (by kernel_rfl) rfl #[.agg #[.slice Ao21 t116.length co21, .int .i64 t119, .slice Ao26 t120.length co26]] rfl zt ?_; (with_reducible refine (tollbarlaw0_SpoilTree.calls kj44 (fun k_ => some k_ = (.slice Ao21 t116.length co21 : Value).ownBlock) (.slice Ao21 t116.length co21) t116 t119 (fun k_ => some k_ = (.slice Ao26 t120.length co26 : Value).ownBlock) (.slice Ao26 t120.length co26) t120 t141 t142 w _ ?side1 ?side2 ?side3 A67.out).mono ?_); (case side1 => repeat (first | (with_reducible first | exact HB.out | apply zG | apply zH | apply zI | refine zL ?_ GE106.out | refine zL ?_ GE107.out | refine zL ?_ GE115.out | refine zL ?_ GE124.out) | exact HB.out)); (case side2 => exact Kd.R_tight rfl HO_qj.out); (case side3 => exact Kd.R_tight rfl HO_ql.out); rintro e w87 ⟨rfl, hy0, hy1, hb, hkp⟩; refine ⟨_, rfl, ?_⟩; have n0_ := zK (Kd.R_mono (ok' := fun k_ => some k_ ≠ (.slice Ao21 t116.length co21 : Value).ownBlock) (Kd.R_keptB ((Kd.R_apart' HO_qg.out (Kd.R_typed HO_ql.out) (by decide))) hkp (fun k_ hk_ hs_ => Or.elim hs_ (fun e_ => (hk_.1) e_) (fun e_ => (hk_.2) e_))) (fun k_ hk_ => hk_.1.1)); have n1_ := zK (Kd.R_mono (ok' := fun k_ => some k_ ≠ (.slice Ao26 t120.length co26 : Value).ownBlock) (Kd.R_keptB ((Kd.R_apart' HO_qi.out (Kd.R_typed HO_qj.out) (by decide))) hkp (fun k_ hk_ hs_ => Or.elim hs_ (fun e_ => (hk_.2) e_) (fun e_ => (hk_.1) e_))) (fun k_ hk_ => hk_.1.1)); have n2_ := zK (Kd.R_reok rfl hy0 (fun k_ e_ => HO_qj.out.1 k_ e_)); have n3_ := zK (Kd.R_reok rfl hy1 (fun k_ e_ => HO_ql.out.1 k_ e_)); have n4_ := zK (blk_kept (zb BK106.out) hkp (fun hs_ => Or.elim hs_ (fun e_ => (fun e_ => (Kd.R_ne HO_qj.out BK106.out (by decide)) e_) e_) (fun e_ => (fun e_ => (Kd.R_ne HO_ql.out BK106.out (by decide)) e_) e_))); have n5_ := zK (blk_kept (zb BK107.out) hkp (fun hs_ => Or.elim hs_ (fun e_ => (fun e_ => (Kd.R_ne HO_qj.out BK107.out (by decide)) e_) e_) (fun e_ => (fun e_ => (Kd.R_ne HO_ql.out BK107.out (by decide)) e_) e_))); have n6_ := zK (blk_kept (zb BK115.out) hkp (fun hs_ => Or.elim hs_ (fun e_ => (fun e_ => (Kd.R_ne HO_qj.out BK115.out (by decide)) e_) e_) (fun e_ => (fun e_ => (Kd.R_ne HO_ql.out BK115.out (by decide)) e_) e_))); have n7_ := zK (blk_kept (zb BK124.out) hkp (fun hs_ => Or.elim hs_ (fun e_ => (fun e_ => (Kd.R_ne HO_qj.out BK124.out (by decide)) e_) e_) (fun e_ => (fun e_ => (Kd.R_ne HO_ql.out BK124.out (by decide)) e_) e_))); have n8_ := zK (hb); clear HO_qg; clear HO_qi; clear HO_qj; clear HO_ql; clear BK106; clear BK107; clear BK115; clear BK124; clear HB; have HO_qg := n0_; have HO_qi := n1_; have HO_qj := n2_; have HO_ql := n3_; have BK106 := n4_; have BK107 := n5_; have BK115 := n6_; have BK124 := n7_; have HB := n8_; clear n0_ n1_ n2_ n3_ n4_ n5_ n6_ n7_ n8_; (try clear hb); (try clear hkp); (try clear hy0); (try clear hy1)) | ((with_reducible refine gate_callee (f := 18) rfl ?_); refine goesL_ (some 76) rfl rfl Try.func18 (by kernel_rfl) rfl #[] rfl zt ?_; (with_reducible refine (tollbarlaw17_awake.calls  false _ A68.out).mono ?_); rintro e w88 ⟨rfl, hb⟩; refine ⟨_, rfl, ?_⟩; have n0_ := zK (zO (zr HO_qg.out) hb); have n1_ := zK (zO (zr HO_qi.out) hb); have n2_ := zK (zO (zr HO_qj.out) hb); have n3_ := zK (zO (zr HO_ql.out) hb); have n4_ := zK (zP (g := gb106) (o := .cells #[.slice A0_0 l0_0.length c0_0, .int .i64 a0_1, .slice A0_2 l0_2.length c0_2] 25 (0, 0)) (zb BK106.out) hb); have n5_ := zK (zP (g := gb107) (o := .cells #[.int .i64 a1_0, .int .i64 a1_1, .int .i64 a1_2] 50 (0, 0)) (zb BK107.out) hb); have n6_ := zK (zP (g := gb115) (o := .cells #[.slice Ao13 t108.length co13, .int .i64 t111, .slice Ao17 t112.length co17] 25 (0, 0)) (zb BK115.out) hb); have n7_ := zK (zP (g := gb124) (o := .cells #[.slice Ao21 t116.length co21, .int .i64 t119, .slice Ao26 t120.length co26] 25 (0, 0)) (zb BK124.out) hb); have n8_ := zK (yF (zl HB.out) hb); clear HO_qg; clear HO_qi; clear HO_qj; clear HO_ql; clear BK106; clear BK107; clear BK115; clear BK124; clear HB; have HO_qg := n0_; have HO_qi := n1_; have HO_qj := n2_; have HO_ql := n3_; have BK106 := n4_; have BK107 := n5_; have BK115 := n6_; have BK124 := n7_; have HB := n8_; clear n0_ n1_ n2_ n3_ n4_ n5_ n6_ n7_ n8_; (try clear hb); (try clear hb2); (try clear hk); (try clear hi)))
         go_ret
         exact ⟨ze, zl HB.out⟩
    ·rw [if_neg c42] at H
     have c42b0 : (t125 == 0) = false := yK.mpr c42
     have c42b1 : (t125 != 0) = true := yL.mpr c42
     replace H := yH.mp H
     obtain ⟨t128, A890, H⟩ := H
     replace H : (if t128 = true then (if (t116.length : Int) = 0 then (if (t120.length : Int) = 0 then (some (t119 == 0)) else (some false)) else (some false)) else (some false)) = some r := H
     have A89 := zK A890
     clear A890
     by_cases c90 : t128 = true
     ·subst c90
      have H1 : (if (t116.length : Int) = 0 then (if (t120.length : Int) = 0 then (some (t119 == 0)) else (some false)) else (some false)) = some r := by rw [if_pos rfl] at H; exact H
      clear H
      have H := H1
      clear H1
      by_cases c91 : (t116.length : Int) = 0
      ·rw [if_pos c91] at H
       have c91b0 : ((t116.length : Int) == 0) = true := yI.mpr c91
       have c91b1 : ((t116.length : Int) != 0) = false := yJ.mpr c91
       clear c91
       by_cases c92 : (t120.length : Int) = 0
       ·rw [if_pos c92] at H
        have c92b0 : ((t120.length : Int) == 0) = true := yI.mpr c92
        have c92b1 : ((t120.length : Int) != 0) = false := yJ.mpr c92
        clear c92
        obtain rfl := Option.some.inj H
        go_wp2_with (first | ((with_reducible refine gate_callee (f := 18) rfl ?_); refine goesL_ (some 36) rfl rfl Try.func18 (by kernel_rfl) rfl #[] rfl zt ?_; (with_reducible refine (tollbarlaw17_awake.calls  true _ A89.out).mono ?_); rintro e w93 ⟨rfl, hb⟩; refine ⟨_, rfl, ?_⟩; have n0_ := zK (zO (zr HO_qg.out) hb); have n1_ := zK (zO (zr HO_qi.out) hb); have n2_ := zK (zO (zr HO_qj.out) hb); have n3_ := zK (zO (zr HO_ql.out) hb); have n4_ := zK (zP (g := gb106) (o := .cells #[.slice A0_0 l0_0.length c0_0, .int .i64 a0_1, .slice A0_2 l0_2.length c0_2] 25 (0, 0)) (zb BK106.out) hb); have n5_ := zK (zP (g := gb107) (o := .cells #[.int .i64 a1_0, .int .i64 a1_1, .int .i64 a1_2] 50 (0, 0)) (zb BK107.out) hb); have n6_ := zK (zP (g := gb115) (o := .cells #[.slice Ao13 t108.length co13, .int .i64 t111, .slice Ao17 t112.length co17] 25 (0, 0)) (zb BK115.out) hb); have n7_ := zK (zP (g := gb124) (o := .cells #[.slice Ao21 t116.length co21, .int .i64 t119, .slice Ao26 t120.length co26] 25 (0, 0)) (zb BK124.out) hb); have n8_ := zK (yF (zl HB.out) hb); clear HO_qg; clear HO_qi; clear HO_qj; clear HO_ql; clear BK106; clear BK107; clear BK115; clear BK124; clear HB; have HO_qg := n0_; have HO_qi := n1_; have HO_qj := n2_; have HO_ql := n3_; have BK106 := n4_; have BK107 := n5_; have BK115 := n6_; have BK124 := n7_; have HB := n8_; clear n0_ n1_ n2_ n3_ n4_ n5_ n6_ n7_ n8_; (try clear hb); (try clear hb2); (try clear hk); (try clear hi); have hnb94 := NB124_106.out; have hnc94 := NB106_124.out; have hnb95 := NB124_107.out; have hnc95 := NB107_124.out; have hnb96 := NB124_115.out; have hnc96 := NB115_124.out; have hcz97_0 : w93.cell? ⟨gb124, 0, none⟩ = some (.slice Ao21 t116.length co21) := (zQ BK124.out 0).trans rfl; have hcz97_1 : w93.cell? ⟨gb124, 1, none⟩ = some (.int .i64 t119) := (zQ BK124.out 1).trans rfl; have hcz97_2 : w93.cell? ⟨gb124, 2, none⟩ = some (.slice Ao26 t120.length co26) := (zQ BK124.out 2).trans rfl; have hfz97_0 := zR BK124.out 0; have hfz97_1 := zR BK124.out 1; have hfz97_2 := zR BK124.out 2))
        go_ret
        exact ⟨ze, zl HB.out⟩
       ·rw [if_neg c92] at H
        have c92b0 : ((t120.length : Int) == 0) = false := yK.mpr c92
        have c92b1 : ((t120.length : Int) != 0) = true := yL.mpr c92
        have c92b2 : ¬ (t120 = []) := fun h_ => c92 (by rw [h_]; rfl)
        obtain rfl := Option.some.inj H
        go_wp2_with (first | ((with_reducible refine gate_callee (f := 18) rfl ?_); refine goesL_ (some 36) rfl rfl Try.func18 (by kernel_rfl) rfl #[] rfl zt ?_; (with_reducible refine (tollbarlaw17_awake.calls  true _ A89.out).mono ?_); rintro e w98 ⟨rfl, hb⟩; refine ⟨_, rfl, ?_⟩; have n0_ := zK (zO (zr HO_qg.out) hb); have n1_ := zK (zO (zr HO_qi.out) hb); have n2_ := zK (zO (zr HO_qj.out) hb); have n3_ := zK (zO (zr HO_ql.out) hb); have n4_ := zK (zP (g := gb106) (o := .cells #[.slice A0_0 l0_0.length c0_0, .int .i64 a0_1, .slice A0_2 l0_2.length c0_2] 25 (0, 0)) (zb BK106.out) hb); have n5_ := zK (zP (g := gb107) (o := .cells #[.int .i64 a1_0, .int .i64 a1_1, .int .i64 a1_2] 50 (0, 0)) (zb BK107.out) hb); have n6_ := zK (zP (g := gb115) (o := .cells #[.slice Ao13 t108.length co13, .int .i64 t111, .slice Ao17 t112.length co17] 25 (0, 0)) (zb BK115.out) hb); have n7_ := zK (zP (g := gb124) (o := .cells #[.slice Ao21 t116.length co21, .int .i64 t119, .slice Ao26 t120.length co26] 25 (0, 0)) (zb BK124.out) hb); have n8_ := zK (yF (zl HB.out) hb); clear HO_qg; clear HO_qi; clear HO_qj; clear HO_ql; clear BK106; clear BK107; clear BK115; clear BK124; clear HB; have HO_qg := n0_; have HO_qi := n1_; have HO_qj := n2_; have HO_ql := n3_; have BK106 := n4_; have BK107 := n5_; have BK115 := n6_; have BK124 := n7_; have HB := n8_; clear n0_ n1_ n2_ n3_ n4_ n5_ n6_ n7_ n8_; (try clear hb); (try clear hb2); (try clear hk); (try clear hi); have hnb99 := NB124_106.out; have hnc99 := NB106_124.out; have hnb100 := NB124_107.out; have hnc100 := NB107_124.out; have hnb101 := NB124_115.out; have hnc101 := NB115_124.out; have hcz102_0 : w98.cell? ⟨gb124, 0, none⟩ = some (.slice Ao21 t116.length co21) := (zQ BK124.out 0).trans rfl; have hcz102_1 : w98.cell? ⟨gb124, 1, none⟩ = some (.int .i64 t119) := (zQ BK124.out 1).trans rfl; have hcz102_2 : w98.cell? ⟨gb124, 2, none⟩ = some (.slice Ao26 t120.length co26) := (zQ BK124.out 2).trans rfl; have hfz102_0 := zR BK124.out 0; have hfz102_1 := zR BK124.out 1; have hfz102_2 := zR BK124.out 2))
        go_ret
        exact ⟨ze, zl HB.out⟩
      ·rw [if_neg c91] at H
       have c91b0 : ((t116.length : Int) == 0) = false := yK.mpr c91
       have c91b1 : ((t116.length : Int) != 0) = true := yL.mpr c91
       have c91b2 : ¬ (t116 = []) := fun h_ => c91 (by rw [h_]; rfl)
       obtain rfl := Option.some.inj H
       go_wp2_with (first | ((with_reducible refine gate_callee (f := 18) rfl ?_); refine goesL_ (some 36) rfl rfl Try.func18 (by kernel_rfl) rfl #[] rfl zt ?_; (with_reducible refine (tollbarlaw17_awake.calls  true _ A89.out).mono ?_); rintro e w103 ⟨rfl, hb⟩; refine ⟨_, rfl, ?_⟩; have n0_ := zK (zO (zr HO_qg.out) hb); have n1_ := zK (zO (zr HO_qi.out) hb); have n2_ := zK (zO (zr HO_qj.out) hb); have n3_ := zK (zO (zr HO_ql.out) hb); have n4_ := zK (zP (g := gb106) (o := .cells #[.slice A0_0 l0_0.length c0_0, .int .i64 a0_1, .slice A0_2 l0_2.length c0_2] 25 (0, 0)) (zb BK106.out) hb); have n5_ := zK (zP (g := gb107) (o := .cells #[.int .i64 a1_0, .int .i64 a1_1, .int .i64 a1_2] 50 (0, 0)) (zb BK107.out) hb); have n6_ := zK (zP (g := gb115) (o := .cells #[.slice Ao13 t108.length co13, .int .i64 t111, .slice Ao17 t112.length co17] 25 (0, 0)) (zb BK115.out) hb); have n7_ := zK (zP (g := gb124) (o := .cells #[.slice Ao21 t116.length co21, .int .i64 t119, .slice Ao26 t120.length co26] 25 (0, 0)) (zb BK124.out) hb); have n8_ := zK (yF (zl HB.out) hb); clear HO_qg; clear HO_qi; clear HO_qj; clear HO_ql; clear BK106; clear BK107; clear BK115; clear BK124; clear HB; have HO_qg := n0_; have HO_qi := n1_; have HO_qj := n2_; have HO_ql := n3_; have BK106 := n4_; have BK107 := n5_; have BK115 := n6_; have BK124 := n7_; have HB := n8_; clear n0_ n1_ n2_ n3_ n4_ n5_ n6_ n7_ n8_; (try clear hb); (try clear hb2); (try clear hk); (try clear hi); have hnb104 := NB124_106.out; have hnc104 := NB106_124.out; have hnb105 := NB124_107.out; have hnc105 := NB107_124.out; have hnb106 := NB124_115.out; have hnc106 := NB115_124.out; have hcz107_0 : w103.cell? ⟨gb124, 0, none⟩ = some (.slice Ao21 t116.length co21) := (zQ BK124.out 0).trans rfl; have hcz107_1 : w103.cell? ⟨gb124, 1, none⟩ = some (.int .i64 t119) := (zQ BK124.out 1).trans rfl; have hcz107_2 : w103.cell? ⟨gb124, 2, none⟩ = some (.slice Ao26 t120.length co26) := (zQ BK124.out 2).trans rfl; have hfz107_0 := zR BK124.out 0; have hfz107_1 := zR BK124.out 1; have hfz107_2 := zR BK124.out 2))
       go_ret
       exact ⟨ze, zl HB.out⟩
     ·replace c90 := Bool.eq_false_iff.mpr c90
      subst c90
      have H1 : (some false) = some r := by rw [if_neg (show ¬ (false = true) by decide)] at H; exact H
      clear H
      have H := H1
      clear H1
      obtain rfl := Option.some.inj H
      go_wp2_with (first | ((with_reducible refine gate_callee (f := 18) rfl ?_); refine goesL_ (some 36) rfl rfl Try.func18 (by kernel_rfl) rfl #[] rfl zt ?_; (with_reducible refine (tollbarlaw17_awake.calls  false _ A89.out).mono ?_); rintro e w108 ⟨rfl, hb⟩; refine ⟨_, rfl, ?_⟩; have n0_ := zK (zO (zr HO_qg.out) hb); have n1_ := zK (zO (zr HO_qi.out) hb); have n2_ := zK (zO (zr HO_qj.out) hb); have n3_ := zK (zO (zr HO_ql.out) hb); have n4_ := zK (zP (g := gb106) (o := .cells #[.slice A0_0 l0_0.length c0_0, .int .i64 a0_1, .slice A0_2 l0_2.length c0_2] 25 (0, 0)) (zb BK106.out) hb); have n5_ := zK (zP (g := gb107) (o := .cells #[.int .i64 a1_0, .int .i64 a1_1, .int .i64 a1_2] 50 (0, 0)) (zb BK107.out) hb); have n6_ := zK (zP (g := gb115) (o := .cells #[.slice Ao13 t108.length co13, .int .i64 t111, .slice Ao17 t112.length co17] 25 (0, 0)) (zb BK115.out) hb); have n7_ := zK (zP (g := gb124) (o := .cells #[.slice Ao21 t116.length co21, .int .i64 t119, .slice Ao26 t120.length co26] 25 (0, 0)) (zb BK124.out) hb); have n8_ := zK (yF (zl HB.out) hb); clear HO_qg; clear HO_qi; clear HO_qj; clear HO_ql; clear BK106; clear BK107; clear BK115; clear BK124; clear HB; have HO_qg := n0_; have HO_qi := n1_; have HO_qj := n2_; have HO_ql := n3_; have BK106 := n4_; have BK107 := n5_; have BK115 := n6_; have BK124 := n7_; have HB := n8_; clear n0_ n1_ n2_ n3_ n4_ n5_ n6_ n7_ n8_; (try clear hb); (try clear hb2); (try clear hk); (try clear hi)))
      go_ret
      exact ⟨ze, zl HB.out⟩
end Go.Proofs.Ytgkjpffbgnljeaa.QL
/- A tree as a structure of Lean, and its cells. -/
set_option linter.unusedVariables false
namespace Go.Proofs.Ytgkjpffbgnljeaa.Man
open Go.RowKit Go.Proofs.Ytgkjpffbgnljeaa.QT Go.Proofs.YtgkjpffbgnljeaaW.PrintWords Go.Proofs.YtgkjpffbgnljeaaW.PrintLast Go.Proofs.YtgkjpffbgnljeaaW.PrintMore
structure S25 where
 f0 : List S64
 f1 : Int
 f2 : List Int
def k25 : Kd S25 := Kd.iso (Kd.pair (Kd.slice 64 k64) (Kd.pair (Kd.int .i64) (Kd.slice 3 (Kd.int .i64)))) (fun x : S25 => (x.f0, x.f1, x.f2))
theorem k25_open {w : World} {x : S25} {cs : List Value} (h : k25.K w x cs) : ∃ A0 c0 A2 c2, cs = [.slice A0 x.f0.length c0, .int .i64 x.f1, .slice A2 x.f2.length c2] ∧ x.f0.length ≤ c0 ∧ k64.C w A0 x.f0.length x.f0 ∧ x.f2.length ≤ c2 ∧ (Kd.int .i64).C w A2 x.f2.length x.f2 := by
 obtain ⟨_, _, rfl, ⟨A0, c0, rfl, l0, g0⟩, ⟨_, _, rfl, rfl, ⟨A2, c2, rfl, l2, g2⟩⟩⟩ := h
 exact ⟨A0, c0, A2, c2, rfl, l0, g0, l2, g2⟩
end Go.Proofs.Ytgkjpffbgnljeaa.Man
/- How the parameters of the law TreeInserts are read. -/
set_option linter.unusedVariables false
namespace Go.Proofs.Ytgkjpffbgnljeaa.OpsTreeInserts
open Go.RowKit Go.Proofs.YtgkjpffbgnljeaaW.PrintWords Go.Proofs.YtgkjpffbgnljeaaW.PrintLast Go.Proofs.YtgkjpffbgnljeaaW.PrintMore Go.Proofs.Ytgkjpffbgnljeaa.Op Go.Proofs.Ytgkjpffbgnljeaa.QL Go.Proofs.Ytgkjpffbgnljeaa.Man Go.Proofs.Ytgkjpffbgnljeaa.QT Go.Proofs.Ytgkjpffbgnljeaa.QA Go.Proofs.Ytgkjpffbgnljeaa.Man
theorem op3 : Opens Try.prog 3 (Kd.int .i64) (fun n => (Lit.int .i64 n).wf = true) (fun _ => 1) := opens_int Try.underlying3
def I27 (s : S27) : Prop := (fun n : Int => (Lit.int .i64 n).wf = true) s.f0 ∧ (fun n : Int => (Lit.int .i64 n).wf = true) s.f1
def B27 (s : S27) : Nat := ((fun _ : Int => 1) s.f0 + ((fun _ : Int => 1) s.f1)) + 1
theorem op27 : Opens Try.prog 27 k27 I27 B27 := opens_struct Try.underlying27 (by kernel_rfl) (fun s : S27 => (s.f0, s.f1)) (fun p => ⟨p.1, p.2⟩) (fun _ => rfl) (opens_cons (by first | rfl | kernel_rfl) (by kernel_rfl) op3 (opens_last (by first | rfl | kernel_rfl) (by kernel_rfl) op3))
def I50 (s : S50) : Prop := I27 s.f0 ∧ (fun n : Int => (Lit.int .i64 n).wf = true) s.f1
def B50 (s : S50) : Nat := (B27 s.f0 + ((fun _ : Int => 1) s.f1)) + 1
theorem op50 : Opens Try.prog 50 k50 I50 B50 := opens_struct Try.underlying50 (by kernel_rfl) (fun s : S50 => (s.f0, s.f1)) (fun p => ⟨p.1, p.2⟩) (fun _ => rfl) (opens_cons (by first | rfl | kernel_rfl) (by kernel_rfl) op27 (opens_last (by first | rfl | kernel_rfl) (by kernel_rfl) op3))
def I64 (s : S64) : Prop := I50 s.f0 ∧ (fun n : Int => (Lit.int .i64 n).wf = true) s.f1 ∧ (fun n : Int => (Lit.int .i64 n).wf = true) s.f2 ∧ (fun n : Int => (Lit.int .i64 n).wf = true) s.f3 ∧ (fun n : Int => (Lit.int .i64 n).wf = true) s.f4
def B64 (s : S64) : Nat := (B50 s.f0 + ((fun _ : Int => 1) s.f1 + ((fun _ : Int => 1) s.f2 + ((fun _ : Int => 1) s.f3 + ((fun _ : Int => 1) s.f4))))) + 1
theorem op64 : Opens Try.prog 64 k64 I64 B64 := opens_struct Try.underlying64 (by kernel_rfl) (fun s : S64 => (s.f0, s.f1, s.f2, s.f3, s.f4)) (fun p => ⟨p.1, p.2.1, p.2.2.1, p.2.2.2.1, p.2.2.2.2⟩) (fun _ => rfl) (opens_cons (by first | rfl | kernel_rfl) (by kernel_rfl) op50 (opens_cons (by first | rfl | kernel_rfl) (by kernel_rfl) op3 (opens_cons (by first | rfl | kernel_rfl) (by kernel_rfl) op3 (opens_cons (by first | rfl | kernel_rfl) (by kernel_rfl) op3 (opens_last (by first | rfl | kernel_rfl) (by kernel_rfl) op3)))))
theorem op22 : Opens Try.prog 22 (Kd.slice 64 k64) (fun xs : List S64 => (∀ x ∈ xs, I64 x) ∧ xs.length * 56 ≤ 140737488351232) (fun xs : List S64 => (xs.map B64).sum + 1) := opens_slice Try.underlying22 (m := 56) (by kernel_rfl) op64 (by kernel_rfl)
theorem op23 : Opens Try.prog 23 (Kd.slice 3 (Kd.int .i64)) (fun xs : List Int => (∀ x ∈ xs, (fun n : Int => (Lit.int .i64 n).wf = true) x) ∧ xs.length * 8 ≤ 140737488351232) (fun xs : List Int => (xs.map (fun _ : Int => 1)).sum + 1) := opens_slice Try.underlying23 (m := 8) (by kernel_rfl) op3 (by kernel_rfl)
def I25 (s : S25) : Prop := (fun xs : List S64 => (∀ x ∈ xs, I64 x) ∧ xs.length * 56 ≤ 140737488351232) s.f0 ∧ (fun n : Int => (Lit.int .i64 n).wf = true) s.f1 ∧ (fun xs : List Int => (∀ x ∈ xs, (fun n : Int => (Lit.int .i64 n).wf = true) x) ∧ xs.length * 8 ≤ 140737488351232) s.f2
def B25 (s : S25) : Nat := ((fun xs : List S64 => (xs.map B64).sum + 1) s.f0 + ((fun _ : Int => 1) s.f1 + ((fun xs : List Int => (xs.map (fun _ : Int => 1)).sum + 1) s.f2))) + 1
theorem op25 : Opens Try.prog 25 k25 I25 B25 := opens_struct Try.underlying25 (by kernel_rfl) (fun s : S25 => (s.f0, s.f1, s.f2)) (fun p => ⟨p.1, p.2.1, p.2.2⟩) (fun _ => rfl) (opens_cons (by first | rfl | kernel_rfl) (by kernel_rfl) op22 (opens_cons (by first | rfl | kernel_rfl) (by kernel_rfl) op3 (opens_last (by first | rfl | kernel_rfl) (by kernel_rfl) op23)))
end Go.Proofs.Ytgkjpffbgnljeaa.OpsTreeInserts
/- tollbarref17.hung: what it answers, plain. -/
set_option linter.unusedVariables false
set_option linter.unusedSimpArgs false
namespace Go.Proofs.Ytgkjpffbgnljeaa.Man
open Go.RowKit Go.Proofs.Ytgkjpffbgnljeaa.QT Go.Proofs.Ytgkjpffbgnljeaa.QA Go.Proofs.Ytgkjpffbgnljeaa.TreeM Go.Proofs.YtgkjpffbgnljeaaW.PrintWords Go.Proofs.YtgkjpffbgnljeaaW.PrintLast Go.Proofs.YtgkjpffbgnljeaaW.PrintMore
def seenB (nn : Nat) (S : Nat → Bool) : List Bool := (List.range nn).map S
theorem seenB_length (nn : Nat) (S : Nat → Bool) : (seenB nn S).length = nn := by simp [seenB]
theorem seenB_rd {nn : Nat} (S : Nat → Bool) {p : Nat} (hp : p < nn) : rdOf false (seenB nn S) (p : Int) = S p := by
 unfold rdOf seenB
 rw [Int.toNat_natCast, List.getD, List.getElem?_map, List.getElem?_range hp]
 rfl
theorem seenB_set {nn : Nat} (S : Nat → Bool) (p : Nat) : (seenB nn S).set p true = seenB nn (plus S p) := by
 apply List.ext_getElem?
 intro j
 unfold seenB plus
 rw [List.getElem?_set, List.getElem?_map, List.getElem?_map]
 by_cases hj : j < nn
 ·rw [List.getElem?_range hj]
  by_cases e : p = j
  ·subst e; simp [hj]
  ·simp [e, Ne.symm e]
 ·have e2 : (List.range nn)[j]? = none := List.getElem?_eq_none (by simp; omega)
  rw [e2]
  by_cases e : p = j
  ·subst e; simp [hj]
  ·simp [e]
theorem hung_j1 (k : Nat) (x2 : List Bool) (ls rs : List It) (lh lm rh rm : Int) (c : Bool) (y0 y1 y2 y3 y4 y5 y6 : Int) (h1 : ls.length ≤ 1000) (h2 : rs.length ≤ 1000) (hl : 0 ≤ lh ∧ lh ≤ 1000) (hr : 0 ≤ rh ∧ rh ≤ 1000) :
  tollbarref17_hung.j1 (k + 3) x2 ls lh lm rs rh rm c y0 y1 y2 y3 y4 y5 y6 = some (if c = false ∧ y5 = 1 + max lh rh ∧ y6 = max y1 (max lm rm) then (ls ++ ⟨⟨y0, y1⟩, y2⟩ :: rs, 1 + max lh rh, max y1 (max lm rm), true, x2) else ([], 0, 0, false, x2)) := by
 have j3 : ∀ (h m : Int), 0 ≤ h ∧ h ≤ 1000 → tollbarref17_hung.j3 (k + 1) x2 ls rs h m y0 y1 y2 y3 y4 y5 y6 = some (if y5 = 1 + h ∧ y6 = max y1 m then (ls ++ ⟨⟨y0, y1⟩, y2⟩ :: rs, 1 + h, max y1 m, true, x2) else ([], 0, 0, false, x2)) := by
  intro h m hh
  have hw : wrap64 (h + 1) = 1 + h := by unfold wrap64; omega
  rw [tollbarref17_hung.j3, hw]
  have e1 : ([] : List It).length + ls.length < 5864062014805 := by simp; omega
  have e2 : (([] : List It) ++ ls).length < 5864062014805 := by simp; omega
  have e3 : (([] ++ ls) ++ [(⟨⟨y0, y1⟩, y2⟩ : It)]).length + rs.length < 5864062014805 := by simp; omega
  simp only [Option.bind_some, if_pos e1, if_pos e2, if_pos e3]
  by_cases g1 : y1 > m
  ·rw [if_pos g1, Int.max_eq_left (by omega)]
   by_cases g2 : y5 = 1 + h
   ·rw [if_pos g2]
    by_cases g3 : y6 = y1
    ·rw [if_pos g3, if_pos ⟨g2, g3⟩]; simp
    ·rw [if_neg g3, if_neg (fun g => g3 g.2)]
   ·rw [if_neg g2, if_neg (fun g => g2 g.1)]
  ·rw [if_neg g1, Int.max_eq_right (by omega)]
   by_cases g2 : y5 = 1 + h
   ·rw [if_pos g2]
    by_cases g3 : y6 = m
    ·rw [if_pos g3, if_pos ⟨g2, g3⟩]; simp
    ·rw [if_neg g3, if_neg (fun g => g3 g.2)]
   ·rw [if_neg g2, if_neg (fun g => g2 g.1)]
 have j2 : ∀ (h : Int), 0 ≤ h ∧ h ≤ 1000 → tollbarref17_hung.j2 (k + 2) x2 ls rs rm h lm y0 y1 y2 y3 y4 y5 y6 = some (if y5 = 1 + h ∧ y6 = max y1 (max lm rm) then (ls ++ ⟨⟨y0, y1⟩, y2⟩ :: rs, 1 + h, max y1 (max lm rm), true, x2) else ([], 0, 0, false, x2)) := by
  intro h hh
  rw [tollbarref17_hung.j2]
  by_cases g : rm > lm
  ·rw [if_pos g, j3 h rm hh, show max lm rm = rm from Int.max_eq_right (by omega)]
  ·rw [if_neg g, j3 h lm hh, show max lm rm = lm from Int.max_eq_left (by omega)]
 rw [tollbarref17_hung.j1]
 cases c with
 | true => simp
 | false =>
  rw [if_neg (by decide)]
  by_cases g : rh > lh
  ·rw [if_pos g, j2 rh hr, show max lh rh = rh from Int.max_eq_right (by omega)]; simp
  ·rw [if_neg g, j2 lh hl, show max lh rh = lh from Int.max_eq_left (by omega)]; simp
def HungIs (ns : List Nd) (S : Nat → Bool) (i : Int) (o : List It × Int × Int × Bool × List Bool) : Prop :=
 (∃ t, Good (cellN ns) ns.length S i t ∧ o = ((items t).map toI, (hgt t : Int), most t, true, seenB ns.length (plusT S t))) ∨
 ((∀ t, ¬ Good (cellN ns) ns.length S i t) ∧ ∃ S' : Nat → Bool, (∀ k, S k = true → S' k = true) ∧ o = ([], 0, 0, false, seenB ns.length S'))
theorem plus_le {S : Nat → Bool} {p : Nat} : ∀ k, S k = true → plus S p k = true := fun k h => by unfold plus; rw [h]; rfl
theorem plusT_le {S : Nat → Bool} {t : T} : ∀ k, S k = true → plusT S t k = true := fun k h => by unfold plusT; rw [h]; rfl
theorem Good.len {a : Cells} {nn : Nat} {S : Nat → Bool} {i : Int} {t : T} (h : Good a nn S i t) : (items t).length ≤ nn := by rw [items_places]; exact places_le h.within h.nodup
theorem hung_f (ns : List Nd) (fr : List Int) (root : Int) (hn : ns.length ≤ 32) : ∀ (m : Nat) (S : Nat → Bool) (i : Int) (k : Nat), unseen ns.length S ≤ m → 6 * m + 6 ≤ k →
  ∃ o, tollbarref17_hung.f k ns root fr i (seenB ns.length S) = some o ∧ HungIs ns S i o := by
 intro m
 induction m with
 | zero =>
  intro S i k hm hk
  obtain ⟨k, rfl⟩ : ∃ j, k = j + 2 := ⟨k - 2, by omega⟩
  rw [tollbarref17_hung.f]
  by_cases h1 : i = -1
  ·subst h1
   exact ⟨_, if_pos rfl, .inl ⟨.nil, good_nil _ _ _, by rw [plusT_nil]; rfl⟩⟩
  rw [if_neg h1]
  have bad : (∀ p : Nat, i = (p : Int) → p < ns.length → S p = true) → ∀ t, ¬ Good (cellN ns) ns.length S i t := by
   intro hb t h
   rcases h.range with e | ⟨p, e, hp, hS⟩
   ·exact h1 e
   ·rw [hb p e hp] at hS; cases hS
  have j0 : tollbarref17_hung.j0 (k + 1) i (seenB ns.length S) true ns root fr = some ([], 0, 0, false, seenB ns.length S) := by rw [tollbarref17_hung.j0, if_pos rfl]
  by_cases h2 : i < 0
  ·rw [if_pos h2, j0]
   exact ⟨_, rfl, .inr ⟨bad (fun p e _ => by omega), S, fun _ h => h, rfl⟩⟩
  rw [if_neg h2]
  by_cases h3 : i ≥ (ns.length : Int)
  ·rw [if_pos h3, j0]
   exact ⟨_, rfl, .inr ⟨bad (fun p e _ => by omega), S, fun _ h => h, rfl⟩⟩
  rw [if_neg h3, if_pos (by omega), if_pos (by rw [seenB_length]; omega)]
  obtain ⟨p, rfl⟩ : ∃ p : Nat, i = (p : Int) := ⟨i.toNat, by omega⟩
  have hp : p < ns.length := by omega
  rw [seenB_rd S hp]
  cases hS : S p with
  | true =>
   rw [j0]
   exact ⟨_, rfl, .inr ⟨bad (fun q e _ => by rw [← (show p = q by omega)]; exact hS), S, fun _ h => h, rfl⟩⟩
  | false => exact absurd (unseen_plus hp hS) (by omega)
 | succ m ih =>
  intro S i k hm hk
  obtain ⟨k, rfl⟩ : ∃ j, k = j + 3 + 2 := ⟨k - 5, by omega⟩
  rw [tollbarref17_hung.f]
  by_cases h1 : i = -1
  ·subst h1
   exact ⟨_, if_pos rfl, .inl ⟨.nil, good_nil _ _ _, by rw [plusT_nil]; rfl⟩⟩
  rw [if_neg h1]
  have bad : (∀ p : Nat, i = (p : Int) → p < ns.length → S p = true) → ∀ t, ¬ Good (cellN ns) ns.length S i t := by
   intro hb t h
   rcases h.range with e | ⟨p, e, hp, hS⟩
   ·exact h1 e
   ·rw [hb p e hp] at hS; cases hS
  have j0 : tollbarref17_hung.j0 (k + 3 + 1) i (seenB ns.length S) true ns root fr = some ([], 0, 0, false, seenB ns.length S) := by rw [tollbarref17_hung.j0, if_pos rfl]
  by_cases h2 : i < 0
  ·rw [if_pos h2, j0]
   exact ⟨_, rfl, .inr ⟨bad (fun p e _ => by omega), S, fun _ h => h, rfl⟩⟩
  rw [if_neg h2]
  by_cases h3 : i ≥ (ns.length : Int)
  ·rw [if_pos h3, j0]
   exact ⟨_, rfl, .inr ⟨bad (fun p e _ => by omega), S, fun _ h => h, rfl⟩⟩
  rw [if_neg h3, if_pos (by omega), if_pos (by rw [seenB_length]; omega)]
  obtain ⟨p, rfl⟩ : ∃ p : Nat, i = (p : Int) := ⟨i.toNat, by omega⟩
  have hp : p < ns.length := by omega
  rw [seenB_rd S hp]
  cases hS : S p with
  | true =>
   rw [j0]
   exact ⟨_, rfl, .inr ⟨bad (fun q e _ => by rw [← (show p = q by omega)]; exact hS), S, fun _ h => h, rfl⟩⟩
  | false =>
   clear bad j0 h1 h2 h3
   have hlt := unseen_plus hp hS
   have hrd : rd_T64 ns (p : Int) = ns.getD p z64 := by unfold rd_T64; rw [Int.toNat_natCast]
   have c0 := cellN_at ns p (k := 0) (by omega)
   have c1 := cellN_at ns p (k := 1) (by omega)
   have c2 := cellN_at ns p (k := 2) (by omega)
   have c3 := cellN_at ns p (k := 3) (by omega)
   have c4 := cellN_at ns p (k := 4) (by omega)
   have c5 := cellN_at ns p (k := 5) (by omega)
   have c6 := cellN_at ns p (k := 6) (by omega)
   rw [Nat.add_zero] at c0
   simp only [fieldN] at c0 c1 c2 c3 c4 c5 c6
   rw [tollbarref17_hung.j0, if_neg (by decide), if_pos (by omega), if_pos (by rw [seenB_length]; omega), if_pos (by omega), hrd, Int.toNat_natCast, seenB_set, ← c0, ← c1, ← c2, ← c3, ← c4, ← c5, ← c6]
   obtain ⟨oL, eL, hL⟩ := ih (plus S p) (cellN ns (p * 7 + 3)) (k + 3) (by omega) (by omega)
   rw [eL]
   simp only [Option.bind_some]
   obtain ⟨S2, e2, hle2⟩ : ∃ S2, oL.2.2.2.2 = seenB ns.length S2 ∧ ∀ k, plus S p k = true → S2 k = true := by
    rcases hL with ⟨l, _, e⟩ | ⟨_, S', h', e⟩
    ·exact ⟨_, by rw [e], plusT_le⟩
    ·exact ⟨S', by rw [e], h'⟩
   have hle3 := unseen_le (nn := ns.length) hle2
   obtain ⟨oR, eR, hR⟩ := ih S2 (cellN ns (p * 7 + 4)) (k + 3) (by omega) (by omega)
   rw [e2, eR]
   simp only [Option.bind_some]
   have hle4 : ∀ k, S k = true → S2 k = true := fun k h => hle2 k (plus_le k h)
   have nogo : ∀ S', (∀ k, S k = true → S' k = true) → oR.2.2.2.2 = seenB ns.length S' → (∀ t, ¬ Good (cellN ns) ns.length S (p : Int) t) → (oL.1.length ≤ 1000 ∧ 0 ≤ oL.2.1 ∧ oL.2.1 ≤ 1000) → (oR.1.length ≤ 1000 ∧ 0 ≤ oR.2.1 ∧ oR.2.1 ≤ 1000) → ∃ o, tollbarref17_hung.j1 (k + 3) oR.2.2.2.2 oL.1 oL.2.1 oL.2.2.1 oR.1 oR.2.1 oR.2.2.1 true (cellN ns (p * 7)) (cellN ns (p * 7 + 1)) (cellN ns (p * 7 + 2)) (cellN ns (p * 7 + 3)) (cellN ns (p * 7 + 4)) (cellN ns (p * 7 + 5)) (cellN ns (p * 7 + 6)) = some o ∧ HungIs ns S (p : Int) o := by
    intro S' hS' eS' hno hbl hbr
    rw [hung_j1 k _ _ _ _ _ _ _ _ _ _ _ _ _ _ _ hbl.1 hbr.1 hbl.2 hbr.2, if_neg (fun g => by cases g.1)]
    exact ⟨_, rfl, .inr ⟨hno, S', hS', by rw [eS']⟩⟩
   rcases hL with ⟨l, gl, rfl⟩ | ⟨nl, S', h', rfl⟩
   ·have e2' : plusT (plus S p) l = S2 ∨ True := .inr trivial
    have ll := gl.len
    have lh := gl.low
    have hbl : ((items l).map toI).length ≤ 1000 ∧ (0 : Int) ≤ (hgt l : Int) ∧ (hgt l : Int) ≤ 1000 := ⟨by simp; omega, by omega, by omega⟩
    rw [if_pos rfl]
    have eS2 : ∀ q, q < ns.length → S2 q = plusT (plus S p) l q := fun q hq => by
     have := congrArg (fun xs => rdOf false xs (q : Int)) e2
     simp only [seenB_rd _ hq] at this
     exact this.symm
    have conv : ∀ r, Good (cellN ns) ns.length S2 (cellN ns (p * 7 + 4)) r ↔ Good (cellN ns) ns.length (plusT (plus S p) l) (cellN ns (p * 7 + 4)) r := fun r =>
     ⟨fun h => ⟨h.hang, h.within, h.nodup, fun q hq => by rw [← eS2 q (h.within q hq)]; exact h.off q hq, h.bal, h.may⟩, fun h => ⟨h.hang, h.within, h.nodup, fun q hq => by rw [eS2 q (h.within q hq)]; exact h.off q hq, h.bal, h.may⟩⟩
    rcases hR with ⟨r, gr, rfl⟩ | ⟨nr, S'', h'', rfl⟩
    ·have lr := gr.len
     have rh := gr.low
     have hbr : ((items r).map toI).length ≤ 1000 ∧ (0 : Int) ≤ (hgt r : Int) ∧ (hgt r : Int) ≤ 1000 := ⟨by simp; omega, by omega, by omega⟩
     have gr' := (conv r).1 gr
     have only : ∀ t, Good (cellN ns) ns.length S (p : Int) t → t = .node p ⟨cellN ns (p * 7), cellN ns (p * 7 + 1), cellN ns (p * 7 + 2)⟩ l r := by
      intro t ht
      obtain ⟨y, l', r', rfl, _, _, g1, g2⟩ := ht.parts
      have el := g1.one gl
      subst el
      have er := g2.one gr'
      subst er
      obtain ⟨i0, i1, i2⟩ := ht.hang.2.1
      rw [i0, i1, i2]
     rw [if_pos rfl, refItemMay_f]
     simp only [Option.bind_some]
     have hwl : wrap64 ((hgt l : Int) - hgt r) = (hgt l : Int) - hgt r := by unfold wrap64; omega
     have hwr : wrap64 ((hgt r : Int) - hgt l) = (hgt r : Int) - hgt l := by unfold wrap64; omega
     have hSl : ∀ k, S k = true → plusT S2 r k = true := fun k h => plusT_le k (hle4 k h)
     by_cases hmay : itmayF ⟨cellN ns (p * 7), cellN ns (p * 7 + 1), cellN ns (p * 7 + 2)⟩ = true
     ·rw [if_pos hmay, hwl, hwr]
      have hj : ∀ c, c = decide ((hgt l : Int) - hgt r > 1 ∨ (hgt r : Int) - hgt l > 1) → ∃ o, tollbarref17_hung.j1 (k + 3) (seenB ns.length (plusT S2 r)) ((items l).map toI) (hgt l) (most l) ((items r).map toI) (hgt r) (most r) c (cellN ns (p * 7)) (cellN ns (p * 7 + 1)) (cellN ns (p * 7 + 2)) (cellN ns (p * 7 + 3)) (cellN ns (p * 7 + 4)) (cellN ns (p * 7 + 5)) (cellN ns (p * 7 + 6)) = some o ∧ HungIs ns S (p : Int) o := by
       intro c hc
       rw [hung_j1 k _ _ _ _ _ _ _ _ _ _ _ _ _ _ _ hbl.1 hbr.1 hbl.2 hbr.2]
       by_cases hall : c = false ∧ cellN ns (p * 7 + 5) = 1 + max (hgt l : Int) (hgt r) ∧ cellN ns (p * 7 + 6) = max (cellN ns (p * 7 + 1)) (max (most l) (most r))
       ·rw [if_pos hall]
        have hb : ¬ ((hgt l : Int) - hgt r > 1 ∨ (hgt r : Int) - hgt l > 1) := by
         rw [hc] at hall
         exact of_decide_eq_false hall.1
        have gn := good_node (y := ⟨cellN ns (p * 7), cellN ns (p * 7 + 1), cellN ns (p * 7 + 2)⟩) hp hS ⟨rfl, rfl, rfl⟩ gl gr' hmay hall.2.1 hall.2.2 (by omega) (by omega)
        refine ⟨_, rfl, .inl ⟨_, gn, ?_⟩⟩
        have es : seenB ns.length (plusT S2 r) = seenB ns.length (plusT S (.node p ⟨cellN ns (p * 7), cellN ns (p * 7 + 1), cellN ns (p * 7 + 2)⟩ l r)) := by
         rw [← plusT_node]
         unfold seenB
         apply List.map_congr_left
         intro q hq
         unfold plusT at eS2 ⊢
         rw [eS2 q (List.mem_range.1 hq)]
        rw [es]
        simp only [items, hgt, most, List.map_append, List.map_cons]
        congr 2
        omega
       ·rw [if_neg hall]
        refine ⟨_, rfl, .inr ⟨fun t ht => hall ?_, _, hSl, rfl⟩⟩
        have et := only t ht
        subst et
        obtain ⟨_, _, _, _, g5, g6⟩ := ht.hang
        have gb := ht.bal
        simp only [bal] at gb
        refine ⟨?_, ?_, ?_⟩
        ·rw [hc]; exact decide_eq_false (by omega)
        ·rw [g5]; simp only [hgt]; omega
        ·rw [g6]; rfl
      by_cases hc1 : (hgt l : Int) - hgt r > 1
      ·rw [if_pos hc1]; exact hj true (by simp [hc1])
      ·rw [if_neg hc1]; exact hj _ (by simp [hc1])
     ·rw [if_neg hmay]
      exact nogo (plusT S2 r) hSl rfl (fun t ht => hmay (by have et := only t ht; subst et; exact ht.may _ (by simp [items]))) hbl hbr
    ·rw [if_neg (by simp)]
     exact nogo S'' (fun k h => h'' k (hle4 k h)) rfl (fun t ht => by
      obtain ⟨y, l', r', rfl, _, _, g1, g2⟩ := ht.parts
      have el := g1.one gl
      subst el
      exact nr r' ((conv r').2 g2)) hbl ⟨by simp, by simp, by simp⟩
   ·rw [if_neg (by simp)]
    have hno : ∀ t, ¬ Good (cellN ns) ns.length S (p : Int) t := fun t ht => by
     obtain ⟨y, l', r', rfl, _, _, g1, g2⟩ := ht.parts
     exact nl l' g1
    rcases hR with ⟨r, gr, rfl⟩ | ⟨nr, S'', h'', rfl⟩
    ·have lr := gr.len
     have rh := gr.low
     exact nogo (plusT S2 r) (fun k h => plusT_le k (hle4 k h)) rfl hno ⟨by simp, by simp, by simp⟩ ⟨by simp; omega, by simp, by simp; omega⟩
    ·exact nogo S'' (fun k h => h'' k (hle4 k h)) rfl hno ⟨by simp, by simp, by simp⟩ ⟨by simp, by simp, by simp⟩
end Go.Proofs.Ytgkjpffbgnljeaa.Man
/- tollbarref17.All: what it answers, plain. -/
set_option linter.unusedVariables false
set_option linter.unusedSimpArgs false
namespace Go.Proofs.Ytgkjpffbgnljeaa.Man
open Go.RowKit Go.Proofs.Ytgkjpffbgnljeaa.QT Go.Proofs.Ytgkjpffbgnljeaa.QA Go.Proofs.Ytgkjpffbgnljeaa.TreeM Go.Proofs.YtgkjpffbgnljeaaW.PrintWords Go.Proofs.YtgkjpffbgnljeaaW.PrintLast Go.Proofs.YtgkjpffbgnljeaaW.PrintMore
theorem rdN_cells (ns : List Nd) (p : Nat) : rd_T64 ns (p : Int) = nodeN (cellN ns) p := by unfold rd_T64; rw [Int.toNat_natCast, nodeN_cellN]
theorem all_l0 (ns : List Nd) (fr : List Int) (root : Int) (xs : List It) (kk : Nat) (hl : fr.length ≤ 1000) : ∀ (n j : Nat) (S : Nat → Bool), n + j = fr.length →
  tollbarref17_All.l0 (n + 1 + kk) (seenB ns.length S) xs (j : Int) ns root fr = (match freeF (cellN ns) ns.length S (fr.drop j) with | none => some ([], false) | some S' => tollbarref17_All.l1 kk (seenB ns.length S') xs 0) := by
 intro n
 induction n with
 | zero =>
  intro j S hj
  rw [show 0 + 1 + kk = kk + 1 by omega, tollbarref17_All.l0, if_neg (by omega), List.drop_eq_nil_of_le (by omega)]
  rfl
 | succ n ih =>
  intro j S hj
  have hw : wrap64 ((j : Int) + 1) = ((j + 1 : Nat) : Int) := by unfold wrap64; omega
  have hjl : j < fr.length := by omega
  have hd : fr.drop j = fr[j] :: fr.drop (j + 1) := List.drop_eq_getElem_cons hjl
  have hrd : rd fr (j : Int) = fr[j] := by unfold rd; rw [Int.toNat_natCast, List.getD, List.getElem?_eq_getElem hjl]; rfl
  rw [show n + 1 + 1 + kk = (n + 1 + kk) + 1 by omega, tollbarref17_All.l0, if_pos (by omega), if_pos (by omega), hrd, hd, hw]
  generalize fr[j] = x
  show _ = match (if freeOk (cellN ns) ns.length S x = true then freeF (cellN ns) ns.length (plus S x.toNat) (fr.drop (j + 1)) else none) with | none => some ([], false) | some S' => tollbarref17_All.l1 kk (seenB ns.length S') xs 0
  by_cases h0 : x < 0
  ·rw [if_pos h0, if_neg (fun g => by have := (freeOk_iff.1 g).1; omega)]
  rw [if_neg h0]
  by_cases h1 : x ≥ (ns.length : Int)
  ·rw [if_pos h1, if_neg (fun g => by have := (freeOk_iff.1 g).2.1; omega)]
  obtain ⟨p, rfl⟩ : ∃ p : Nat, x = (p : Int) := ⟨x.toNat, by omega⟩
  have hp : p < ns.length := by omega
  rw [if_neg h1, if_pos (by omega), if_pos (by rw [seenB_length]; omega), seenB_rd S hp, Int.toNat_natCast]
  cases hS : S p with
  | true => rw [if_pos rfl, if_neg (fun g => by have := (freeOk_iff.1 g).2.2.1; rw [Int.toNat_natCast, hS] at this; cases this)]
  | false =>
   rw [if_neg (by decide), if_pos (by omega), rdN_cells, seenB_set]
   by_cases hz : ∀ k, k < 7 → cellN ns (p * 7 + k) = 0
   ·have z0 := hz 0 (by omega)
    have z1 := hz 1 (by omega)
    have z2 := hz 2 (by omega)
    have z3 := hz 3 (by omega)
    have z4 := hz 4 (by omega)
    have z5 := hz 5 (by omega)
    have z6 := hz 6 (by omega)
    rw [Nat.add_zero] at z0
    rw [if_pos (freeOk_iff.2 ⟨by omega, by omega, by rw [Int.toNat_natCast]; exact hS, by rw [Int.toNat_natCast]; exact hz⟩), if_neg (by simp [nodeN, z0, z1, z2, z3, z4, z5, z6])]
    exact ih (j + 1) (plus S p) (by omega)
   ·have hnf : ¬ freeOk (cellN ns) ns.length S (p : Int) = true := fun g => hz (by have := (freeOk_iff.1 g).2.2.2; rw [Int.toNat_natCast] at this; exact this)
    rw [if_neg hnf]
    refine if_pos ?_
    refine Classical.byContradiction (fun hn => hz (fun k hk => ?_))
    simp [nodeN] at hn
    obtain ⟨⟨⟨h0, h1⟩, h2⟩, h3, h4, h5, h6⟩ := hn
    rcases k with _ | _ | _ | _ | _ | _ | _ | k
    ·rw [Nat.add_zero]; exact h0
    ·exact h1
    ·exact h2
    ·exact h3
    ·exact h4
    ·exact h5
    ·exact h6
    ·omega
open Classical in
theorem all_l1 (nn : Nat) (S : Nat → Bool) (xs : List It) (kk : Nat) (hl : nn ≤ 1000) : ∀ (n j : Nat), n + j = nn →
  tollbarref17_All.l1 (n + 1 + kk) (seenB nn S) xs (j : Int) = (if ∀ p, j ≤ p → p < nn → S p = true then tollbarref17_All.l2 kk xs 1 else some ([], false)) := by
 intro n
 induction n with
 | zero =>
  intro j hj
  rw [show 0 + 1 + kk = kk + 1 by omega, tollbarref17_All.l1, if_neg (by rw [seenB_length]; omega), if_pos (fun p _ _ => by omega)]
 | succ n ih =>
  intro j hj
  have hw : wrap64 ((j : Int) + 1) = ((j + 1 : Nat) : Int) := by unfold wrap64; omega
  rw [show n + 1 + 1 + kk = (n + 1 + kk) + 1 by omega, tollbarref17_All.l1, if_pos (by rw [seenB_length]; omega), if_pos (by omega), seenB_rd S (by omega), hw]
  cases hS : S j with
  | true =>
   rw [if_pos rfl, ih (j + 1) (by omega)]
   by_cases h : ∀ p, j + 1 ≤ p → p < nn → S p = true
   ·rw [if_pos h, if_pos (fun p hp1 hp2 => by
     by_cases e : p = j
     ·rw [e]; exact hS
     ·exact h p (by omega) hp2)]
   ·rw [if_neg h, if_neg (fun g => h (fun p hp1 hp2 => g p (by omega) hp2))]
  | false => rw [if_neg (by decide), if_neg (fun g => by have := g j (Nat.le_refl _) (by omega); rw [hS] at this; cases this)]
theorem rdI_get (ys : List Itm) (j : Nat) (hj : j < ys.length) : rd_T50 (ys.map toI) (j : Int) = toI ys[j] := by
 unfold rd_T50
 rw [Int.toNat_natCast, List.getD, List.getElem?_map, List.getElem?_eq_getElem hj]
 rfl
theorem all_l2 (ys : List Itm) (kk : Nat) (hl : ys.length ≤ 1000) : ∀ (n j : Nat), n + (j + 1) = ys.length ∨ (n = 0 ∧ ys.length ≤ j + 1) → Row (ys.take (j + 1)) →
  tollbarref17_All.l2 (n + 1 + kk) (ys.map toI) ((j + 1 : Nat) : Int) = (if Row ys then some (ys.map toI, true) else some ([], false)) := by
 intro n
 induction n with
 | zero =>
  intro j hj hr
  have hle : ys.length ≤ j + 1 := by omega
  rw [List.take_of_length_le hle] at hr
  rw [show 0 + 1 + kk = kk + 1 by omega, tollbarref17_All.l2, if_neg (by simp; omega), if_pos hr]
 | succ n ih =>
  intro j hj hr
  have hjl : j + 1 < ys.length := by omega
  have hw : wrap64 (((j + 1 : Nat) : Int) - 1) = (j : Int) := by unfold wrap64; omega
  have hw2 : wrap64 (((j + 1 : Nat) : Int) + 1) = ((j + 1 + 1 : Nat) : Int) := by unfold wrap64; omega
  rw [show n + 1 + 1 + kk = (n + 1 + kk) + 1 by omega, tollbarref17_All.l2, if_pos (by simp; omega), hw, hw2, if_pos (by omega), if_pos (by simp; omega), if_pos (by omega), rdI_get ys j (by omega), rdI_get ys (j + 1) hjl]
  have hls := less_f ys[j] ys[j + 1]
  simp only [toI] at hls ⊢
  rw [hls]
  simp only [Option.bind_some]
  by_cases h : lt ys[j] ys[j + 1]
  ·rw [if_pos (decide_eq_true h)]
   exact ih (j + 1) (by omega) (row_snoc hjl hr h)
  ·rw [if_neg (by simp [h]), if_neg (row_not hjl h)]
noncomputable def allF (ns : List Nd) (root : Int) (fr : List Int) : List It × Bool := if mayT (cellN ns) ns.length root fr = true then ((items (treeOf (cellN ns) ns.length root fr)).map toI, true) else ([], false)
theorem allF_yes {ns : List Nd} {root : Int} {fr : List Int} {t : T} (h : IsT (cellN ns) ns.length root fr t) : allF ns root fr = ((items t).map toI, true) := by unfold allF; rw [if_pos (mayT_true.2 ⟨t, h⟩), treeOf_is h]
theorem allF_no {ns : List Nd} {root : Int} {fr : List Int} (h : ∀ t, ¬ IsT (cellN ns) ns.length root fr t) : allF ns root fr = ([], false) := by unfold allF; rw [if_neg (by rw [mayT_false.2 h]; decide)]
theorem all_f (ns : List Nd) (fr : List Int) (root : Int) (k : Nat) (hk : 400 ≤ k) : tollbarref17_All.f k ns root fr = some (allF ns root fr) := by
 obtain ⟨k, rfl⟩ : ∃ j, k = j + 1 := ⟨k - 1, by omega⟩
 unfold tollbarref17_All.f
 have j0 : tollbarref17_All.j0 (k + 1) true ns root fr = some ([], false) := by rw [tollbarref17_All.j0, if_pos rfl]
 by_cases h1 : (ns.length : Int) > 32
 ·rw [if_pos h1, j0, allF_no (fun t h => by have := h.size; omega)]
 rw [if_neg h1]
 by_cases h2 : (fr.length : Int) > (ns.length : Int)
 ·rw [decide_eq_true h2, j0, allF_no (fun t h => by have := h.count; omega)]
 have hn : ns.length ≤ 32 := by omega
 have hrep : List.replicate ((ns.length : Int) : Int).toNat false = seenB ns.length (fun _ => false) := by
  rw [Int.toNat_natCast]
  unfold seenB
  apply List.ext_getElem?
  intro j
  rw [List.getElem?_map]
  by_cases hj : j < ns.length
  ·rw [List.getElem?_range hj, List.getElem?_replicate, if_pos hj]; rfl
  ·rw [List.getElem?_eq_none (by simp; omega), List.getElem?_eq_none (by simp; omega)]; rfl
 rw [decide_eq_false h2, tollbarref17_All.j0, if_neg (by decide), if_pos (by omega), if_pos (by omega), hrep]
 have hu : unseen ns.length (fun _ => false) ≤ 32 := by
  unfold unseen
  refine Nat.le_trans List.countP_le_length ?_
  simp
  omega
 obtain ⟨o, eo, hO⟩ := hung_f ns fr root hn 32 (fun _ => false) root k hu (by omega)
 rw [eo]
 simp only [Option.bind_some]
 rcases hO with ⟨t, gt, rfl⟩ | ⟨hno, S', _, rfl⟩
 ·have ht := gt.len
  obtain ⟨kk, rfl⟩ : ∃ kk, k = fr.length + 1 + kk := ⟨k - fr.length - 1, by omega⟩
  rw [if_pos rfl]
  have a0 := all_l0 ns fr root ((items t).map toI) kk (by omega) fr.length 0 (plusT (fun _ => false) t) (by omega)
  rw [List.drop_zero] at a0
  refine Eq.trans a0 ?_
  cases hf : freeF (cellN ns) ns.length (plusT (fun _ => false) t) fr with
  | none => rw [allF_no (fun s hs => by
    have e := hs.good.one gt
    subst e
    obtain ⟨S', e1, _⟩ := hs.free
    rw [hf] at e1; cases e1)]
  | some S' =>
   obtain ⟨k2, rfl⟩ : ∃ k2, kk = ns.length + 1 + k2 := ⟨kk - ns.length - 1, by omega⟩
   show tollbarref17_All.l1 _ _ _ _ = _
   refine Eq.trans (all_l1 ns.length S' _ k2 (by omega) ns.length 0 (by omega)) ?_
   by_cases hall : ∀ p, 0 ≤ p → p < ns.length → S' p = true
   ·rw [if_pos hall]
    obtain ⟨k3, rfl⟩ : ∃ k3, k2 = ((items t).length - 1) + 1 + k3 := ⟨k2 - ((items t).length - 1) - 1, by omega⟩
    refine Eq.trans (all_l2 (items t) k3 (by omega) ((items t).length - 1) 0 (by omega) (by cases items t with
     | nil => exact List.Pairwise.nil
     | cons x ys => simp)) ?_
    by_cases hrow : Row (items t)
    ·rw [if_pos hrow, allF_yes ⟨hn, gt, ⟨S', hf, fun p hp => hall p (Nat.zero_le _) hp⟩, hrow⟩]
    ·rw [if_neg hrow, allF_no (fun s hs => by
      have e := hs.good.one gt
      subst e
      exact hrow hs.row)]
   ·rw [if_neg hall, allF_no (fun s hs => by
     have e := hs.good.one gt
     subst e
     obtain ⟨S2, e1, e2⟩ := hs.free
     rw [hf] at e1
     injection e1 with e1
     subst e1
     exact hall (fun p _ hp => e2 p hp))]
 ·rw [if_neg (by simp), allF_no (fun t h => hno t h.good)]
end Go.Proofs.Ytgkjpffbgnljeaa.Man
/- tollbarref17.There, With, Without, InsertError; SameItems, SameInts, SameTree, CopyTree: what they answer, plain. -/
set_option linter.unusedVariables false
set_option linter.unusedSimpArgs false
namespace Go.Proofs.Ytgkjpffbgnljeaa.Man
open Go.RowKit Go.Proofs.Ytgkjpffbgnljeaa.QT Go.Proofs.Ytgkjpffbgnljeaa.QA Go.Proofs.Ytgkjpffbgnljeaa.TreeM Go.Proofs.YtgkjpffbgnljeaaW.PrintWords Go.Proofs.YtgkjpffbgnljeaaW.PrintLast Go.Proofs.YtgkjpffbgnljeaaW.PrintMore
theorem itm_eq {x y : Itm} : x = y ↔ x.fr = y.fr ∧ x.to_ = y.to_ ∧ x.id = y.id := by
 obtain ⟨a, b, c⟩ := x
 obtain ⟨d, e, f⟩ := y
 simp
theorem wrapN (j : Nat) (h : j ≤ 100000000000000) : wrap64 ((j : Int) + 1) = ((j + 1 : Nat) : Int) := by unfold wrap64; omega
theorem there_l0 (ys : List Itm) (x : Itm) (kk : Nat) (hl : ys.length ≤ 100000000000000) : ∀ (n j : Nat), n + j = ys.length →
  tollbarref17_There.l0 (n + 1 + kk) (ys.map toI) (j : Int) x.fr x.to_ x.id = some (decide (x ∈ ys.drop j)) := by
 intro n
 induction n with
 | zero =>
  intro j hj
  rw [show 0 + 1 + kk = kk + 1 by omega, tollbarref17_There.l0, if_neg (by simp; omega), List.drop_eq_nil_of_le (by omega)]
  simp
 | succ n ih =>
  intro j hj
  have hjl : j < ys.length := by omega
  have hd : ys.drop j = ys[j] :: ys.drop (j + 1) := List.drop_eq_getElem_cons hjl
  rw [show n + 1 + 1 + kk = (n + 1 + kk) + 1 by omega, tollbarref17_There.l0, if_pos (by simp; omega), if_pos (by omega), rdI_get ys j hjl, hd, wrapN j (by omega), ih (j + 1) (by omega)]
  by_cases h : x = ys[j]
  ·rw [if_pos (by rw [h]; simp [toI])]
   simp [← h]
  ·rw [if_neg (by
    intro g
    simp [toI] at g
    exact h (itm_eq.2 ⟨g.1.1.symm, g.1.2.symm, g.2.symm⟩))]
   have e : (x ∈ ys[j] :: ys.drop (j + 1)) ↔ x ∈ ys.drop (j + 1) := by rw [List.mem_cons]; exact ⟨fun g => g.resolve_left h, Or.inr⟩
   rw [decide_eq_decide.2 e]
theorem there_f (ys : List Itm) (x : Itm) (k : Nat) (hl : ys.length ≤ 1000) (hk : 1001 ≤ k) : tollbarref17_There.f k (ys.map toI) x.fr x.to_ x.id = some (decide (x ∈ ys)) := by
 obtain ⟨kk, rfl⟩ : ∃ kk, k = ys.length + 1 + kk := ⟨k - ys.length - 1, by omega⟩
 exact there_l0 ys x kk (by omega) ys.length 0 (by omega)
theorem with_put (ys : List Itm) (x : Itm) (kk : Nat) (hl : ys.length ≤ 1000) : ∀ (n j : Nat) (out : List It), n + j = ys.length → out.length + n ≤ 5000 →
  tollbarref17_With.l0 (n + 1 + kk) (ys.map toI) out true (j : Int) x.fr x.to_ x.id = some (out ++ (ys.drop j).map toI) := by
 intro n
 induction n with
 | zero =>
  intro j out hj ho
  rw [show 0 + 1 + kk = kk + 1 by omega, tollbarref17_With.l0, if_neg (by simp; omega), if_pos rfl, List.drop_eq_nil_of_le (by omega)]
  simp
 | succ n ih =>
  intro j out hj ho
  have hjl : j < ys.length := by omega
  have hd : ys.drop j = ys[j] :: ys.drop (j + 1) := List.drop_eq_getElem_cons hjl
  rw [show n + 1 + 1 + kk = (n + 1 + kk) + 1 by omega, tollbarref17_With.l0, if_pos (by simp; omega), if_pos rfl, if_pos (by omega), rdI_get ys j hjl, hd, wrapN j (by omega), if_pos (by omega), ih (j + 1) _ (by omega) (by simp; omega)]
  simp only [List.append_assoc, List.singleton_append, List.map_cons, toI]
theorem with_l0 (ys : List Itm) (x : Itm) (kk : Nat) (hl : ys.length ≤ 1000) : ∀ (n j : Nat) (out : List It), n + j = ys.length → out.length + n ≤ 4000 →
  tollbarref17_With.l0 (n + 1 + kk) (ys.map toI) out false (j : Int) x.fr x.to_ x.id = some (out ++ (withF (ys.drop j) x).map toI) := by
 intro n
 induction n with
 | zero =>
  intro j out hj ho
  rw [show 0 + 1 + kk = kk + 1 by omega, tollbarref17_With.l0, if_neg (by simp; omega), if_neg (by decide), if_pos (by omega), List.drop_eq_nil_of_le (by omega)]
  simp [withF, toI]
 | succ n ih =>
  intro j out hj ho
  have hjl : j < ys.length := by omega
  have hd : ys.drop j = ys[j] :: ys.drop (j + 1) := List.drop_eq_getElem_cons hjl
  have hls := less_f x ys[j]
  rw [show n + 1 + 1 + kk = (n + 1 + kk) + 1 by omega, tollbarref17_With.l0, if_pos (by simp; omega), if_neg (by decide), if_pos (by omega), rdI_get ys j hjl, hd, wrapN j (by omega)]
  simp only [toI] at hls ⊢
  rw [hls]
  simp only [Option.bind_some]
  by_cases h : lt x ys[j]
  ·rw [if_pos (decide_eq_true h), if_pos (by omega), if_pos (by simp; omega)]
   have := with_put ys x kk hl n (j + 1) (out ++ [(⟨⟨x.fr, x.to_⟩, x.id⟩ : It)] ++ [(⟨⟨ys[j].fr, ys[j].to_⟩, ys[j].id⟩ : It)]) (by omega) (by simp; omega)
   refine this.trans ?_
   simp only [List.append_assoc, List.singleton_append, List.map_cons, List.cons_append, List.nil_append, withF, if_pos h, toI]
  ·rw [if_neg (by simp [h]), if_pos (by omega)]
   have := ih (j + 1) (out ++ [(⟨⟨ys[j].fr, ys[j].to_⟩, ys[j].id⟩ : It)]) (by omega) (by simp; omega)
   refine this.trans ?_
   simp only [List.append_assoc, List.singleton_append, List.map_cons, List.cons_append, List.nil_append, withF, if_neg h, toI]
theorem with_f (ys : List Itm) (x : Itm) (k : Nat) (hl : ys.length ≤ 1000) (hk : 1001 ≤ k) : tollbarref17_With.f k (ys.map toI) x.fr x.to_ x.id = some ((withF ys x).map toI) := by
 obtain ⟨kk, rfl⟩ : ∃ kk, k = ys.length + 1 + kk := ⟨k - ys.length - 1, by omega⟩
 exact with_l0 ys x kk hl ys.length 0 [] (by omega) (by simp; omega)
theorem sameInts_l0 (xs : List Int) (kk : Nat) (hl : xs.length ≤ 100000000000000) : ∀ (n j : Nat), n + j = xs.length → tollbarref19_SameInts.l0 (n + 1 + kk) xs xs (j : Int) = some true := by
 intro n
 induction n with
 | zero => intro j hj; rw [show 0 + 1 + kk = kk + 1 by omega, tollbarref19_SameInts.l0, if_neg (by omega)]
 | succ n ih =>
  intro j hj
  rw [show n + 1 + 1 + kk = (n + 1 + kk) + 1 by omega, tollbarref19_SameInts.l0, if_pos (by omega), if_pos (by omega), if_pos (by omega), if_pos rfl, wrapN j (by omega), ih (j + 1) (by omega)]
theorem sameInts_f (xs : List Int) (k : Nat) (hl : xs.length ≤ 100000000000000) (hk : xs.length + 1 ≤ k) : tollbarlaw0_SameInts.f k xs xs = some true := by
 obtain ⟨kk, rfl⟩ : ∃ kk, k = xs.length + 1 + kk := ⟨k - xs.length - 1, by omega⟩
 have h := sameInts_l0 xs kk hl xs.length 0 (by omega)
 unfold tollbarlaw0_SameInts.f tollbarref19_SameInts.f
 rw [if_pos rfl]
 show Option.bind (tollbarref19_SameInts.l0 _ xs xs ((0 : Nat) : Int)) _ = _
 rw [h]
 rfl
theorem sameItems_l0 (xs : List It) (kk : Nat) (hl : xs.length ≤ 100000000000000) : ∀ (n j : Nat), n + j = xs.length → tollbarlaw0_SameItems.l0 (n + 1 + kk) xs xs (j : Int) = some true := by
 intro n
 induction n with
 | zero => intro j hj; rw [show 0 + 1 + kk = kk + 1 by omega, tollbarlaw0_SameItems.l0, if_neg (by omega)]
 | succ n ih =>
  intro j hj
  rw [show n + 1 + 1 + kk = (n + 1 + kk) + 1 by omega, tollbarlaw0_SameItems.l0, if_pos (by omega), if_pos (by omega), if_pos (by omega), if_neg (by simp), wrapN j (by omega), ih (j + 1) (by omega)]
theorem sameItems_f (xs : List It) (k : Nat) (hl : xs.length ≤ 100000000000000) (hk : xs.length + 1 ≤ k) : tollbarlaw0_SameItems.f k xs xs = some true := by
 obtain ⟨kk, rfl⟩ : ∃ kk, k = xs.length + 1 + kk := ⟨k - xs.length - 1, by omega⟩
 unfold tollbarlaw0_SameItems.f
 rw [if_pos rfl]
 exact sameItems_l0 xs kk hl xs.length 0 (by omega)
theorem sameTree_l0 (ns : List Nd) (root : Int) (fr : List Int) (kk : Nat) (hl : ns.length ≤ 100000000000000) : ∀ (n j : Nat), n + j = ns.length → tollbarlaw0_SameTree.l0 (n + 1 + kk) (j : Int) ns root fr ns root fr = some true := by
 intro n
 induction n with
 | zero => intro j hj; rw [show 0 + 1 + kk = kk + 1 by omega, tollbarlaw0_SameTree.l0, if_neg (by omega)]
 | succ n ih =>
  intro j hj
  rw [show n + 1 + 1 + kk = (n + 1 + kk) + 1 by omega, tollbarlaw0_SameTree.l0, if_pos (by omega), if_pos (by omega), if_pos (by omega), if_neg (by simp), wrapN j (by omega), ih (j + 1) (by omega)]
theorem sameTree_f (ns : List Nd) (root : Int) (fr : List Int) (k : Nat) (hl : ns.length ≤ 100000000000000) (hf : fr.length ≤ 100000000000000) (hk : ns.length + 2 ≤ k) (hk2 : fr.length + 1 ≤ k) : tollbarlaw0_SameTree.f k ns root fr ns root fr = some true := by
 unfold tollbarlaw0_SameTree.f
 rw [if_pos rfl, if_pos rfl, sameInts_f fr k hf hk2]
 simp only [Option.bind_some]
 obtain ⟨kk, rfl⟩ : ∃ kk, k = ns.length + 1 + kk + 1 := ⟨k - ns.length - 2, by omega⟩
 rw [tollbarlaw0_SameTree.j0, if_neg (by decide)]
 exact sameTree_l0 ns root fr kk hl ns.length 0 (by omega)
theorem copyTree_f (ns : List Nd) (root : Int) (fr : List Int) (h1 : ns.length < 2513169434916) (h2 : fr.length < 17592186044416) : tollbarlaw0_CopyTree.f ns root fr = some (ns, root, fr) := by
 unfold tollbarlaw0_CopyTree.f tollbarlaw0_CopyInts.f
 simp only [Option.bind_some]
 rw [if_pos (by simpa using h1), if_pos (by simpa using h2)]
 rfl
noncomputable def errF (ns : List Nd) (root : Int) (fr : List Int) (x : Itm) : Int := open Classical in
 if mayT (cellN ns) ns.length root fr = true ∧ itmayF x = true then
  if x ∈ items (treeOf (cellN ns) ns.length root fr) then 1701 else if (items (treeOf (cellN ns) ns.length root fr)).length = 32 then 1703 else 0
 else 1700
theorem insertError_f (ns : List Nd) (root : Int) (fr : List Int) (x : Itm) (k : Nat) (hk : 2000 ≤ k) : tollbarref17_InsertError.f k ns root fr x.fr x.to_ x.id = some (errF ns root fr x) := by
 obtain ⟨k, rfl⟩ : ∃ j, k = j + 1 := ⟨k - 1, by omega⟩
 unfold tollbarref17_InsertError.f
 rw [all_f ns fr root (k + 1) (by omega)]
 simp only [Option.bind_some]
 unfold errF
 by_cases hm : mayT (cellN ns) ns.length root fr = true
 ·obtain ⟨t, ht⟩ := mayT_true.1 hm
  have hle := ht.items_le
  rw [allF_yes ht, if_pos rfl, refItemMay_f, treeOf_is ht]
  simp only [Option.bind_some]
  by_cases hx : itmayF x = true
  ·rw [if_pos ⟨hm, hx⟩, hx, tollbarref17_InsertError.j0, if_neg (by decide), there_f (items t) x k (by omega) (by omega)]
   simp only [Option.bind_some]
   by_cases hin : x ∈ items t
   ·rw [if_pos (decide_eq_true hin), if_pos hin]
   ·rw [if_neg (by simp [hin]), if_neg hin]
    by_cases h32 : (items t).length = 32
    ·rw [if_pos (by simp [h32]), if_pos h32]
    ·rw [if_neg (by simp; omega), if_neg h32]
  ·rw [if_neg (fun g => hx g.2), Bool.eq_false_iff.2 hx, tollbarref17_InsertError.j0, if_pos (show (!false) = true from rfl)]
 ·have hf : mayT (cellN ns) ns.length root fr = false := by simpa using hm
  rw [allF_no (mayT_false.1 hf), if_neg (by simp), if_neg (fun g => hm g.1), tollbarref17_InsertError.j0, if_pos rfl]
end Go.Proofs.Ytgkjpffbgnljeaa.Man
/- SpoilTree ends. -/
set_option linter.unusedVariables false
set_option linter.unusedSimpArgs false
namespace Go.Proofs.Ytgkjpffbgnljeaa.Man
open Go.RowKit Go.Proofs.Ytgkjpffbgnljeaa.QT Go.Proofs.Ytgkjpffbgnljeaa.QA Go.Proofs.Ytgkjpffbgnljeaa.TreeM Go.Proofs.YtgkjpffbgnljeaaW.PrintWords Go.Proofs.YtgkjpffbgnljeaaW.PrintLast Go.Proofs.YtgkjpffbgnljeaaW.PrintMore
theorem spoilInts_l0 : ∀ (n j k : Nat) (xs : List Int), n + j = xs.length → xs.length ≤ 100000000000000 → n + 1 ≤ k → ∃ r, QL.tollbarlaw0_SpoilInts.l0 k xs (j : Int) = some r := by
 intro n
 induction n with
 | zero =>
  intro j k xs hj hl hk
  obtain ⟨k, rfl⟩ : ∃ i, k = i + 1 := ⟨k - 1, by omega⟩
  rw [QL.tollbarlaw0_SpoilInts.l0, if_neg (by omega)]
  exact ⟨_, rfl⟩
 | succ n ih =>
  intro j k xs hj hl hk
  obtain ⟨k, rfl⟩ : ∃ i, k = i + 1 := ⟨k - 1, by omega⟩
  rw [QL.tollbarlaw0_SpoilInts.l0, if_pos (by omega), if_pos (by omega), wrapN j (by omega)]
  exact ih (j + 1) k _ (by rw [List.length_set]; omega) (by rw [List.length_set]; omega) (by omega)
theorem spoilTree_l0 (root : Int) (fr : List Int) : ∀ (n j k : Nat) (xs : List Nd), n + j = xs.length → xs.length ≤ 100000000000000 → n + 1 ≤ k → ∃ r, QL.tollbarlaw0_SpoilTree.l0 k (j : Int) xs root fr = some r := by
 intro n
 induction n with
 | zero =>
  intro j k xs hj hl hk
  obtain ⟨k, rfl⟩ : ∃ i, k = i + 1 := ⟨k - 1, by omega⟩
  rw [QL.tollbarlaw0_SpoilTree.l0, if_neg (by omega)]
  exact ⟨_, rfl⟩
 | succ n ih =>
  intro j k xs hj hl hk
  obtain ⟨k, rfl⟩ : ∃ i, k = i + 1 := ⟨k - 1, by omega⟩
  rw [QL.tollbarlaw0_SpoilTree.l0, if_pos (by omega), if_pos (by omega), wrapN j (by omega)]
  exact ih (j + 1) k _ (by rw [List.length_set]; omega) (by rw [List.length_set]; omega) (by omega)
theorem spoilTree_f (ns : List Nd) (root : Int) (fr : List Int) (k : Nat) (h1 : ns.length ≤ 1000) (h2 : fr.length ≤ 1000) (hk : 2000 ≤ k) : ∃ r, QL.tollbarlaw0_SpoilTree.f k ns root fr = some r := by
 unfold QL.tollbarlaw0_SpoilTree.f QL.tollbarlaw0_SpoilInts.f
 obtain ⟨r1, e1⟩ := spoilInts_l0 fr.length 0 k fr (by omega) (by omega) (by omega)
 have e1' : QL.tollbarlaw0_SpoilInts.l0 k fr 0 = some r1 := e1
 rw [e1']
 simp only [Option.bind_some]
 exact spoilTree_l0 root r1 ns.length 0 k ns (by omega) (by omega) (by omega)
end Go.Proofs.Ytgkjpffbgnljeaa.Man
/- The law TreeInserts, plain. -/
set_option linter.unusedVariables false
set_option linter.unusedSimpArgs false
namespace Go.Proofs.Ytgkjpffbgnljeaa.Man
open Go.RowKit Go.Proofs.Ytgkjpffbgnljeaa.QT Go.Proofs.Ytgkjpffbgnljeaa.QA Go.Proofs.Ytgkjpffbgnljeaa.TreeM Go.Proofs.YtgkjpffbgnljeaaW.PrintWords Go.Proofs.YtgkjpffbgnljeaaW.PrintLast Go.Proofs.YtgkjpffbgnljeaaW.PrintMore
theorem insF_cases (ns : List Nd) (root : Int) (fr : List Int) (x : Itm) :
  (errF ns root fr x = 0 ∧ ∃ t n' r' f', IsT (cellN ns) ns.length root fr t ∧ insF ns root fr x = ((n', r', f'), 0) ∧ IsT (cellN n') n'.length r' f' (put t x (placeOf ns.length fr))) ∨ (errF ns root fr x ≠ 0 ∧ insF ns root fr x = (([], 0, []), errF ns root fr x)) := by
 by_cases h : mayT (cellN ns) ns.length root fr = true ∧ itmayF x = true
 ·obtain ⟨t, ht⟩ := mayT_true.1 h.1
  by_cases hin : x ∈ items t
  ·have e : errF ns root fr x = 1701 := by unfold errF; rw [if_pos h, treeOf_is ht, if_pos hin]
   exact .inr ⟨by rw [e]; decide, by rw [e, insF_there ht h.2 hin]⟩
  ·by_cases h32 : (items t).length = 32
   ·have e : errF ns root fr x = 1703 := by unfold errF; rw [if_pos h, treeOf_is ht, if_neg hin, if_pos h32]
    exact .inr ⟨by rw [e]; decide, by rw [e, insF_full ht h.2 hin (by omega)]⟩
   ·have e : errF ns root fr x = 0 := by unfold errF; rw [if_pos h, treeOf_is ht, if_neg hin, if_neg h32]
    have hle := ht.items_le
    obtain ⟨n', r', f', e1, e2⟩ := ins_step ht h.2 hin (by omega)
    exact .inl ⟨e, t, n', r', f', ht, e1, e2⟩
 ·have e : errF ns root fr x = 1700 := by unfold errF; rw [if_neg h]
  exact .inr ⟨by rw [e]; decide, by rw [e, insF_no h]⟩
theorem treeInserts_f (ns : List Nd) (root : Int) (fr : List Int) (x : Itm) (h1 : ns.length < 2513169434916) (h2 : fr.length < 17592186044416) : ∃ k, QL.tollbarlaw17_TreeInserts.f k ns root fr x.fr x.to_ x.id = some true := by
 refine ⟨ns.length + fr.length + 5000 + 2, ?_⟩
 generalize hk : ns.length + fr.length + 5000 = k
 unfold QL.tollbarlaw17_TreeInserts.f tree_Insert.f
 rw [copyTree_f ns root fr h1 h2]
 simp only [Option.bind_some]
 rw [if_pos h2]
 simp only [Option.bind_some]
 rw [insertError_f ns root fr x _ (by omega)]
 simp only [Option.bind_some, tollbarlaw0_Num.f]
 rw [sameTree_f ns root fr _ (by omega) (by omega) (by omega) (by omega)]
 simp only [Option.bind_some, Bool.not_true]
 rcases insF_cases ns root fr x with ⟨he, t, n', r', f', ht, e1, ht'⟩ | ⟨he, e1⟩
 ·have hz := ht'.size
  have hzf := ht'.free_le
  have hi := ht.items_le
  have hi' := ht'.items_le
  obtain ⟨rr, er⟩ := spoilTree_f n' r' f' k (by omega) (by omega) (by omega)
  rw [he, e1, if_pos rfl, QL.tollbarlaw17_TreeInserts.j0, if_neg (by decide), if_pos rfl, all_f ns fr root _ (by omega), all_f n' f' r' _ (by omega), allF_yes ht, allF_yes ht', ins_items ht.row]
  simp only [Option.bind_some]
  rw [if_pos trivial, with_f (items t) x _ (by omega) (by omega)]
  simp only [Option.bind_some]
  rw [ins_items ht.row] at hi'
  rw [sameItems_f _ _ (by simp; omega) (by simp; omega)]
  simp only [Option.bind_some, Bool.not_true]
  rw [QL.tollbarlaw17_TreeInserts.j1, if_neg (by decide), er]
  simp only [Option.bind_some, tollbarlaw17_awake.f, if_true]
  rw [sameTree_f ns root fr _ (by omega) (by omega) (by omega) (by omega)]
  rfl
 ·rw [e1, if_pos rfl, QL.tollbarlaw17_TreeInserts.j0, if_neg (by decide), if_neg he]
  simp [tollbarlaw17_awake.f]
end Go.Proofs.Ytgkjpffbgnljeaa.Man
/- The plain law TreeInserts, as its row asks for it. -/
set_option linter.unusedVariables false
namespace Go.Proofs.Ytgkjpffbgnljeaa.Pure
open Go.RowKit Go.Proofs.Ytgkjpffbgnljeaa.QT Go.Proofs.Ytgkjpffbgnljeaa.QL Go.Proofs.Ytgkjpffbgnljeaa.Man Go.Proofs.Ytgkjpffbgnljeaa.OpsTreeInserts
theorem TreeInserts (x0 : S25) (h0 : I25 x0) (x1 : S50) (h1 : I50 x1) : ∃ k, tollbarlaw17_TreeInserts.f k x0.f0 x0.f1 x0.f2 x1.f0.f0 x1.f0.f1 x1.f1 = some true := by
 obtain ⟨⟨_, h1⟩, _, ⟨_, h2⟩⟩ := h0
 have h1' : x0.f0.length < 2513169434916 := by omega
 have h2' : x0.f2.length < 17592186044416 := by omega
 exact treeInserts_f x0.f0 x0.f1 x0.f2 (ofI x1) h1' h2'
end Go.Proofs.Ytgkjpffbgnljeaa.Pure
