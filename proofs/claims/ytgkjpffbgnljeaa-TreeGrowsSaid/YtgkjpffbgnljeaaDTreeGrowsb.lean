/- Texts of this claim laid together: QA11, QA12. -/
import Derived.Test.YtgkjpffbgnljeaaDTreeGrowsa
-- written by this session's program mprint.py: functions of the Go program, and their contracts
namespace Go.Proofs.Ytgkjpffbgnljeaa.QA
open Go.RowKit Go.Proofs.Ytgkjpffbgnljeaa.Au Go.Proofs.Ytgkjpffbgnljeaa.QT  Go.Proofs.YtgkjpffbgnljeaaW.PrintWords Go.Proofs.YtgkjpffbgnljeaaW.PrintLast Go.Proofs.YtgkjpffbgnljeaaW.PrintMore
attribute [local go_sem] max2_int min2_int max_two min_two max_three min_three max_four min_four
set_option linter.unusedVariables false
set_option linter.unusedSimpArgs false
def tollbarref17_With.l0 : Nat → List (S50) → List (S50) → Bool → Int → Int → Int → Int → Option ((List (S50)))
 | 0, _, _, _, _, _, _, _ => none
 | k + 1, x0, x5, x6, x7, xqa, xqb, xqc => if x7 < (x0.length : Int) then (if x6 = true then (if 0 ≤ x7 then (if x5.length < 5864062014805 then (tollbarref17_With.l0 k x0 (x5 ++ [(⟨(⟨(rd_T50 x0 x7).f0.f0, (rd_T50 x0 x7).f0.f1⟩ : S27), (rd_T50 x0 x7).f1⟩ : S50)]) x6 (wrap64 (x7 + 1)) xqa xqb xqc) else (none)) else (none)) else (if 0 ≤ x7 then ((tollbarref17_Less.f xqa xqb xqc ((rd_T50 x0 x7).f0.f0) ((rd_T50 x0 x7).f0.f1) ((rd_T50 x0 x7).f1)).bind fun t283 => (if t283 = true then (if x5.length < 5864062014805 then ((some (x5 ++ [(⟨(⟨xqa, xqb⟩ : S27), xqc⟩ : S50)] : List (S50))).bind fun y284 => (if y284.length < 5864062014805 then (tollbarref17_With.l0 k x0 (y284 ++ [(⟨(⟨(rd_T50 x0 x7).f0.f0, (rd_T50 x0 x7).f0.f1⟩ : S27), (rd_T50 x0 x7).f1⟩ : S50)]) true (wrap64 (x7 + 1)) xqa xqb xqc) else (none))) else (none)) else (if x5.length < 5864062014805 then (tollbarref17_With.l0 k x0 (x5 ++ [(⟨(⟨(rd_T50 x0 x7).f0.f0, (rd_T50 x0 x7).f0.f1⟩ : S27), (rd_T50 x0 x7).f1⟩ : S50)]) x6 (wrap64 (x7 + 1)) xqa xqb xqc) else (none)))) else (none))) else (if x6 = true then (some x5) else (if x5.length < 5864062014805 then (some (x5 ++ [(⟨(⟨xqa, xqb⟩ : S27), xqc⟩ : S50)])) else (none)))
def tollbarref17_With.f (k : Nat) (l0 : List (S50)) (a1_0 : Int) (a1_1 : Int) (a1_2 : Int) : Option ((List (S50))) := tollbarref17_With.l0 k l0 ([] : List (S50)) false 0 a1_0 a1_1 a1_2
def tollbarref17_With.T6 : Bool × List (List Nat × List Nat) := (true, [([], []), ([0], [0]), ([1], [1]), ([2], [2]), ([2], [2]), ([2], [2]), ([4, 5, 2], [2, 4, 5]), ([6, 2], [2, 6]), ([3, 7, 2, 2], [2, 3, 7]), ([2, 8], [2, 8])])
def tollbarref17_With.B6 : List Nat := [0, 1, 3, 7, 7, 7, 55, 119, 255, 511]
theorem tollbarref17_With.tab6 : rtab .any (opsOf Try.f28 6) = tollbarref17_With.T6 := by kernel_rfl
theorem tollbarref17_With.bits6 : waitsOk tollbarref17_With.T6.2 tollbarref17_With.B6 = true := by kernel_rfl
set_option maxHeartbeats 8000000 in
set_option maxRecDepth 100000 in
theorem tollbarref17_With.calls (k : Nat) (A0 : Option Addr) (c0 : Nat) (l0 : List (S50)) (a1_0 : Int) (a1_1 : Int) (a1_2 : Int) (r : List (S50)) (w : World) (hr0 : Kd.C k50 w A0 l0.length l0) (hc0 : l0.length ≤ c0) (h : tollbarref17_With.f k l0 a1_0 a1_1 a1_2 = some r) :
  Calls Try.prog 28 #[.slice A0 l0.length c0, .agg #[.int .i64 a1_0, .int .i64 a1_1, .int .i64 a1_2]] w fun e w' => ∃ v0_ : Value, e = .returned (v0_) ∧ Kd.R k50 50 w' w.heap.size (fun _ => True) v0_ r ∧ Below w.heap.size w w' := by
 have hu50 := Try.underlying50
 have HR0 := zK hr0
 have HC0 := zK hc0
 clear hr0 hc0
 have HB := zK (Below.refl w.heap.size w)
 have H : (tollbarref17_With.l0 k l0 ([] : List (S50)) false 0 a1_0 a1_1 a1_2) = some r := h
 clear h
 have H' := zK H
 clear H
 go_enter Try.func28, Try.ntmps28
 go_wp2_with (first | ((with_reducible refine gate_dst (N := 3) rfl ?_); refine box_event ?hg (N := 3) ?hd (cs := #[.int .i64 a1_0, .int .i64 a1_1, .int .i64 a1_2]) (t := 50) ?hr ?_; (case hd => rfl); (case hg => rfl); (case hr => first | (go_simp; done) | (go_simp; rfl)); intro gb277 hg w3 hbox hb; have n0_ := zK (yF (zl HB.out) hb); have n1_ := zK (hbox); have n2_ := zK ((by rw [hg]; exact (yG (zl HB.out)) : w.heap.size ≤ gb277)); have n3_ := zK ((by rw [hg]; exact (yG (zl HB.out)) : w.heap.size ≤ gb277)); clear HB; have HB := n0_; have BK277 := n1_; have GW277 := n2_; have GE277 := n3_; clear n0_ n1_ n2_ n3_; clear hb hbox hg))
 go_loopg [5, 6, 7] k (fun kq v5 v6 v7 w' => ∃ (x5_1 : List (S50)) (x6_1 : Bool) (x7_1 : Int), v6 = .bool x6_1 ∧ v7 = .int .i64 x7_1 ∧ Aside0 (tollbarref17_With.l0 kq l0 x5_1 x6_1 x7_1 a1_0 a1_1 a1_2 = some r) ∧ Aside0 (kq ≤ k) ∧ Aside0 (Kd.R k50 50 w' w.heap.size (fun k_ => k_ ≠ gb277) v5 x5_1) ∧ Aside0 (w'.heap[gb277]? = some (.cells #[.int .i64 a1_0, .int .i64 a1_1, .int .i64 a1_2] 50 (0, 0))) ∧ Aside0 (Below w.heap.size w w'))
 case atStart => exact ⟨(([] : List (S50))), (false), (0), zz, zz, H', ⟨Nat.le_refl _⟩, ⟨by first | exact Kd.R_nil _ _ _ _ _ | exact Kd.N_nil _ _ _ _ _ | exact Kd.V_nil _ _ _ _ _ | exact Kd.Q_nil _ _ _ _ _ | exact Kd.S_nil _ _ _ _ _⟩, ⟨by (with_reducible repeat (first | refine zD ?_ _ | refine zE ?_ | refine zF ?_ _)); exact BK277.out⟩, ⟨by repeat (first | (with_reducible first | exact HB.out | apply zG | apply zH | apply zI | refine zL ?_ GE277.out) | exact HB.out)⟩⟩
 case round =>
  clear H'
  try clear c2
  try clear p2
  obtain ⟨x5_1, x6_1, x7_1, rfl, rfl, HA, HK1, HO_5, BK277, HB⟩ := hrel
  cases gk with
  | zero => exact absurd HA.out (by simp [tollbarref17_With.l0])
  | succ k1 =>
   have H := HA.out
   clear HA
   simp only [tollbarref17_With.l0] at H
   by_cases c4 : x7_1 < (l0.length : Int)
   ·rw [if_pos c4] at H
    have c4b0 : decide (x7_1 < (l0.length : Int)) = true := decide_eq_true c4
    clear c4
    by_cases c5 : x6_1 = true
    ·subst c5
     have H1 : (if 0 ≤ x7_1 then (if x5_1.length < 5864062014805 then (tollbarref17_With.l0 k1 l0 (x5_1 ++ [(⟨(⟨(rd_T50 l0 x7_1).f0.f0, (rd_T50 l0 x7_1).f0.f1⟩ : S27), (rd_T50 l0 x7_1).f1⟩ : S50)]) true (wrap64 (x7_1 + 1)) a1_0 a1_1 a1_2) else (none)) else (none)) = some r := by rw [if_pos rfl] at H; exact H
     clear H
     have H := H1
     clear H1
     by_cases c6 : 0 ≤ x7_1
     ·rw [if_pos c6] at H
      have c6b0 : decide (0 ≤ x7_1) = true := decide_eq_true c6
      clear c6
      by_cases c7 : x5_1.length < 5864062014805
      ·rw [if_pos c7] at H
       have LMc7 := zK c7
       clear c7
       obtain ⟨y279, hy279⟩ : ∃ y_ : List (S50), y_ = (x5_1 ++ [(⟨(⟨(rd_T50 l0 x7_1).f0.f0, (rd_T50 l0 x7_1).f0.f1⟩ : S27), (rd_T50 l0 x7_1).f1⟩ : S50)]) := ⟨_, rfl⟩
       replace H : (tollbarref17_With.l0 k1 l0 y279 true (wrap64 (x7_1 + 1)) a1_0 a1_1 a1_2) = some r := by first | (rw [hy279]; with_reducible exact H) | (have H2_ := (Option.bind_some _ _).symm.trans H; rw [hy279]; with_reducible exact H2_) | (have H2_ := (Option.bind_some _ _).symm.trans H; with_reducible exact H2_) | with_reducible exact H | (rw [hy279]; exact H) | exact H
       have Ny279 := zK hy279
       clear hy279
       have H' := zK H
       clear H
       try go_wp2
       have n0_ := zK (zC HO_5.out)
       have n1_ := zK (zE BK277.out)
       have n2_ := zK (zI HB.out)
       clear HO_5
       clear BK277
       clear HB
       have HO_5 := n0_
       have BK277 := n1_
       have HB := n2_
       clear n0_ n1_ n2_
       refine start_ (n := 10) (S := fun w' => True) (ds := []) #[false, false, false, false, false, false, false, false, false, false] (by kernel_rfl) rfl rfl trivial (fun hHeld => ?_); refine with_tabW tollbarref17_With.tab6 tollbarref17_With.bits6 (fun HT_ HW_ => ?_)
       generalize wr.drew = w8 at HO_5 BK277 HB hHeld ⊢
       refine pure_ (i := 0) (N := some 14) (v := ?_) (a' := ?_) #[true, false, false, false, false, false, false, false, false, false] rfl rfl (any_of HT_.out (by kernel_rfl)) (fun _ _ _ h => h) (Or.inl ⟨by rfl, ?_⟩) ?_ ?_
       rotate_left
       ·intro w'
        go_simp
        with_reducible rfl
       rotate_left
       ·simp only [Act.put, zY, zZ, yA, i64_w, i32_w]
        rfl
       refine pure_ (i := 1) (N := some 15) (v := ?_) (a' := ?_) #[true, true, false, false, false, false, false, false, false, false] rfl rfl (any_of HT_.out (by kernel_rfl)) (fun _ _ _ h => h) (Or.inl ⟨by rfl, ?_⟩) ?_ ?_
       rotate_left
       ·intro w'
        go_simp
        with_reducible rfl
       rotate_left
       ·simp only [Act.put, zY, zZ, yA, i64_w, i32_w]
        rfl
       refine pure_ (i := 2) (N := some 16) (v := ?_) (a' := ?_) #[true, true, true, false, false, false, false, false, false, false] rfl rfl (any_of HT_.out (by kernel_rfl)) (fun _ _ _ h => h) (Or.inl ⟨by rfl, ?_⟩) ?_ ?_
       rotate_left
       ·intro w'
        go_simp
        with_reducible rfl
       rotate_left
       ·simp only [Act.put, zY, zZ, yA, i64_w, i32_w]
        rfl
       refine pure_ (i := 3) (N := some 17) (v := undef) (a' := ?_) #[true, true, true, true, false, false, false, false, false, false] rfl rfl (any_of HT_.out (by kernel_rfl)) (fun _ _ _ h => h) (Or.inr ⟨by rfl, rfl⟩) ?_ ?_
       rotate_left
       ·simp only [Act.put, zY, zZ, yA, i64_w, i32_w]
        rfl
       refine pure_ (i := 4) (N := some 18) (v := undef) (a' := ?_) #[true, true, true, true, true, false, false, false, false, false] rfl rfl (any_of HT_.out (by kernel_rfl)) (fun _ _ _ h => h) (Or.inr ⟨by rfl, rfl⟩) ?_ ?_
       rotate_left
       ·simp only [Act.put, zY, zZ, yA, i64_w, i32_w]
        rfl
       refine pure_ (i := 5) (N := some 19) (v := undef) (a' := ?_) #[true, true, true, true, true, true, false, false, false, false] rfl rfl (any_of HT_.out (by kernel_rfl)) (fun _ _ _ h => h) (Or.inr ⟨by rfl, rfl⟩) ?_ ?_
       rotate_left
       ·simp only [Act.put, zY, zZ, yA, i64_w, i32_w]
        rfl
       refine pure_ (i := 6) (N := some 20) (v := undef) (a' := ?_) #[true, true, true, true, true, true, true, false, false, false] rfl rfl (any_of HT_.out (by kernel_rfl)) (fun _ _ _ h => h) (Or.inr ⟨by rfl, rfl⟩) ?_ ?_
       rotate_left
       ·simp only [Act.put, zY, zZ, yA, i64_w, i32_w]
        rfl
       refine pure_ (i := 7) (N := some 21) (v := undef) (a' := ?_) #[true, true, true, true, true, true, true, true, false, false] rfl rfl (any_of HT_.out (by kernel_rfl)) (fun _ _ _ h => h) (Or.inr ⟨by rfl, rfl⟩) ?_ ?_
       rotate_left
       ·simp only [Act.put, zY, zZ, yA, i64_w, i32_w]
        rfl
       refine pure_ (i := 8) (N := some 22) (v := undef) (a' := ?_) #[true, true, true, true, true, true, true, true, true, false] rfl rfl (any_of HT_.out (by kernel_rfl)) (fun _ _ _ h => h) (Or.inr ⟨by rfl, rfl⟩) ?_ ?_
       rotate_left
       ·simp only [Act.put, zY, zZ, yA, i64_w, i32_w]
        rfl
       refine pure_ (i := 9) (N := some 23) (v := ?_) (a' := ?_) #[true, true, true, true, true, true, true, true, true, true] rfl rfl (any_of HT_.out (by kernel_rfl)) (fun _ _ _ h => h) (Or.inl ⟨by rfl, ?_⟩) ?_ ?_
       rotate_left
       ·intro w'
        go_simp
        with_reducible rfl
       rotate_left
       ·simp only [Act.put, zY, zZ, yA, i64_w, i32_w]
        rfl
       refine done_ (done_of HT_.out (by kernel_rfl)) ?_
       have p278 : 0 ≤ (x7_1 : Int) := of_decide_eq_true (by first | (with_reducible assumption) | assumption)
       have q278 : x7_1 < (l0.length : Int) := of_decide_eq_true (by first | (with_reducible assumption) | assumption)
       obtain ⟨ad278, e278, hx278_0, hx278_1, hx278_2⟩ := at_T50 HR0.out x7_1 p278 q278
       cases e278
       replace hx278_0 := (HB.out.cell (zJ w _ hx278_0)).trans hx278_0
       replace hx278_1 := (HB.out.cell (zJ w _ hx278_1)).trans hx278_1
       replace hx278_2 := (HB.out.cell (zJ w _ hx278_2)).trans hx278_2
       replace p278 := eq_true p278
       replace q278 := eq_true q278
       try go_wp2_with (first | ((with_reducible refine gate_builtin (b := .append) (xs := #[.tmp 28, .tmp 33]) rfl ?_); at_builtin; refine Kd.R_append k50 (w0 := w) w.heap.size rfl (.tmp 28) (.tmp 33) 29 50 (.agg #[(.int .i64 0), (.int .i64 0), (.int .i64 0)]) 24 rfl Try.underlying29 info50 rfl (by decide) (by omega) u5 x5_1 (⟨(⟨(rd_T50 l0 x7_1).f0.f0, (rd_T50 l0 x7_1).f0.f1⟩ : S27), (rd_T50 l0 x7_1).f1⟩ : S50) [.int .i64 ((rd_T50 l0 x7_1).f0.f0), .int .i64 ((rd_T50 l0 x7_1).f0.f1), .int .i64 ((rd_T50 l0 x7_1).f1)] (fun k_ => k_ ≠ gb277) (fun _ => False) rfl rfl ?aP (fun _ hk => hk.elim) ?aF ?aO ?aB ?aS ?aL ?_; (case aP => exact k50_mkM _ _ _ (⟨(⟨(rd_T50 l0 x7_1).f0.f0, (rd_T50 l0 x7_1).f0.f1⟩ : S27), (rd_T50 l0 x7_1).f1⟩ : S50)); (case aB => exact (zl HB.out)); (case aF => exact (fun k_ hk => Kd.freshB (g := gb277) (o := .cells #[.int .i64 a1_0, .int .i64 a1_1, .int .i64 a1_2] 50 (0, 0)) (zb BK277.out) k_ hk)); (case aO => exact (zr HO_5.out)); (case aS => exact (yG (zl HB.out))); (case aL => have := LMc7.out; omega); intro v280 w9 ho hb hg hat; rw [← Ny279.out] at ho; have n0_ := zK (blk_grown (g := gb277) (o := .cells #[.int .i64 a1_0, .int .i64 a1_1, .int .i64 a1_2] 50 (0, 0)) (zb BK277.out) hg (Kd.R_away HO_5.out (fun _ hk => hk))); have n1_ := zK (hb); have n2_ := zK (ho); clear BK277; clear HB; clear HO_5; have BK277 := n0_; have HB := n1_; have HO281 := n2_; clear n0_ n1_ n2_; clear ho hb hg hat))
       go_roundg k1
       case measure => have := HK1.out; omega
       case rel => exact ⟨(y279), (true), (wrap64 (x7_1 + 1)), zz, zz, H', ⟨by have := HK1.out; omega⟩, ⟨by (with_reducible repeat (first | apply zA | apply zB | apply zC)); exact HO281.out⟩, ⟨by (with_reducible repeat (first | refine zD ?_ _ | refine zE ?_ | refine zF ?_ _)); exact BK277.out⟩, ⟨by repeat (first | (with_reducible first | exact HB.out | apply zG | apply zH | apply zI | refine zL ?_ GE277.out) | exact HB.out)⟩⟩
      ·rw [if_neg c7] at H
       exact absurd H (by simp)
     ·rw [if_neg c6] at H
      exact absurd H (by simp)
    ·replace c5 := Bool.eq_false_iff.mpr c5
     subst c5
     have H1 : (if 0 ≤ x7_1 then ((tollbarref17_Less.f a1_0 a1_1 a1_2 ((rd_T50 l0 x7_1).f0.f0) ((rd_T50 l0 x7_1).f0.f1) ((rd_T50 l0 x7_1).f1)).bind fun t283 => (if t283 = true then (if x5_1.length < 5864062014805 then ((some (x5_1 ++ [(⟨(⟨a1_0, a1_1⟩ : S27), a1_2⟩ : S50)] : List (S50))).bind fun y284 => (if y284.length < 5864062014805 then (tollbarref17_With.l0 k1 l0 (y284 ++ [(⟨(⟨(rd_T50 l0 x7_1).f0.f0, (rd_T50 l0 x7_1).f0.f1⟩ : S27), (rd_T50 l0 x7_1).f1⟩ : S50)]) true (wrap64 (x7_1 + 1)) a1_0 a1_1 a1_2) else (none))) else (none)) else (if x5_1.length < 5864062014805 then (tollbarref17_With.l0 k1 l0 (x5_1 ++ [(⟨(⟨(rd_T50 l0 x7_1).f0.f0, (rd_T50 l0 x7_1).f0.f1⟩ : S27), (rd_T50 l0 x7_1).f1⟩ : S50)]) false (wrap64 (x7_1 + 1)) a1_0 a1_1 a1_2) else (none)))) else (none)) = some r := by rw [if_neg (show ¬ (false = true) by decide)] at H; exact H
     clear H
     have H := H1
     clear H1
     by_cases c10 : 0 ≤ x7_1
     ·rw [if_pos c10] at H
      have c10b0 : decide (0 ≤ x7_1) = true := decide_eq_true c10
      clear c10
      replace H := yH.mp H
      obtain ⟨t283, A110, H⟩ := H
      replace H : (if t283 = true then (if x5_1.length < 5864062014805 then ((some (x5_1 ++ [(⟨(⟨a1_0, a1_1⟩ : S27), a1_2⟩ : S50)] : List (S50))).bind fun y284 => (if y284.length < 5864062014805 then (tollbarref17_With.l0 k1 l0 (y284 ++ [(⟨(⟨(rd_T50 l0 x7_1).f0.f0, (rd_T50 l0 x7_1).f0.f1⟩ : S27), (rd_T50 l0 x7_1).f1⟩ : S50)]) true (wrap64 (x7_1 + 1)) a1_0 a1_1 a1_2) else (none))) else (none)) else (if x5_1.length < 5864062014805 then (tollbarref17_With.l0 k1 l0 (x5_1 ++ [(⟨(⟨(rd_T50 l0 x7_1).f0.f0, (rd_T50 l0 x7_1).f0.f1⟩ : S27), (rd_T50 l0 x7_1).f1⟩ : S50)]) false (wrap64 (x7_1 + 1)) a1_0 a1_1 a1_2) else (none))) = some r := H
      have A11 := zK A110
      clear A110
      by_cases c12 : t283 = true
      ·subst c12
       have H1 : (if x5_1.length < 5864062014805 then ((some (x5_1 ++ [(⟨(⟨a1_0, a1_1⟩ : S27), a1_2⟩ : S50)] : List (S50))).bind fun y284 => (if y284.length < 5864062014805 then (tollbarref17_With.l0 k1 l0 (y284 ++ [(⟨(⟨(rd_T50 l0 x7_1).f0.f0, (rd_T50 l0 x7_1).f0.f1⟩ : S27), (rd_T50 l0 x7_1).f1⟩ : S50)]) true (wrap64 (x7_1 + 1)) a1_0 a1_1 a1_2) else (none))) else (none)) = some r := by rw [if_pos rfl] at H; exact H
       clear H
       have H := H1
       clear H1
       by_cases c13 : x5_1.length < 5864062014805
       ·rw [if_pos c13] at H
        have LMc13 := zK c13
        clear c13
        obtain ⟨y284, hy284⟩ : ∃ y_ : List (S50), y_ = (x5_1 ++ [(⟨(⟨a1_0, a1_1⟩ : S27), a1_2⟩ : S50)]) := ⟨_, rfl⟩
        replace H : (if y284.length < 5864062014805 then (tollbarref17_With.l0 k1 l0 (y284 ++ [(⟨(⟨(rd_T50 l0 x7_1).f0.f0, (rd_T50 l0 x7_1).f0.f1⟩ : S27), (rd_T50 l0 x7_1).f1⟩ : S50)]) true (wrap64 (x7_1 + 1)) a1_0 a1_1 a1_2) else (none)) = some r := by first | (rw [hy284]; with_reducible exact H) | (have H2_ := (Option.bind_some _ _).symm.trans H; rw [hy284]; with_reducible exact H2_) | (have H2_ := (Option.bind_some _ _).symm.trans H; with_reducible exact H2_) | with_reducible exact H | (rw [hy284]; exact H) | exact H
        have Ny284 := zK hy284
        clear hy284
        by_cases c14 : y284.length < 5864062014805
        ·rw [if_pos c14] at H
         have LMc14 := zK c14
         clear c14
         obtain ⟨y288, hy288⟩ : ∃ y_ : List (S50), y_ = (y284 ++ [(⟨(⟨(rd_T50 l0 x7_1).f0.f0, (rd_T50 l0 x7_1).f0.f1⟩ : S27), (rd_T50 l0 x7_1).f1⟩ : S50)]) := ⟨_, rfl⟩
         replace H : (tollbarref17_With.l0 k1 l0 y288 true (wrap64 (x7_1 + 1)) a1_0 a1_1 a1_2) = some r := by first | (rw [hy288]; with_reducible exact H) | (have H2_ := (Option.bind_some _ _).symm.trans H; rw [hy288]; with_reducible exact H2_) | (have H2_ := (Option.bind_some _ _).symm.trans H; with_reducible exact H2_) | with_reducible exact H | (rw [hy288]; exact H) | exact H
         have Ny288 := zK hy288
         clear hy288
         have H' := zK H
         clear H
         try go_wp2
         have n0_ := zK (zC HO_5.out)
         have n1_ := zK (zE BK277.out)
         have n2_ := zK (zI HB.out)
         clear HO_5
         clear BK277
         clear HB
         have HO_5 := n0_
         have BK277 := n1_
         have HB := n2_
         clear n0_ n1_ n2_
         have p282 : 0 ≤ (x7_1 : Int) := of_decide_eq_true (by first | (with_reducible assumption) | assumption)
         have q282 : x7_1 < (l0.length : Int) := of_decide_eq_true (by first | (with_reducible assumption) | assumption)
         obtain ⟨ad282, e282, hx282_0, hx282_1, hx282_2⟩ := at_T50 HR0.out x7_1 p282 q282
         have hw282_2 := hx282_2
         have hw282_1 := hx282_1
         have hw282_0 := hx282_0
         cases e282
         replace hx282_0 := (HB.out.cell (zJ w _ hx282_0)).trans hx282_0
         replace hx282_1 := (HB.out.cell (zJ w _ hx282_1)).trans hx282_1
         replace hx282_2 := (HB.out.cell (zJ w _ hx282_2)).trans hx282_2
         replace p282 := eq_true p282
         replace q282 := eq_true q282
         refine start_ (n := 10) (S := fun w' => w'.cell? ⟨gb277, 0, none⟩ = some (.int .i64 a1_0) ∧ w'.cell? ⟨gb277, 1, none⟩ = some (.int .i64 a1_1) ∧ w'.cell? ⟨gb277, 2, none⟩ = some (.int .i64 a1_2) ∧ w'.cell? (ad282.add ((x7_1).toNat * 3)) = some (.int .i64 ((rd_T50 l0 x7_1).f0.f0)) ∧ w'.cell? ⟨(ad282.add ((x7_1).toNat * 3)).block, (ad282.add ((x7_1).toNat * 3)).off + 1, none⟩ = some (.int .i64 ((rd_T50 l0 x7_1).f0.f1)) ∧ w'.cell? ⟨(ad282.add ((x7_1).toNat * 3)).block, (ad282.add ((x7_1).toNat * 3)).off + 2, none⟩ = some (.int .i64 ((rd_T50 l0 x7_1).f1))) (ds := []) #[false, false, false, false, false, false, false, false, false, false] (by kernel_rfl) rfl rfl ⟨(zQ BK277.out 0).trans rfl, (zQ BK277.out 1).trans rfl, (zQ BK277.out 2).trans rfl, ((HB.out.cell (zJ w _ hw282_0)).trans hw282_0), ((HB.out.cell (zJ w _ hw282_1)).trans hw282_1), ((HB.out.cell (zJ w _ hw282_2)).trans hw282_2)⟩ (fun hHeld => ?_); refine with_tabW tollbarref17_With.tab6 tollbarref17_With.bits6 (fun HT_ HW_ => ?_)
         generalize wr.drew = w15 at HO_5 BK277 HB hx282_0 hx282_1 hx282_2 hHeld ⊢
         refine pure_ (i := 0) (N := some 14) (v := ?_) (a' := ?_) #[true, false, false, false, false, false, false, false, false, false] rfl rfl (any_of HT_.out (by kernel_rfl)) (fun _ _ _ h => h) (Or.inl ⟨by rfl, ?_⟩) ?_ ?_
         rotate_left
         ·intro w'
          go_simp
          with_reducible rfl
         rotate_left
         ·simp only [Act.put, zY, zZ, yA, i64_w, i32_w]
          rfl
         refine pure_ (i := 1) (N := some 15) (v := ?_) (a' := ?_) #[true, true, false, false, false, false, false, false, false, false] rfl rfl (any_of HT_.out (by kernel_rfl)) (fun _ _ _ h => h) (Or.inl ⟨by rfl, ?_⟩) ?_ ?_
         rotate_left
         ·intro w'
          go_simp
          with_reducible rfl
         rotate_left
         ·simp only [Act.put, zY, zZ, yA, i64_w, i32_w]
          rfl
         refine pure_ (i := 2) (N := some 16) (v := ?_) (a' := ?_) #[true, true, true, false, false, false, false, false, false, false] rfl rfl (any_of HT_.out (by kernel_rfl)) (fun _ _ _ h => h) (Or.inl ⟨by rfl, ?_⟩) ?_ ?_
         rotate_left
         ·intro w'
          go_simp
          with_reducible rfl
         rotate_left
         ·simp only [Act.put, zY, zZ, yA, i64_w, i32_w]
          rfl
         refine pure_ (i := 4) (N := some 18) (v := ?_) (a' := ?_) #[true, true, true, false, true, false, false, false, false, false] rfl rfl (any_of HT_.out (by kernel_rfl)) (fun _ _ _ h => h) (Or.inl ⟨by rfl, ?_⟩) ?_ ?_
         rotate_left
         ·intro w'
          go_simp
          with_reducible rfl
         rotate_left
         ·simp only [Act.put, zY, zZ, yA, i64_w, i32_w]
          rfl
         refine pure_ (i := 5) (N := some 19) (v := ?_) (a' := ?_) #[true, true, true, false, true, true, false, false, false, false] rfl rfl (any_of HT_.out (by kernel_rfl)) (fun _ _ _ h => h) (Or.inl ⟨by rfl, ?_⟩) ?_ ?_
         rotate_left
         ·intro w'
          go_simp
          with_reducible rfl
         rotate_left
         ·simp only [Act.put, zY, zZ, yA, i64_w, i32_w]
          rfl
         refine pure_ (i := 6) (N := some 20) (v := ?_) (a' := ?_) #[true, true, true, false, true, true, true, false, false, false] rfl rfl (any_of HT_.out (by kernel_rfl)) (fun _ _ _ h => h) (Or.inl ⟨by rfl, ?_⟩) ?_ ?_
         rotate_left
         ·intro w'
          go_simp
          with_reducible rfl
         rotate_left
         ·simp only [Act.put, zY, zZ, yA, i64_w, i32_w]
          rfl
         refine take_ (i := 3) (N := some 17) (v := ?_) (a' := ?_) #[true, true, true, true, true, true, true, false, false, false] rfl rfl (take_ofW HT_.out HW_.out (by kernel_rfl)) (fun _ _ _ h => h) (Or.inl ⟨by rfl, ?_⟩) hHeld ?_ ?_
         rotate_left
         ·rintro w' ⟨s0, s1, s2, s3, s4, s5⟩
          go_simp
          with_reducible rfl
         rotate_left
         ·simp only [Act.put, zY, zZ, yA, i64_w, i32_w]
          rfl
         refine take_ (i := 7) (N := some 21) (v := ?_) (a' := ?_) #[true, true, true, true, true, true, true, true, false, false] rfl rfl (take_ofW HT_.out HW_.out (by kernel_rfl)) (fun _ _ _ h => h) (Or.inl ⟨by rfl, ?_⟩) hHeld ?_ ?_
         rotate_left
         ·rintro w' ⟨s0, s1, s2, s3, s4, s5⟩
          go_simp
          with_reducible rfl
         rotate_left
         ·simp only [Act.put, zY, zZ, yA, i64_w, i32_w]
          rfl
         refine one_ (i := 8) (N := some 22) #[true, true, true, true, true, true, true, true, true, false] rfl rfl (one_of HT_.out (by kernel_rfl)) (by decide) (fun K hK => ?_)
         refine goes_ Try.func44 (by kernel_rfl) rfl #[.agg #[.int .i64 a1_0, .int .i64 a1_1, .int .i64 a1_2], .agg #[.int .i64 ((rd_T50 l0 x7_1).f0.f0), .int .i64 ((rd_T50 l0 x7_1).f0.f1), .int .i64 ((rd_T50 l0 x7_1).f1)]] (by rfl) rfl rfl zt ?_
         with_reducible refine (tollbarref17_Less.calls a1_0 a1_1 a1_2 ((rd_T50 l0 x7_1).f0.f0) ((rd_T50 l0 x7_1).f0.f1) ((rd_T50 l0 x7_1).f1) true _ A11.out).mono ?_
         rintro e w16 ⟨rfl, hb⟩
         refine ⟨_, rfl, ?_⟩
         have n0_ := zK (zO (zr HO_5.out) hb)
         have n1_ := zK (zP (g := gb277) (o := .cells #[.int .i64 a1_0, .int .i64 a1_1, .int .i64 a1_2] 50 (0, 0)) (zb BK277.out) hb)
         have n2_ := zK (yF (zl HB.out) hb)
         clear HO_5
         clear BK277
         clear HB
         have HO_5 := n0_
         have BK277 := n1_
         have HB := n2_
         clear n0_ n1_ n2_
         (try clear hb)
         (try clear hb2)
         (try clear hk)
         (try clear hi)
         refine hK.out _ _ ⟨(zQ BK277.out 0).trans rfl, (zQ BK277.out 1).trans rfl, (zQ BK277.out 2).trans rfl, ((HB.out.cell (zJ w _ hw282_0)).trans hw282_0), ((HB.out.cell (zJ w _ hw282_1)).trans hw282_1), ((HB.out.cell (zJ w _ hw282_2)).trans hw282_2)⟩ (fun hHeld => ?_)
         clear hK K
         refine norm_ (a' := ?_) ?_ ?_
         rotate_left
         ·show Act.put _ (some 22) _ = _
          simp only [Act.put, zY, zZ, yA, i64_w, i32_w]
          rfl
         refine pure_ (i := 9) (N := some 23) (v := ?_) (a' := ?_) #[true, true, true, true, true, true, true, true, true, true] rfl rfl (any_of HT_.out (by kernel_rfl)) (fun _ _ _ h => h) (Or.inl ⟨by rfl, ?_⟩) ?_ ?_
         rotate_left
         ·intro w'
          go_simp
          with_reducible rfl
         rotate_left
         ·simp only [Act.put, zY, zZ, yA, i64_w, i32_w]
          rfl
         refine done_ (done_of HT_.out (by kernel_rfl)) ?_
         have hcz17_0 : w16.cell? ⟨gb277, 0, none⟩ = some (.int .i64 a1_0) := (zQ BK277.out 0).trans rfl
         have hcz17_1 : w16.cell? ⟨gb277, 1, none⟩ = some (.int .i64 a1_1) := (zQ BK277.out 1).trans rfl
         have hcz17_2 : w16.cell? ⟨gb277, 2, none⟩ = some (.int .i64 a1_2) := (zQ BK277.out 2).trans rfl
         have hfz17_0 := zR BK277.out 0
         have hfz17_1 := zR BK277.out 1
         have hfz17_2 := zR BK277.out 2
         try go_wp2_with (first | ((with_reducible refine gate_builtin (b := .append) (xs := #[.tmp 24, .tmp 26]) rfl ?_); at_builtin; refine Kd.R_append k50 (w0 := w) w.heap.size rfl (.tmp 24) (.tmp 26) 29 50 (.agg #[(.int .i64 0), (.int .i64 0), (.int .i64 0)]) 24 rfl Try.underlying29 info50 rfl (by decide) (by omega) u5 x5_1 (⟨(⟨a1_0, a1_1⟩ : S27), a1_2⟩ : S50) [.int .i64 a1_0, .int .i64 a1_1, .int .i64 a1_2] (fun k_ => k_ ≠ gb277) (fun _ => False) rfl rfl ?aP (fun _ hk => hk.elim) ?aF ?aO ?aB ?aS ?aL ?_; (case aP => exact k50_mkM _ _ _ (⟨(⟨a1_0, a1_1⟩ : S27), a1_2⟩ : S50)); (case aB => exact (zl HB.out)); (case aF => exact (fun k_ hk => Kd.freshB (g := gb277) (o := .cells #[.int .i64 a1_0, .int .i64 a1_1, .int .i64 a1_2] 50 (0, 0)) (zb BK277.out) k_ hk)); (case aO => exact (zr HO_5.out)); (case aS => exact (yG (zl HB.out))); (case aL => have := LMc13.out; omega); intro v285 w18 ho hb hg hat; rw [← Ny284.out] at ho; have n0_ := zK (blk_grown (g := gb277) (o := .cells #[.int .i64 a1_0, .int .i64 a1_1, .int .i64 a1_2] 50 (0, 0)) (zb BK277.out) hg (Kd.R_away HO_5.out (fun _ hk => hk))); have n1_ := zK (hb); have n2_ := zK (ho); clear BK277; clear HB; clear HO_5; have BK277 := n0_; have HB := n1_; have HO286 := n2_; clear n0_ n1_ n2_; clear ho hb hg hat; have p287 : 0 ≤ (x7_1 : Int) := of_decide_eq_true (by first | (with_reducible assumption) | assumption); have q287 : x7_1 < (l0.length : Int) := of_decide_eq_true (by first | (with_reducible assumption) | assumption); obtain ⟨ad287, e287, hx287_0, hx287_1, hx287_2⟩ := at_T50 HR0.out x7_1 p287 q287; obtain rfl : ad282 = ad287 := (by injection e287); replace hx287_0 := (HB.out.cell (zJ w _ hx287_0)).trans hx287_0; replace hx287_1 := (HB.out.cell (zJ w _ hx287_1)).trans hx287_1; replace hx287_2 := (HB.out.cell (zJ w _ hx287_2)).trans hx287_2; replace p287 := eq_true p287; replace q287 := eq_true q287) | ((with_reducible refine gate_builtin (b := .append) (xs := #[.tmp 28, .tmp 33]) rfl ?_); at_builtin; refine Kd.R_append k50 (w0 := w) w.heap.size rfl (.tmp 28) (.tmp 33) 29 50 (.agg #[(.int .i64 0), (.int .i64 0), (.int .i64 0)]) 24 rfl Try.underlying29 info50 rfl (by decide) (by omega) v285 y284 (⟨(⟨(rd_T50 l0 x7_1).f0.f0, (rd_T50 l0 x7_1).f0.f1⟩ : S27), (rd_T50 l0 x7_1).f1⟩ : S50) [.int .i64 ((rd_T50 l0 x7_1).f0.f0), .int .i64 ((rd_T50 l0 x7_1).f0.f1), .int .i64 ((rd_T50 l0 x7_1).f1)] (fun k_ => k_ ≠ gb277) (fun _ => False) rfl rfl ?aP (fun _ hk => hk.elim) ?aF ?aO ?aB ?aS ?aL ?_; (case aP => exact k50_mkM _ _ _ (⟨(⟨(rd_T50 l0 x7_1).f0.f0, (rd_T50 l0 x7_1).f0.f1⟩ : S27), (rd_T50 l0 x7_1).f1⟩ : S50)); (case aB => exact (zl HB.out)); (case aF => exact (fun k_ hk => Kd.freshB (g := gb277) (o := .cells #[.int .i64 a1_0, .int .i64 a1_1, .int .i64 a1_2] 50 (0, 0)) (zb BK277.out) k_ hk)); (case aO => exact (zr HO286.out)); (case aS => exact (yG (zl HB.out))); (case aL => have := LMc14.out; omega); intro v289 w19 ho hb hg hat; rw [← Ny288.out] at ho; have n0_ := zK (blk_grown (g := gb277) (o := .cells #[.int .i64 a1_0, .int .i64 a1_1, .int .i64 a1_2] 50 (0, 0)) (zb BK277.out) hg (Kd.R_away HO286.out (fun _ hk => hk))); have n1_ := zK (hb); have n2_ := zK (ho); clear BK277; clear HB; clear HO286; have BK277 := n0_; have HB := n1_; have HO290 := n2_; clear n0_ n1_ n2_; clear ho hb hg hat))
         go_roundg k1
         case measure => have := HK1.out; omega
         case rel => exact ⟨(y288), (true), (wrap64 (x7_1 + 1)), zz, zz, H', ⟨by have := HK1.out; omega⟩, ⟨by (with_reducible repeat (first | apply zA | apply zB | apply zC)); exact HO290.out⟩, ⟨by (with_reducible repeat (first | refine zD ?_ _ | refine zE ?_ | refine zF ?_ _)); exact BK277.out⟩, ⟨by repeat (first | (with_reducible first | exact HB.out | apply zG | apply zH | apply zI | refine zL ?_ GE277.out) | exact HB.out)⟩⟩
        ·rw [if_neg c14] at H
         exact absurd H (by simp)
       ·rw [if_neg c13] at H
        exact absurd H (by simp)
      ·replace c12 := Bool.eq_false_iff.mpr c12
       subst c12
       have H1 : (if x5_1.length < 5864062014805 then (tollbarref17_With.l0 k1 l0 (x5_1 ++ [(⟨(⟨(rd_T50 l0 x7_1).f0.f0, (rd_T50 l0 x7_1).f0.f1⟩ : S27), (rd_T50 l0 x7_1).f1⟩ : S50)]) false (wrap64 (x7_1 + 1)) a1_0 a1_1 a1_2) else (none)) = some r := by rw [if_neg (show ¬ (false = true) by decide)] at H; exact H
       clear H
       have H := H1
       clear H1
       by_cases c20 : x5_1.length < 5864062014805
       ·rw [if_pos c20] at H
        have LMc20 := zK c20
        clear c20
        obtain ⟨y292, hy292⟩ : ∃ y_ : List (S50), y_ = (x5_1 ++ [(⟨(⟨(rd_T50 l0 x7_1).f0.f0, (rd_T50 l0 x7_1).f0.f1⟩ : S27), (rd_T50 l0 x7_1).f1⟩ : S50)]) := ⟨_, rfl⟩
        replace H : (tollbarref17_With.l0 k1 l0 y292 false (wrap64 (x7_1 + 1)) a1_0 a1_1 a1_2) = some r := by first | (rw [hy292]; with_reducible exact H) | (have H2_ := (Option.bind_some _ _).symm.trans H; rw [hy292]; with_reducible exact H2_) | (have H2_ := (Option.bind_some _ _).symm.trans H; with_reducible exact H2_) | with_reducible exact H | (rw [hy292]; exact H) | exact H
        have Ny292 := zK hy292
        clear hy292
        have H' := zK H
        clear H
        try go_wp2
        have n0_ := zK (zC HO_5.out)
        have n1_ := zK (zE BK277.out)
        have n2_ := zK (zI HB.out)
        clear HO_5
        clear BK277
        clear HB
        have HO_5 := n0_
        have BK277 := n1_
        have HB := n2_
        clear n0_ n1_ n2_
        have p282 : 0 ≤ (x7_1 : Int) := of_decide_eq_true (by first | (with_reducible assumption) | assumption)
        have q282 : x7_1 < (l0.length : Int) := of_decide_eq_true (by first | (with_reducible assumption) | assumption)
        obtain ⟨ad282, e282, hx282_0, hx282_1, hx282_2⟩ := at_T50 HR0.out x7_1 p282 q282
        have hw282_2 := hx282_2
        have hw282_1 := hx282_1
        have hw282_0 := hx282_0
        cases e282
        replace hx282_0 := (HB.out.cell (zJ w _ hx282_0)).trans hx282_0
        replace hx282_1 := (HB.out.cell (zJ w _ hx282_1)).trans hx282_1
        replace hx282_2 := (HB.out.cell (zJ w _ hx282_2)).trans hx282_2
        replace p282 := eq_true p282
        replace q282 := eq_true q282
        refine start_ (n := 10) (S := fun w' => w'.cell? ⟨gb277, 0, none⟩ = some (.int .i64 a1_0) ∧ w'.cell? ⟨gb277, 1, none⟩ = some (.int .i64 a1_1) ∧ w'.cell? ⟨gb277, 2, none⟩ = some (.int .i64 a1_2) ∧ w'.cell? (ad282.add ((x7_1).toNat * 3)) = some (.int .i64 ((rd_T50 l0 x7_1).f0.f0)) ∧ w'.cell? ⟨(ad282.add ((x7_1).toNat * 3)).block, (ad282.add ((x7_1).toNat * 3)).off + 1, none⟩ = some (.int .i64 ((rd_T50 l0 x7_1).f0.f1)) ∧ w'.cell? ⟨(ad282.add ((x7_1).toNat * 3)).block, (ad282.add ((x7_1).toNat * 3)).off + 2, none⟩ = some (.int .i64 ((rd_T50 l0 x7_1).f1))) (ds := []) #[false, false, false, false, false, false, false, false, false, false] (by kernel_rfl) rfl rfl ⟨(zQ BK277.out 0).trans rfl, (zQ BK277.out 1).trans rfl, (zQ BK277.out 2).trans rfl, ((HB.out.cell (zJ w _ hw282_0)).trans hw282_0), ((HB.out.cell (zJ w _ hw282_1)).trans hw282_1), ((HB.out.cell (zJ w _ hw282_2)).trans hw282_2)⟩ (fun hHeld => ?_); refine with_tabW tollbarref17_With.tab6 tollbarref17_With.bits6 (fun HT_ HW_ => ?_)
        generalize wr.drew = w21 at HO_5 BK277 HB hx282_0 hx282_1 hx282_2 hHeld ⊢
        refine pure_ (i := 0) (N := some 14) (v := ?_) (a' := ?_) #[true, false, false, false, false, false, false, false, false, false] rfl rfl (any_of HT_.out (by kernel_rfl)) (fun _ _ _ h => h) (Or.inl ⟨by rfl, ?_⟩) ?_ ?_
        rotate_left
        ·intro w'
         go_simp
         with_reducible rfl
        rotate_left
        ·simp only [Act.put, zY, zZ, yA, i64_w, i32_w]
         rfl
        refine pure_ (i := 1) (N := some 15) (v := ?_) (a' := ?_) #[true, true, false, false, false, false, false, false, false, false] rfl rfl (any_of HT_.out (by kernel_rfl)) (fun _ _ _ h => h) (Or.inl ⟨by rfl, ?_⟩) ?_ ?_
        rotate_left
        ·intro w'
         go_simp
         with_reducible rfl
        rotate_left
        ·simp only [Act.put, zY, zZ, yA, i64_w, i32_w]
         rfl
        refine pure_ (i := 2) (N := some 16) (v := ?_) (a' := ?_) #[true, true, true, false, false, false, false, false, false, false] rfl rfl (any_of HT_.out (by kernel_rfl)) (fun _ _ _ h => h) (Or.inl ⟨by rfl, ?_⟩) ?_ ?_
        rotate_left
        ·intro w'
         go_simp
         with_reducible rfl
        rotate_left
        ·simp only [Act.put, zY, zZ, yA, i64_w, i32_w]
         rfl
        refine pure_ (i := 4) (N := some 18) (v := ?_) (a' := ?_) #[true, true, true, false, true, false, false, false, false, false] rfl rfl (any_of HT_.out (by kernel_rfl)) (fun _ _ _ h => h) (Or.inl ⟨by rfl, ?_⟩) ?_ ?_
        rotate_left
        ·intro w'
         go_simp
         with_reducible rfl
        rotate_left
        ·simp only [Act.put, zY, zZ, yA, i64_w, i32_w]
         rfl
        refine pure_ (i := 5) (N := some 19) (v := ?_) (a' := ?_) #[true, true, true, false, true, true, false, false, false, false] rfl rfl (any_of HT_.out (by kernel_rfl)) (fun _ _ _ h => h) (Or.inl ⟨by rfl, ?_⟩) ?_ ?_
        rotate_left
        ·intro w'
         go_simp
         with_reducible rfl
        rotate_left
        ·simp only [Act.put, zY, zZ, yA, i64_w, i32_w]
         rfl
        refine pure_ (i := 6) (N := some 20) (v := ?_) (a' := ?_) #[true, true, true, false, true, true, true, false, false, false] rfl rfl (any_of HT_.out (by kernel_rfl)) (fun _ _ _ h => h) (Or.inl ⟨by rfl, ?_⟩) ?_ ?_
        rotate_left
        ·intro w'
         go_simp
         with_reducible rfl
        rotate_left
        ·simp only [Act.put, zY, zZ, yA, i64_w, i32_w]
         rfl
        refine take_ (i := 3) (N := some 17) (v := ?_) (a' := ?_) #[true, true, true, true, true, true, true, false, false, false] rfl rfl (take_ofW HT_.out HW_.out (by kernel_rfl)) (fun _ _ _ h => h) (Or.inl ⟨by rfl, ?_⟩) hHeld ?_ ?_
        rotate_left
        ·rintro w' ⟨s0, s1, s2, s3, s4, s5⟩
         go_simp
         with_reducible rfl
        rotate_left
        ·simp only [Act.put, zY, zZ, yA, i64_w, i32_w]
         rfl
        refine take_ (i := 7) (N := some 21) (v := ?_) (a' := ?_) #[true, true, true, true, true, true, true, true, false, false] rfl rfl (take_ofW HT_.out HW_.out (by kernel_rfl)) (fun _ _ _ h => h) (Or.inl ⟨by rfl, ?_⟩) hHeld ?_ ?_
        rotate_left
        ·rintro w' ⟨s0, s1, s2, s3, s4, s5⟩
         go_simp
         with_reducible rfl
        rotate_left
        ·simp only [Act.put, zY, zZ, yA, i64_w, i32_w]
         rfl
        refine one_ (i := 8) (N := some 22) #[true, true, true, true, true, true, true, true, true, false] rfl rfl (one_of HT_.out (by kernel_rfl)) (by decide) (fun K hK => ?_)
        refine goes_ Try.func44 (by kernel_rfl) rfl #[.agg #[.int .i64 a1_0, .int .i64 a1_1, .int .i64 a1_2], .agg #[.int .i64 ((rd_T50 l0 x7_1).f0.f0), .int .i64 ((rd_T50 l0 x7_1).f0.f1), .int .i64 ((rd_T50 l0 x7_1).f1)]] (by rfl) rfl rfl zt ?_
        with_reducible refine (tollbarref17_Less.calls a1_0 a1_1 a1_2 ((rd_T50 l0 x7_1).f0.f0) ((rd_T50 l0 x7_1).f0.f1) ((rd_T50 l0 x7_1).f1) false _ A11.out).mono ?_
        rintro e w22 ⟨rfl, hb⟩
        refine ⟨_, rfl, ?_⟩
        have n0_ := zK (zO (zr HO_5.out) hb)
        have n1_ := zK (zP (g := gb277) (o := .cells #[.int .i64 a1_0, .int .i64 a1_1, .int .i64 a1_2] 50 (0, 0)) (zb BK277.out) hb)
        have n2_ := zK (yF (zl HB.out) hb)
        clear HO_5
        clear BK277
        clear HB
        have HO_5 := n0_
        have BK277 := n1_
        have HB := n2_
        clear n0_ n1_ n2_
        (try clear hb)
        (try clear hb2)
        (try clear hk)
        (try clear hi)
        refine hK.out _ _ ⟨(zQ BK277.out 0).trans rfl, (zQ BK277.out 1).trans rfl, (zQ BK277.out 2).trans rfl, ((HB.out.cell (zJ w _ hw282_0)).trans hw282_0), ((HB.out.cell (zJ w _ hw282_1)).trans hw282_1), ((HB.out.cell (zJ w _ hw282_2)).trans hw282_2)⟩ (fun hHeld => ?_)
        clear hK K
        refine norm_ (a' := ?_) ?_ ?_
        rotate_left
        ·show Act.put _ (some 22) _ = _
         simp only [Act.put, zY, zZ, yA, i64_w, i32_w]
         rfl
        refine pure_ (i := 9) (N := some 23) (v := ?_) (a' := ?_) #[true, true, true, true, true, true, true, true, true, true] rfl rfl (any_of HT_.out (by kernel_rfl)) (fun _ _ _ h => h) (Or.inl ⟨by rfl, ?_⟩) ?_ ?_
        rotate_left
        ·intro w'
         go_simp
         with_reducible rfl
        rotate_left
        ·simp only [Act.put, zY, zZ, yA, i64_w, i32_w]
         rfl
        refine done_ (done_of HT_.out (by kernel_rfl)) ?_
        have p291 : 0 ≤ (x7_1 : Int) := of_decide_eq_true (by first | (with_reducible assumption) | assumption)
        have q291 : x7_1 < (l0.length : Int) := of_decide_eq_true (by first | (with_reducible assumption) | assumption)
        obtain ⟨ad291, e291, hx291_0, hx291_1, hx291_2⟩ := at_T50 HR0.out x7_1 p291 q291
        obtain rfl : ad282 = ad291 := (by injection e291)
        replace hx291_0 := (HB.out.cell (zJ w _ hx291_0)).trans hx291_0
        replace hx291_1 := (HB.out.cell (zJ w _ hx291_1)).trans hx291_1
        replace hx291_2 := (HB.out.cell (zJ w _ hx291_2)).trans hx291_2
        replace p291 := eq_true p291
        replace q291 := eq_true q291
        try go_wp2_with (first | ((with_reducible refine gate_builtin (b := .append) (xs := #[.tmp 28, .tmp 33]) rfl ?_); at_builtin; refine Kd.R_append k50 (w0 := w) w.heap.size rfl (.tmp 28) (.tmp 33) 29 50 (.agg #[(.int .i64 0), (.int .i64 0), (.int .i64 0)]) 24 rfl Try.underlying29 info50 rfl (by decide) (by omega) u5 x5_1 (⟨(⟨(rd_T50 l0 x7_1).f0.f0, (rd_T50 l0 x7_1).f0.f1⟩ : S27), (rd_T50 l0 x7_1).f1⟩ : S50) [.int .i64 ((rd_T50 l0 x7_1).f0.f0), .int .i64 ((rd_T50 l0 x7_1).f0.f1), .int .i64 ((rd_T50 l0 x7_1).f1)] (fun k_ => k_ ≠ gb277) (fun _ => False) rfl rfl ?aP (fun _ hk => hk.elim) ?aF ?aO ?aB ?aS ?aL ?_; (case aP => exact k50_mkM _ _ _ (⟨(⟨(rd_T50 l0 x7_1).f0.f0, (rd_T50 l0 x7_1).f0.f1⟩ : S27), (rd_T50 l0 x7_1).f1⟩ : S50)); (case aB => exact (zl HB.out)); (case aF => exact (fun k_ hk => Kd.freshB (g := gb277) (o := .cells #[.int .i64 a1_0, .int .i64 a1_1, .int .i64 a1_2] 50 (0, 0)) (zb BK277.out) k_ hk)); (case aO => exact (zr HO_5.out)); (case aS => exact (yG (zl HB.out))); (case aL => have := LMc20.out; omega); intro v293 w23 ho hb hg hat; rw [← Ny292.out] at ho; have n0_ := zK (blk_grown (g := gb277) (o := .cells #[.int .i64 a1_0, .int .i64 a1_1, .int .i64 a1_2] 50 (0, 0)) (zb BK277.out) hg (Kd.R_away HO_5.out (fun _ hk => hk))); have n1_ := zK (hb); have n2_ := zK (ho); clear BK277; clear HB; clear HO_5; have BK277 := n0_; have HB := n1_; have HO294 := n2_; clear n0_ n1_ n2_; clear ho hb hg hat))
        go_roundg k1
        case measure => have := HK1.out; omega
        case rel => exact ⟨(y292), (false), (wrap64 (x7_1 + 1)), zz, zz, H', ⟨by have := HK1.out; omega⟩, ⟨by (with_reducible repeat (first | apply zA | apply zB | apply zC)); exact HO294.out⟩, ⟨by (with_reducible repeat (first | refine zD ?_ _ | refine zE ?_ | refine zF ?_ _)); exact BK277.out⟩, ⟨by repeat (first | (with_reducible first | exact HB.out | apply zG | apply zH | apply zI | refine zL ?_ GE277.out) | exact HB.out)⟩⟩
       ·rw [if_neg c20] at H
        exact absurd H (by simp)
     ·rw [if_neg c10] at H
      exact absurd H (by simp)
   ·rw [if_neg c4] at H
    have c4b0 : decide (x7_1 < (l0.length : Int)) = false := decide_eq_false c4
    clear c4
    by_cases c24 : x6_1 = true
    ·subst c24
     have H1 : (some x5_1) = some r := by rw [if_pos rfl] at H; exact H
     clear H
     have H := H1
     clear H1
     obtain rfl := Option.some.inj H
     go_wp2
     go_ret
     exact ⟨_, by first | rfl | (simp [errW_none, errW_some] <;> rfl) | (simp [*, errW_none, errW_some] <;> rfl), by (with_reducible repeat (first | apply zA | apply zB | apply zC)); exact Kd.R_mono HO_5.out (fun _ hk => trivial), zl HB.out⟩
    ·replace c24 := Bool.eq_false_iff.mpr c24
     subst c24
     have H1 : (if x5_1.length < 5864062014805 then (some (x5_1 ++ [(⟨(⟨a1_0, a1_1⟩ : S27), a1_2⟩ : S50)])) else (none)) = some r := by rw [if_neg (show ¬ (false = true) by decide)] at H; exact H
     clear H
     have H := H1
     clear H1
     by_cases c25 : x5_1.length < 5864062014805
     ·rw [if_pos c25] at H
      have LMc25 := zK c25
      clear c25
      obtain ⟨y295, hy295⟩ : ∃ y_ : List (S50), y_ = (x5_1 ++ [(⟨(⟨a1_0, a1_1⟩ : S27), a1_2⟩ : S50)]) := ⟨_, rfl⟩
      replace H : (some y295) = some r := by first | (rw [hy295]; with_reducible exact H) | (have H2_ := (Option.bind_some _ _).symm.trans H; rw [hy295]; with_reducible exact H2_) | (have H2_ := (Option.bind_some _ _).symm.trans H; with_reducible exact H2_) | with_reducible exact H | (rw [hy295]; exact H) | exact H
      have Ny295 := zK hy295
      clear hy295
      obtain rfl := Option.some.inj H
      have hcz26_0 : wr.cell? ⟨gb277, 0, none⟩ = some (.int .i64 a1_0) := (zQ BK277.out 0).trans rfl
      have hcz26_1 : wr.cell? ⟨gb277, 1, none⟩ = some (.int .i64 a1_1) := (zQ BK277.out 1).trans rfl
      have hcz26_2 : wr.cell? ⟨gb277, 2, none⟩ = some (.int .i64 a1_2) := (zQ BK277.out 2).trans rfl
      have hfz26_0 := zR BK277.out 0
      have hfz26_1 := zR BK277.out 1
      have hfz26_2 := zR BK277.out 2
      go_wp2_with (first | ((with_reducible refine gate_builtin (b := .append) (xs := #[.tmp 37, .tmp 39]) rfl ?_); at_builtin; refine Kd.R_append k50 (w0 := w) w.heap.size rfl (.tmp 37) (.tmp 39) 29 50 (.agg #[(.int .i64 0), (.int .i64 0), (.int .i64 0)]) 24 rfl Try.underlying29 info50 rfl (by decide) (by omega) u5 x5_1 (⟨(⟨a1_0, a1_1⟩ : S27), a1_2⟩ : S50) [.int .i64 a1_0, .int .i64 a1_1, .int .i64 a1_2] (fun k_ => k_ ≠ gb277) (fun _ => False) rfl rfl ?aP (fun _ hk => hk.elim) ?aF ?aO ?aB ?aS ?aL ?_; (case aP => exact k50_mkM _ _ _ (⟨(⟨a1_0, a1_1⟩ : S27), a1_2⟩ : S50)); (case aB => exact (zl HB.out)); (case aF => exact (fun k_ hk => Kd.freshB (g := gb277) (o := .cells #[.int .i64 a1_0, .int .i64 a1_1, .int .i64 a1_2] 50 (0, 0)) (zb BK277.out) k_ hk)); (case aO => exact (zr HO_5.out)); (case aS => exact (yG (zl HB.out))); (case aL => have := LMc25.out; omega); intro v296 w27 ho hb hg hat; rw [← Ny295.out] at ho; have n0_ := zK (blk_grown (g := gb277) (o := .cells #[.int .i64 a1_0, .int .i64 a1_1, .int .i64 a1_2] 50 (0, 0)) (zb BK277.out) hg (Kd.R_away HO_5.out (fun _ hk => hk))); have n1_ := zK (hb); have n2_ := zK (ho); clear BK277; clear HB; clear HO_5; have BK277 := n0_; have HB := n1_; have HO297 := n2_; clear n0_ n1_ n2_; clear ho hb hg hat))
      go_ret
      exact ⟨_, by first | rfl | (simp [errW_none, errW_some] <;> rfl) | (simp [*, errW_none, errW_some] <;> rfl), by (with_reducible repeat (first | apply zA | apply zB | apply zC)); exact Kd.R_mono HO297.out (fun _ hk => trivial), zl HB.out⟩
     ·rw [if_neg c25] at H
      exact absurd H (by simp)
end Go.Proofs.Ytgkjpffbgnljeaa.QA
-- written by this session's program mprint.py: functions of the Go program, and their contracts
namespace Go.Proofs.Ytgkjpffbgnljeaa.QA
open Go.RowKit Go.Proofs.Ytgkjpffbgnljeaa.Au Go.Proofs.Ytgkjpffbgnljeaa.QT  Go.Proofs.YtgkjpffbgnljeaaW.PrintWords Go.Proofs.YtgkjpffbgnljeaaW.PrintLast Go.Proofs.YtgkjpffbgnljeaaW.PrintMore
attribute [local go_sem] max2_int min2_int max_two min_two max_three min_three max_four min_four
set_option linter.unusedVariables false
set_option linter.unusedSimpArgs false
attribute [local go_sem high] eqA50
def tollbarref17_Without.l0 : Nat → List (S50) → List (S50) → Int → Int → Int → Int → Option ((List (S50)))
 | 0, _, _, _, _, _, _ => none
 | k + 1, x0, x5, x6, xqa, xqb, xqc => if x6 < (x0.length : Int) then (if 0 ≤ x6 then (if ((!(((rd_T50 x0 x6).f0.f0) == xqa) || (!(((rd_T50 x0 x6).f0.f1) == xqb))) || (!(((rd_T50 x0 x6).f1) == xqc))) = true then (if x5.length < 5864062014805 then (tollbarref17_Without.l0 k x0 (x5 ++ [(⟨(⟨(rd_T50 x0 x6).f0.f0, (rd_T50 x0 x6).f0.f1⟩ : S27), (rd_T50 x0 x6).f1⟩ : S50)]) (wrap64 (x6 + 1)) xqa xqb xqc) else (none)) else (tollbarref17_Without.l0 k x0 x5 (wrap64 (x6 + 1)) xqa xqb xqc)) else (none)) else (some x5)
def tollbarref17_Without.f (k : Nat) (l0 : List (S50)) (a1_0 : Int) (a1_1 : Int) (a1_2 : Int) : Option ((List (S50))) := tollbarref17_Without.l0 k l0 ([] : List (S50)) 0 a1_0 a1_1 a1_2
set_option maxHeartbeats 8000000 in
set_option maxRecDepth 100000 in
theorem tollbarref17_Without.calls (k : Nat) (A0 : Option Addr) (c0 : Nat) (l0 : List (S50)) (a1_0 : Int) (a1_1 : Int) (a1_2 : Int) (r : List (S50)) (w : World) (hr0 : Kd.C k50 w A0 l0.length l0) (hc0 : l0.length ≤ c0) (h : tollbarref17_Without.f k l0 a1_0 a1_1 a1_2 = some r) :
  Calls Try.prog 32 #[.slice A0 l0.length c0, .agg #[.int .i64 a1_0, .int .i64 a1_1, .int .i64 a1_2]] w fun e w' => ∃ v0_ : Value, e = .returned (v0_) ∧ Kd.R k50 50 w' w.heap.size (fun _ => True) v0_ r ∧ Below w.heap.size w w' := by
 have hu50 := Try.underlying50
 have HR0 := zK hr0
 have HC0 := zK hc0
 clear hr0 hc0
 have HB := zK (Below.refl w.heap.size w)
 have H : (tollbarref17_Without.l0 k l0 ([] : List (S50)) 0 a1_0 a1_1 a1_2) = some r := h
 clear h
 have H' := zK H
 clear H
 go_enter Try.func32, Try.ntmps32
 go_wp2_with (first | ((with_reducible refine gate_dst (N := 3) rfl ?_); refine box_event ?hg (N := 3) ?hd (cs := #[.int .i64 a1_0, .int .i64 a1_1, .int .i64 a1_2]) (t := 50) ?hr ?_; (case hd => rfl); (case hg => rfl); (case hr => first | (go_simp; done) | (go_simp; rfl)); intro gb313 hg w3 hbox hb; have n0_ := zK (yF (zl HB.out) hb); have n1_ := zK (hbox); have n2_ := zK ((by rw [hg]; exact (yG (zl HB.out)) : w.heap.size ≤ gb313)); have n3_ := zK ((by rw [hg]; exact (yG (zl HB.out)) : w.heap.size ≤ gb313)); clear HB; have HB := n0_; have BK313 := n1_; have GW313 := n2_; have GE313 := n3_; clear n0_ n1_ n2_ n3_; clear hb hbox hg))
 repeat (go_quiet (first | ((with_reducible refine gate_dst (N := 3) rfl ?_); refine box_event ?hg (N := 3) ?hd (cs := #[.int .i64 a1_0, .int .i64 a1_1, .int .i64 a1_2]) (t := 50) ?hr ?_; (case hd => rfl); (case hg => rfl); (case hr => first | (go_simp; done) | (go_simp; rfl)); intro gb313 hg w3 hbox hb; have n0_ := zK (yF (zl HB.out) hb); have n1_ := zK (hbox); have n2_ := zK ((by rw [hg]; exact (yG (zl HB.out)) : w.heap.size ≤ gb313)); have n3_ := zK ((by rw [hg]; exact (yG (zl HB.out)) : w.heap.size ≤ gb313)); clear HB; have HB := n0_; have BK313 := n1_; have GW313 := n2_; have GE313 := n3_; clear n0_ n1_ n2_ n3_; clear hb hbox hg)); try go_wp2_with (first | ((with_reducible refine gate_dst (N := 3) rfl ?_); refine box_event ?hg (N := 3) ?hd (cs := #[.int .i64 a1_0, .int .i64 a1_1, .int .i64 a1_2]) (t := 50) ?hr ?_; (case hd => rfl); (case hg => rfl); (case hr => first | (go_simp; done) | (go_simp; rfl)); intro gb313 hg w3 hbox hb; have n0_ := zK (yF (zl HB.out) hb); have n1_ := zK (hbox); have n2_ := zK ((by rw [hg]; exact (yG (zl HB.out)) : w.heap.size ≤ gb313)); have n3_ := zK ((by rw [hg]; exact (yG (zl HB.out)) : w.heap.size ≤ gb313)); clear HB; have HB := n0_; have BK313 := n1_; have GW313 := n2_; have GE313 := n3_; clear n0_ n1_ n2_ n3_; clear hb hbox hg)))
 go_loopg [5, 6] k (fun kq v5 v6 w' => ∃ (x5_1 : List (S50)) (x6_1 : Int), v6 = .int .i64 x6_1 ∧ Aside0 (tollbarref17_Without.l0 kq l0 x5_1 x6_1 a1_0 a1_1 a1_2 = some r) ∧ Aside0 (kq ≤ k) ∧ Aside0 (Kd.R k50 50 w' w.heap.size (fun k_ => k_ ≠ gb313) v5 x5_1) ∧ Aside0 (w'.heap[gb313]? = some (.cells #[.int .i64 a1_0, .int .i64 a1_1, .int .i64 a1_2] 50 (0, 0))) ∧ Aside0 (Below w.heap.size w w'))
 case atStart => exact ⟨(([] : List (S50))), (0), zz, H', ⟨Nat.le_refl _⟩, ⟨by first | exact Kd.R_nil _ _ _ _ _ | exact Kd.N_nil _ _ _ _ _ | exact Kd.V_nil _ _ _ _ _ | exact Kd.Q_nil _ _ _ _ _ | exact Kd.S_nil _ _ _ _ _⟩, ⟨by (with_reducible repeat (first | refine zD ?_ _ | refine zE ?_ | refine zF ?_ _)); exact BK313.out⟩, ⟨by repeat (first | (with_reducible first | exact HB.out | apply zG | apply zH | apply zI | refine zL ?_ GE313.out) | exact HB.out)⟩⟩
 case round =>
  clear H'
  try clear p2
  try clear c3
  obtain ⟨x5_1, x6_1, rfl, HA, HK1, HO_5, BK313, HB⟩ := hrel
  cases gk with
  | zero => exact absurd HA.out (by simp [tollbarref17_Without.l0])
  | succ k1 =>
   have H := HA.out
   clear HA
   simp only [tollbarref17_Without.l0] at H
   by_cases c4 : x6_1 < (l0.length : Int)
   ·rw [if_pos c4] at H
    have c4b0 : decide (x6_1 < (l0.length : Int)) = true := decide_eq_true c4
    clear c4
    by_cases c5 : 0 ≤ x6_1
    ·rw [if_pos c5] at H
     have c5b0 : decide (0 ≤ x6_1) = true := decide_eq_true c5
     clear c5
     by_cases c6 : ((!(((rd_T50 l0 x6_1).f0.f0) == a1_0) || (!(((rd_T50 l0 x6_1).f0.f1) == a1_1))) || (!(((rd_T50 l0 x6_1).f1) == a1_2))) = true
     ·rw [if_pos c6] at H
      have c6b0 : ((!(((rd_T50 l0 x6_1).f0.f0) == a1_0) || (!(((rd_T50 l0 x6_1).f0.f1) == a1_1))) || (!(((rd_T50 l0 x6_1).f1) == a1_2))) = true := c6
      clear c6
      by_cases c7 : x5_1.length < 5864062014805
      ·rw [if_pos c7] at H
       have LMc7 := zK c7
       clear c7
       obtain ⟨y316, hy316⟩ : ∃ y_ : List (S50), y_ = (x5_1 ++ [(⟨(⟨(rd_T50 l0 x6_1).f0.f0, (rd_T50 l0 x6_1).f0.f1⟩ : S27), (rd_T50 l0 x6_1).f1⟩ : S50)]) := ⟨_, rfl⟩
       replace H : (tollbarref17_Without.l0 k1 l0 y316 (wrap64 (x6_1 + 1)) a1_0 a1_1 a1_2) = some r := by first | (rw [hy316]; with_reducible exact H) | (have H2_ := (Option.bind_some _ _).symm.trans H; rw [hy316]; with_reducible exact H2_) | (have H2_ := (Option.bind_some _ _).symm.trans H; with_reducible exact H2_) | with_reducible exact H | (rw [hy316]; exact H) | exact H
       have Ny316 := zK hy316
       clear hy316
       have H' := zK H
       clear H
       have p314 : 0 ≤ (x6_1 : Int) := of_decide_eq_true (by first | (with_reducible assumption) | assumption)
       have q314 : x6_1 < (l0.length : Int) := of_decide_eq_true (by first | (with_reducible assumption) | assumption)
       obtain ⟨ad314, e314, hx314_0, hx314_1, hx314_2⟩ := at_T50 HR0.out x6_1 p314 q314
       cases e314
       replace hx314_0 := (HB.out.cell (zJ w _ hx314_0)).trans hx314_0
       replace hx314_1 := (HB.out.cell (zJ w _ hx314_1)).trans hx314_1
       replace hx314_2 := (HB.out.cell (zJ w _ hx314_2)).trans hx314_2
       replace p314 := eq_true p314
       replace q314 := eq_true q314
       have hcz8_0 : wr.cell? ⟨gb313, 0, none⟩ = some (.int .i64 a1_0) := (zQ BK313.out 0).trans rfl
       have hcz8_1 : wr.cell? ⟨gb313, 1, none⟩ = some (.int .i64 a1_1) := (zQ BK313.out 1).trans rfl
       have hcz8_2 : wr.cell? ⟨gb313, 2, none⟩ = some (.int .i64 a1_2) := (zQ BK313.out 2).trans rfl
       have hfz8_0 := zR BK313.out 0
       have hfz8_1 := zR BK313.out 1
       have hfz8_2 := zR BK313.out 2
       have p315 : 0 ≤ (x6_1 : Int) := of_decide_eq_true (by first | (with_reducible assumption) | assumption)
       have q315 : x6_1 < (l0.length : Int) := of_decide_eq_true (by first | (with_reducible assumption) | assumption)
       obtain ⟨ad315, e315, hx315_0, hx315_1, hx315_2⟩ := at_T50 HR0.out x6_1 p315 q315
       obtain rfl : ad314 = ad315 := (by injection e315)
       replace hx315_0 := (HB.out.cell (zJ w _ hx315_0)).trans hx315_0
       replace hx315_1 := (HB.out.cell (zJ w _ hx315_1)).trans hx315_1
       replace hx315_2 := (HB.out.cell (zJ w _ hx315_2)).trans hx315_2
       replace p315 := eq_true p315
       replace q315 := eq_true q315
       go_wp2_with (first | ((with_reducible refine gate_builtin (b := .append) (xs := #[.tmp 19, .tmp 24]) rfl ?_); at_builtin; refine Kd.R_append k50 (w0 := w) w.heap.size rfl (.tmp 19) (.tmp 24) 29 50 (.agg #[(.int .i64 0), (.int .i64 0), (.int .i64 0)]) 24 rfl Try.underlying29 info50 rfl (by decide) (by omega) u5 x5_1 (⟨(⟨(rd_T50 l0 x6_1).f0.f0, (rd_T50 l0 x6_1).f0.f1⟩ : S27), (rd_T50 l0 x6_1).f1⟩ : S50) [.int .i64 ((rd_T50 l0 x6_1).f0.f0), .int .i64 ((rd_T50 l0 x6_1).f0.f1), .int .i64 ((rd_T50 l0 x6_1).f1)] (fun k_ => k_ ≠ gb313) (fun _ => False) rfl rfl ?aP (fun _ hk => hk.elim) ?aF ?aO ?aB ?aS ?aL ?_; (case aP => exact k50_mkM _ _ _ (⟨(⟨(rd_T50 l0 x6_1).f0.f0, (rd_T50 l0 x6_1).f0.f1⟩ : S27), (rd_T50 l0 x6_1).f1⟩ : S50)); (case aB => exact (zl HB.out)); (case aF => exact (fun k_ hk => Kd.freshB (g := gb313) (o := .cells #[.int .i64 a1_0, .int .i64 a1_1, .int .i64 a1_2] 50 (0, 0)) (zb BK313.out) k_ hk)); (case aO => exact (zr HO_5.out)); (case aS => exact (yG (zl HB.out))); (case aL => have := LMc7.out; omega); intro v317 w9 ho hb hg hat; rw [← Ny316.out] at ho; have n0_ := zK (blk_grown (g := gb313) (o := .cells #[.int .i64 a1_0, .int .i64 a1_1, .int .i64 a1_2] 50 (0, 0)) (zb BK313.out) hg (Kd.R_away HO_5.out (fun _ hk => hk))); have n1_ := zK (hb); have n2_ := zK (ho); clear BK313; clear HB; clear HO_5; have BK313 := n0_; have HB := n1_; have HO318 := n2_; clear n0_ n1_ n2_; clear ho hb hg hat))
       repeat (go_quiet (first | ((with_reducible refine gate_builtin (b := .append) (xs := #[.tmp 19, .tmp 24]) rfl ?_); at_builtin; refine Kd.R_append k50 (w0 := w) w.heap.size rfl (.tmp 19) (.tmp 24) 29 50 (.agg #[(.int .i64 0), (.int .i64 0), (.int .i64 0)]) 24 rfl Try.underlying29 info50 rfl (by decide) (by omega) u5 x5_1 (⟨(⟨(rd_T50 l0 x6_1).f0.f0, (rd_T50 l0 x6_1).f0.f1⟩ : S27), (rd_T50 l0 x6_1).f1⟩ : S50) [.int .i64 ((rd_T50 l0 x6_1).f0.f0), .int .i64 ((rd_T50 l0 x6_1).f0.f1), .int .i64 ((rd_T50 l0 x6_1).f1)] (fun k_ => k_ ≠ gb313) (fun _ => False) rfl rfl ?aP (fun _ hk => hk.elim) ?aF ?aO ?aB ?aS ?aL ?_; (case aP => exact k50_mkM _ _ _ (⟨(⟨(rd_T50 l0 x6_1).f0.f0, (rd_T50 l0 x6_1).f0.f1⟩ : S27), (rd_T50 l0 x6_1).f1⟩ : S50)); (case aB => exact (zl HB.out)); (case aF => exact (fun k_ hk => Kd.freshB (g := gb313) (o := .cells #[.int .i64 a1_0, .int .i64 a1_1, .int .i64 a1_2] 50 (0, 0)) (zb BK313.out) k_ hk)); (case aO => exact (zr HO_5.out)); (case aS => exact (yG (zl HB.out))); (case aL => have := LMc7.out; omega); intro v317 w9 ho hb hg hat; rw [← Ny316.out] at ho; have n0_ := zK (blk_grown (g := gb313) (o := .cells #[.int .i64 a1_0, .int .i64 a1_1, .int .i64 a1_2] 50 (0, 0)) (zb BK313.out) hg (Kd.R_away HO_5.out (fun _ hk => hk))); have n1_ := zK (hb); have n2_ := zK (ho); clear BK313; clear HB; clear HO_5; have BK313 := n0_; have HB := n1_; have HO318 := n2_; clear n0_ n1_ n2_; clear ho hb hg hat)); try go_wp2_with (first | ((with_reducible refine gate_builtin (b := .append) (xs := #[.tmp 19, .tmp 24]) rfl ?_); at_builtin; refine Kd.R_append k50 (w0 := w) w.heap.size rfl (.tmp 19) (.tmp 24) 29 50 (.agg #[(.int .i64 0), (.int .i64 0), (.int .i64 0)]) 24 rfl Try.underlying29 info50 rfl (by decide) (by omega) u5 x5_1 (⟨(⟨(rd_T50 l0 x6_1).f0.f0, (rd_T50 l0 x6_1).f0.f1⟩ : S27), (rd_T50 l0 x6_1).f1⟩ : S50) [.int .i64 ((rd_T50 l0 x6_1).f0.f0), .int .i64 ((rd_T50 l0 x6_1).f0.f1), .int .i64 ((rd_T50 l0 x6_1).f1)] (fun k_ => k_ ≠ gb313) (fun _ => False) rfl rfl ?aP (fun _ hk => hk.elim) ?aF ?aO ?aB ?aS ?aL ?_; (case aP => exact k50_mkM _ _ _ (⟨(⟨(rd_T50 l0 x6_1).f0.f0, (rd_T50 l0 x6_1).f0.f1⟩ : S27), (rd_T50 l0 x6_1).f1⟩ : S50)); (case aB => exact (zl HB.out)); (case aF => exact (fun k_ hk => Kd.freshB (g := gb313) (o := .cells #[.int .i64 a1_0, .int .i64 a1_1, .int .i64 a1_2] 50 (0, 0)) (zb BK313.out) k_ hk)); (case aO => exact (zr HO_5.out)); (case aS => exact (yG (zl HB.out))); (case aL => have := LMc7.out; omega); intro v317 w9 ho hb hg hat; rw [← Ny316.out] at ho; have n0_ := zK (blk_grown (g := gb313) (o := .cells #[.int .i64 a1_0, .int .i64 a1_1, .int .i64 a1_2] 50 (0, 0)) (zb BK313.out) hg (Kd.R_away HO_5.out (fun _ hk => hk))); have n1_ := zK (hb); have n2_ := zK (ho); clear BK313; clear HB; clear HO_5; have BK313 := n0_; have HB := n1_; have HO318 := n2_; clear n0_ n1_ n2_; clear ho hb hg hat)))
       go_roundg k1
       case measure => have := HK1.out; omega
       case rel => exact ⟨(y316), (wrap64 (x6_1 + 1)), zz, H', ⟨by have := HK1.out; omega⟩, ⟨by (with_reducible repeat (first | apply zA | apply zB | apply zC)); exact HO318.out⟩, ⟨by (with_reducible repeat (first | refine zD ?_ _ | refine zE ?_ | refine zF ?_ _)); exact BK313.out⟩, ⟨by repeat (first | (with_reducible first | exact HB.out | apply zG | apply zH | apply zI | refine zL ?_ GE313.out) | exact HB.out)⟩⟩
      ·rw [if_neg c7] at H
       exact absurd H (by simp)
     ·rw [if_neg c6] at H
      have c6b0 : ((!(((rd_T50 l0 x6_1).f0.f0) == a1_0) || (!(((rd_T50 l0 x6_1).f0.f1) == a1_1))) || (!(((rd_T50 l0 x6_1).f1) == a1_2))) = false := by simpa using c6
      clear c6
      have H' := zK H
      clear H
      have p314 : 0 ≤ (x6_1 : Int) := of_decide_eq_true (by first | (with_reducible assumption) | assumption)
      have q314 : x6_1 < (l0.length : Int) := of_decide_eq_true (by first | (with_reducible assumption) | assumption)
      obtain ⟨ad314, e314, hx314_0, hx314_1, hx314_2⟩ := at_T50 HR0.out x6_1 p314 q314
      cases e314
      replace hx314_0 := (HB.out.cell (zJ w _ hx314_0)).trans hx314_0
      replace hx314_1 := (HB.out.cell (zJ w _ hx314_1)).trans hx314_1
      replace hx314_2 := (HB.out.cell (zJ w _ hx314_2)).trans hx314_2
      replace p314 := eq_true p314
      replace q314 := eq_true q314
      have hcz10_0 : wr.cell? ⟨gb313, 0, none⟩ = some (.int .i64 a1_0) := (zQ BK313.out 0).trans rfl
      have hcz10_1 : wr.cell? ⟨gb313, 1, none⟩ = some (.int .i64 a1_1) := (zQ BK313.out 1).trans rfl
      have hcz10_2 : wr.cell? ⟨gb313, 2, none⟩ = some (.int .i64 a1_2) := (zQ BK313.out 2).trans rfl
      have hfz10_0 := zR BK313.out 0
      have hfz10_1 := zR BK313.out 1
      have hfz10_2 := zR BK313.out 2
      go_wp2
      repeat (go_quiet (fail); try go_wp2)
      go_roundg k1
      case measure => have := HK1.out; omega
      case rel => exact ⟨(x5_1), (wrap64 (x6_1 + 1)), zz, H', ⟨by have := HK1.out; omega⟩, ⟨by (with_reducible repeat (first | apply zA | apply zB | apply zC)); exact HO_5.out⟩, ⟨by (with_reducible repeat (first | refine zD ?_ _ | refine zE ?_ | refine zF ?_ _)); exact BK313.out⟩, ⟨by repeat (first | (with_reducible first | exact HB.out | apply zG | apply zH | apply zI | refine zL ?_ GE313.out) | exact HB.out)⟩⟩
    ·rw [if_neg c5] at H
     exact absurd H (by simp)
   ·rw [if_neg c4] at H
    have c4b0 : decide (x6_1 < (l0.length : Int)) = false := decide_eq_false c4
    clear c4
    obtain rfl := Option.some.inj H
    go_wp2
    repeat (go_quiet (fail); try go_wp2)
    go_ret
    exact ⟨_, by first | rfl | (simp [errW_none, errW_some] <;> rfl) | (simp [*, errW_none, errW_some] <;> rfl), by (with_reducible repeat (first | apply zA | apply zB | apply zC)); exact Kd.R_mono HO_5.out (fun _ hk => trivial), zl HB.out⟩
end Go.Proofs.Ytgkjpffbgnljeaa.QA
