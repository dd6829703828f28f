/- Texts of this claim laid together: QA12, QL1, QL3, StrT, OpsLTreeDeletes, TreePa, TreePb, TreePc, TreePs, TreePx, PureTx. -/
import Derived.Test.YtgkjpffbgnljeaaCax
import Derived.Test.YtgkjpffbgnljeaaCay
import Derived.Test.YtgkjpffbgnljeaaCaw
import Derived.Test.YtgkjpffbgnljeaaCbd
import Derived.Test.YtgkjpffbgnljeaaCav
import Derived.Test.YtgkjpffbgnljeaaCba
import Derived.Test.YtgkjpffbgnljeaaDTreeDeletesa
import Derived.Below
import Derived.Deep.Draws
import Derived.Deep.AppendLies
import Derived.Maps.AppendAt
import Derived.OwnWalk
import Derived.Laws.BytesArg
import Derived.Laws.MakeOwn
import Derived.Laws.OwnMore
import Derived.Deep.OwnRows
import Derived.Tactics
import Derived.Lib.ConvBytes
import Derived.Laws.Slices
import Derived.WalkKit
import Derived.KernelRfl
import Derived.RowKit3
import Derived.Deep.LoopGhost
import Derived.Deep.QuietTactic
import Derived.BigQuiet
import Derived.WideLaws
import Derived.Deep.DeepCutAuto
import Derived.Deep.CutBlock
import Derived.Deep.RegionHeld3
import Derived.Laws.Rows
import Derived.Lib.AppendStr
import Derived.ArgAppend
import Derived.Laws.IdiomCopy
import Derived.OrdersHeld
import Derived.Laws.BitsLemmas
import Derived.RowKit
-- written by this session's program mprint.py: functions of the Go program, and their contracts
namespace Go.Proofs.Ytgkjpffbgnljeaa.QA
open Go.RowKit Go.Proofs.Ytgkjpffbgnljeaa.Au Go.Proofs.Ytgkjpffbgnljeaa.QT  Go.Proofs.YtgkjpffbgnljeaaW.PrintWords Go.Proofs.YtgkjpffbgnljeaaW.PrintLast Go.Proofs.YtgkjpffbgnljeaaW.PrintMore
attribute [local go_sem] max2_int min2_int max_two min_two max_three min_three max_four min_four
set_option linter.unusedVariables false
set_option linter.unusedSimpArgs false
attribute [local go_sem high] eqA50
def tollbarref17_Without.l0 : Nat → List (S50) → List (S50) → Int → Int → Int → Int → Option ((List (S50)))
 | 0, _, _, _, _, _, _ => none
 | k + 1, x0, x5, x6, xqa, xqb, xqc => if x6 < (x0.length : Int) then (if 0 ≤ x6 then (if ((!(((rd_T50 x0 x6).f0.f0) == xqa) || (!(((rd_T50 x0 x6).f0.f1) == xqb))) || (!(((rd_T50 x0 x6).f1) == xqc))) = true then (if x5.length < 5864062014805 then (tollbarref17_Without.l0 k x0 (x5 ++ [(⟨(⟨(rd_T50 x0 x6).f0.f0, (rd_T50 x0 x6).f0.f1⟩ : S27), (rd_T50 x0 x6).f1⟩ : S50)]) (wrap64 (x6 + 1)) xqa xqb xqc) else (none)) else (tollbarref17_Without.l0 k x0 x5 (wrap64 (x6 + 1)) xqa xqb xqc)) else (none)) else (some x5)
def tollbarref17_Without.f (k : Nat) (l0 : List (S50)) (a1_0 : Int) (a1_1 : Int) (a1_2 : Int) : Option ((List (S50))) := tollbarref17_Without.l0 k l0 ([] : List (S50)) 0 a1_0 a1_1 a1_2
set_option maxHeartbeats 8000000 in
set_option maxRecDepth 100000 in
theorem tollbarref17_Without.calls (k : Nat) (A0 : Option Addr) (c0 : Nat) (l0 : List (S50)) (a1_0 : Int) (a1_1 : Int) (a1_2 : Int) (r : List (S50)) (w : World) (hr0 : Kd.C k50 w A0 l0.length l0) (hc0 : l0.length ≤ c0) (h : tollbarref17_Without.f k l0 a1_0 a1_1 a1_2 = some r) :
  Calls Try.prog 32 #[.slice A0 l0.length c0, .agg #[.int .i64 a1_0, .int .i64 a1_1, .int .i64 a1_2]] w fun e w' => ∃ v0_ : Value, e = .returned (v0_) ∧ Kd.R k50 50 w' w.heap.size (fun _ => True) v0_ r ∧ Below w.heap.size w w' := by
 have hu50 := Try.underlying50
 have HR0 := zK hr0
 have HC0 := zK hc0
 clear hr0 hc0
 have HB := zK (Below.refl w.heap.size w)
 have H : (tollbarref17_Without.l0 k l0 ([] : List (S50)) 0 a1_0 a1_1 a1_2) = some r := h
 clear h
 have H' := zK H
 clear H
 go_enter Try.func32, Try.ntmps32
 go_wp2_with (first | ((with_reducible refine gate_dst (N := 3) rfl ?_); refine box_event ?hg (N := 3) ?hd (cs := #[.int .i64 a1_0, .int .i64 a1_1, .int .i64 a1_2]) (t := 50) ?hr ?_; (case hd => rfl); (case hg => rfl); (case hr => first | (go_simp; done) | (go_simp; rfl)); intro gb313 hg w3 hbox hb; have n0_ := zK (yF (zl HB.out) hb); have n1_ := zK (hbox); have n2_ := zK ((by rw [hg]; exact (yG (zl HB.out)) : w.heap.size ≤ gb313)); have n3_ := zK ((by rw [hg]; exact (yG (zl HB.out)) : w.heap.size ≤ gb313)); clear HB; have HB := n0_; have BK313 := n1_; have GW313 := n2_; have GE313 := n3_; clear n0_ n1_ n2_ n3_; clear hb hbox hg))
 repeat (go_quiet (first | ((with_reducible refine gate_dst (N := 3) rfl ?_); refine box_event ?hg (N := 3) ?hd (cs := #[.int .i64 a1_0, .int .i64 a1_1, .int .i64 a1_2]) (t := 50) ?hr ?_; (case hd => rfl); (case hg => rfl); (case hr => first | (go_simp; done) | (go_simp; rfl)); intro gb313 hg w3 hbox hb; have n0_ := zK (yF (zl HB.out) hb); have n1_ := zK (hbox); have n2_ := zK ((by rw [hg]; exact (yG (zl HB.out)) : w.heap.size ≤ gb313)); have n3_ := zK ((by rw [hg]; exact (yG (zl HB.out)) : w.heap.size ≤ gb313)); clear HB; have HB := n0_; have BK313 := n1_; have GW313 := n2_; have GE313 := n3_; clear n0_ n1_ n2_ n3_; clear hb hbox hg)); try go_wp2_with (first | ((with_reducible refine gate_dst (N := 3) rfl ?_); refine box_event ?hg (N := 3) ?hd (cs := #[.int .i64 a1_0, .int .i64 a1_1, .int .i64 a1_2]) (t := 50) ?hr ?_; (case hd => rfl); (case hg => rfl); (case hr => first | (go_simp; done) | (go_simp; rfl)); intro gb313 hg w3 hbox hb; have n0_ := zK (yF (zl HB.out) hb); have n1_ := zK (hbox); have n2_ := zK ((by rw [hg]; exact (yG (zl HB.out)) : w.heap.size ≤ gb313)); have n3_ := zK ((by rw [hg]; exact (yG (zl HB.out)) : w.heap.size ≤ gb313)); clear HB; have HB := n0_; have BK313 := n1_; have GW313 := n2_; have GE313 := n3_; clear n0_ n1_ n2_ n3_; clear hb hbox hg)))
 go_loopg [5, 6] k (fun kq v5 v6 w' => ∃ (x5_1 : List (S50)) (x6_1 : Int), v6 = .int .i64 x6_1 ∧ Aside0 (tollbarref17_Without.l0 kq l0 x5_1 x6_1 a1_0 a1_1 a1_2 = some r) ∧ Aside0 (kq ≤ k) ∧ Aside0 (Kd.R k50 50 w' w.heap.size (fun k_ => k_ ≠ gb313) v5 x5_1) ∧ Aside0 (w'.heap[gb313]? = some (.cells #[.int .i64 a1_0, .int .i64 a1_1, .int .i64 a1_2] 50 (0, 0))) ∧ Aside0 (Below w.heap.size w w'))
 case atStart => exact ⟨(([] : List (S50))), (0), zz, H', ⟨Nat.le_refl _⟩, ⟨by first | exact Kd.R_nil _ _ _ _ _ | exact Kd.N_nil _ _ _ _ _ | exact Kd.V_nil _ _ _ _ _ | exact Kd.Q_nil _ _ _ _ _ | exact Kd.S_nil _ _ _ _ _⟩, ⟨by (with_reducible repeat (first | refine zD ?_ _ | refine zE ?_ | refine zF ?_ _)); exact BK313.out⟩, ⟨by repeat (first | (with_reducible first | exact HB.out | apply zG | apply zH | apply zI | refine zL ?_ GE313.out) | exact HB.out)⟩⟩
 case round =>
  clear H'
  try clear p2
  try clear c3
  obtain ⟨x5_1, x6_1, rfl, HA, HK1, HO_5, BK313, HB⟩ := hrel
  cases gk with
  | zero => exact absurd HA.out (by simp [tollbarref17_Without.l0])
  | succ k1 =>
   have H := HA.out
   clear HA
   simp only [tollbarref17_Without.l0] at H
   by_cases c4 : x6_1 < (l0.length : Int)
   ·rw [if_pos c4] at H
    have c4b0 : decide (x6_1 < (l0.length : Int)) = true := decide_eq_true c4
    clear c4
    by_cases c5 : 0 ≤ x6_1
    ·rw [if_pos c5] at H
     have c5b0 : decide (0 ≤ x6_1) = true := decide_eq_true c5
     clear c5
     by_cases c6 : ((!(((rd_T50 l0 x6_1).f0.f0) == a1_0) || (!(((rd_T50 l0 x6_1).f0.f1) == a1_1))) || (!(((rd_T50 l0 x6_1).f1) == a1_2))) = true
     ·rw [if_pos c6] at H
      have c6b0 : ((!(((rd_T50 l0 x6_1).f0.f0) == a1_0) || (!(((rd_T50 l0 x6_1).f0.f1) == a1_1))) || (!(((rd_T50 l0 x6_1).f1) == a1_2))) = true := c6
      clear c6
      by_cases c7 : x5_1.length < 5864062014805
      ·rw [if_pos c7] at H
       have LMc7 := zK c7
       clear c7
       obtain ⟨y316, hy316⟩ : ∃ y_ : List (S50), y_ = (x5_1 ++ [(⟨(⟨(rd_T50 l0 x6_1).f0.f0, (rd_T50 l0 x6_1).f0.f1⟩ : S27), (rd_T50 l0 x6_1).f1⟩ : S50)]) := ⟨_, rfl⟩
       replace H : (tollbarref17_Without.l0 k1 l0 y316 (wrap64 (x6_1 + 1)) a1_0 a1_1 a1_2) = some r := by first | (rw [hy316]; with_reducible exact H) | (have H2_ := (Option.bind_some _ _).symm.trans H; rw [hy316]; with_reducible exact H2_) | (have H2_ := (Option.bind_some _ _).symm.trans H; with_reducible exact H2_) | with_reducible exact H | (rw [hy316]; exact H) | exact H
       have Ny316 := zK hy316
       clear hy316
       have H' := zK H
       clear H
       have p314 : 0 ≤ (x6_1 : Int) := of_decide_eq_true (by first | (with_reducible assumption) | assumption)
       have q314 : x6_1 < (l0.length : Int) := of_decide_eq_true (by first | (with_reducible assumption) | assumption)
       obtain ⟨ad314, e314, hx314_0, hx314_1, hx314_2⟩ := at_T50 HR0.out x6_1 p314 q314
       cases e314
       replace hx314_0 := (HB.out.cell (zJ w _ hx314_0)).trans hx314_0
       replace hx314_1 := (HB.out.cell (zJ w _ hx314_1)).trans hx314_1
       replace hx314_2 := (HB.out.cell (zJ w _ hx314_2)).trans hx314_2
       replace p314 := eq_true p314
       replace q314 := eq_true q314
       have hcz8_0 : wr.cell? ⟨gb313, 0, none⟩ = some (.int .i64 a1_0) := (zQ BK313.out 0).trans rfl
       have hcz8_1 : wr.cell? ⟨gb313, 1, none⟩ = some (.int .i64 a1_1) := (zQ BK313.out 1).trans rfl
       have hcz8_2 : wr.cell? ⟨gb313, 2, none⟩ = some (.int .i64 a1_2) := (zQ BK313.out 2).trans rfl
       have hfz8_0 := zR BK313.out 0
       have hfz8_1 := zR BK313.out 1
       have hfz8_2 := zR BK313.out 2
       have p315 : 0 ≤ (x6_1 : Int) := of_decide_eq_true (by first | (with_reducible assumption) | assumption)
       have q315 : x6_1 < (l0.length : Int) := of_decide_eq_true (by first | (with_reducible assumption) | assumption)
       obtain ⟨ad315, e315, hx315_0, hx315_1, hx315_2⟩ := at_T50 HR0.out x6_1 p315 q315
       obtain rfl : ad314 = ad315 := (by injection e315)
       replace hx315_0 := (HB.out.cell (zJ w _ hx315_0)).trans hx315_0
       replace hx315_1 := (HB.out.cell (zJ w _ hx315_1)).trans hx315_1
       replace hx315_2 := (HB.out.cell (zJ w _ hx315_2)).trans hx315_2
       replace p315 := eq_true p315
       replace q315 := eq_true q315
       go_wp2_with (first | ((with_reducible refine gate_builtin (b := .append) (xs := #[.tmp 19, .tmp 24]) rfl ?_); at_builtin; refine Kd.R_append k50 (w0 := w) w.heap.size rfl (.tmp 19) (.tmp 24) 29 50 (.agg #[(.int .i64 0), (.int .i64 0), (.int .i64 0)]) 24 rfl Try.underlying29 info50 rfl (by decide) (by omega) u5 x5_1 (⟨(⟨(rd_T50 l0 x6_1).f0.f0, (rd_T50 l0 x6_1).f0.f1⟩ : S27), (rd_T50 l0 x6_1).f1⟩ : S50) [.int .i64 ((rd_T50 l0 x6_1).f0.f0), .int .i64 ((rd_T50 l0 x6_1).f0.f1), .int .i64 ((rd_T50 l0 x6_1).f1)] (fun k_ => k_ ≠ gb313) (fun _ => False) rfl rfl ?aP (fun _ hk => hk.elim) ?aF ?aO ?aB ?aS ?aL ?_; (case aP => exact k50_mkM _ _ _ (⟨(⟨(rd_T50 l0 x6_1).f0.f0, (rd_T50 l0 x6_1).f0.f1⟩ : S27), (rd_T50 l0 x6_1).f1⟩ : S50)); (case aB => exact (zl HB.out)); (case aF => exact (fun k_ hk => Kd.freshB (g := gb313) (o := .cells #[.int .i64 a1_0, .int .i64 a1_1, .int .i64 a1_2] 50 (0, 0)) (zb BK313.out) k_ hk)); (case aO => exact (zr HO_5.out)); (case aS => exact (yG (zl HB.out))); (case aL => have := LMc7.out; omega); intro v317 w9 ho hb hg hat; rw [← Ny316.out] at ho; have n0_ := zK (blk_grown (g := gb313) (o := .cells #[.int .i64 a1_0, .int .i64 a1_1, .int .i64 a1_2] 50 (0, 0)) (zb BK313.out) hg (Kd.R_away HO_5.out (fun _ hk => hk))); have n1_ := zK (hb); have n2_ := zK (ho); clear BK313; clear HB; clear HO_5; have BK313 := n0_; have HB := n1_; have HO318 := n2_; clear n0_ n1_ n2_; clear ho hb hg hat))
       repeat (go_quiet (first | ((with_reducible refine gate_builtin (b := .append) (xs := #[.tmp 19, .tmp 24]) rfl ?_); at_builtin; refine Kd.R_append k50 (w0 := w) w.heap.size rfl (.tmp 19) (.tmp 24) 29 50 (.agg #[(.int .i64 0), (.int .i64 0), (.int .i64 0)]) 24 rfl Try.underlying29 info50 rfl (by decide) (by omega) u5 x5_1 (⟨(⟨(rd_T50 l0 x6_1).f0.f0, (rd_T50 l0 x6_1).f0.f1⟩ : S27), (rd_T50 l0 x6_1).f1⟩ : S50) [.int .i64 ((rd_T50 l0 x6_1).f0.f0), .int .i64 ((rd_T50 l0 x6_1).f0.f1), .int .i64 ((rd_T50 l0 x6_1).f1)] (fun k_ => k_ ≠ gb313) (fun _ => False) rfl rfl ?aP (fun _ hk => hk.elim) ?aF ?aO ?aB ?aS ?aL ?_; (case aP => exact k50_mkM _ _ _ (⟨(⟨(rd_T50 l0 x6_1).f0.f0, (rd_T50 l0 x6_1).f0.f1⟩ : S27), (rd_T50 l0 x6_1).f1⟩ : S50)); (case aB => exact (zl HB.out)); (case aF => exact (fun k_ hk => Kd.freshB (g := gb313) (o := .cells #[.int .i64 a1_0, .int .i64 a1_1, .int .i64 a1_2] 50 (0, 0)) (zb BK313.out) k_ hk)); (case aO => exact (zr HO_5.out)); (case aS => exact (yG (zl HB.out))); (case aL => have := LMc7.out; omega); intro v317 w9 ho hb hg hat; rw [← Ny316.out] at ho; have n0_ := zK (blk_grown (g := gb313) (o := .cells #[.int .i64 a1_0, .int .i64 a1_1, .int .i64 a1_2] 50 (0, 0)) (zb BK313.out) hg (Kd.R_away HO_5.out (fun _ hk => hk))); have n1_ := zK (hb); have n2_ := zK (ho); clear BK313; clear HB; clear HO_5; have BK313 := n0_; have HB := n1_; have HO318 := n2_; clear n0_ n1_ n2_; clear ho hb hg hat)); try go_wp2_with (first | ((with_reducible refine gate_builtin (b := .append) (xs := #[.tmp 19, .tmp 24]) rfl ?_); at_builtin; refine Kd.R_append k50 (w0 := w) w.heap.size rfl (.tmp 19) (.tmp 24) 29 50 (.agg #[(.int .i64 0), (.int .i64 0), (.int .i64 0)]) 24 rfl Try.underlying29 info50 rfl (by decide) (by omega) u5 x5_1 (⟨(⟨(rd_T50 l0 x6_1).f0.f0, (rd_T50 l0 x6_1).f0.f1⟩ : S27), (rd_T50 l0 x6_1).f1⟩ : S50) [.int .i64 ((rd_T50 l0 x6_1).f0.f0), .int .i64 ((rd_T50 l0 x6_1).f0.f1), .int .i64 ((rd_T50 l0 x6_1).f1)] (fun k_ => k_ ≠ gb313) (fun _ => False) rfl rfl ?aP (fun _ hk => hk.elim) ?aF ?aO ?aB ?aS ?aL ?_; (case aP => exact k50_mkM _ _ _ (⟨(⟨(rd_T50 l0 x6_1).f0.f0, (rd_T50 l0 x6_1).f0.f1⟩ : S27), (rd_T50 l0 x6_1).f1⟩ : S50)); (case aB => exact (zl HB.out)); (case aF => exact (fun k_ hk => Kd.freshB (g := gb313) (o := .cells #[.int .i64 a1_0, .int .i64 a1_1, .int .i64 a1_2] 50 (0, 0)) (zb BK313.out) k_ hk)); (case aO => exact (zr HO_5.out)); (case aS => exact (yG (zl HB.out))); (case aL => have := LMc7.out; omega); intro v317 w9 ho hb hg hat; rw [← Ny316.out] at ho; have n0_ := zK (blk_grown (g := gb313) (o := .cells #[.int .i64 a1_0, .int .i64 a1_1, .int .i64 a1_2] 50 (0, 0)) (zb BK313.out) hg (Kd.R_away HO_5.out (fun _ hk => hk))); have n1_ := zK (hb); have n2_ := zK (ho); clear BK313; clear HB; clear HO_5; have BK313 := n0_; have HB := n1_; have HO318 := n2_; clear n0_ n1_ n2_; clear ho hb hg hat)))
       go_roundg k1
       case measure => have := HK1.out; omega
       case rel => exact ⟨(y316), (wrap64 (x6_1 + 1)), zz, H', ⟨by have := HK1.out; omega⟩, ⟨by (with_reducible repeat (first | apply zA | apply zB | apply zC)); exact HO318.out⟩, ⟨by (with_reducible repeat (first | refine zD ?_ _ | refine zE ?_ | refine zF ?_ _)); exact BK313.out⟩, ⟨by repeat (first | (with_reducible first | exact HB.out | apply zG | apply zH | apply zI | refine zL ?_ GE313.out) | exact HB.out)⟩⟩
      ·rw [if_neg c7] at H
       exact absurd H (by simp)
     ·rw [if_neg c6] at H
      have c6b0 : ((!(((rd_T50 l0 x6_1).f0.f0) == a1_0) || (!(((rd_T50 l0 x6_1).f0.f1) == a1_1))) || (!(((rd_T50 l0 x6_1).f1) == a1_2))) = false := by simpa using c6
      clear c6
      have H' := zK H
      clear H
      have p314 : 0 ≤ (x6_1 : Int) := of_decide_eq_true (by first | (with_reducible assumption) | assumption)
      have q314 : x6_1 < (l0.length : Int) := of_decide_eq_true (by first | (with_reducible assumption) | assumption)
      obtain ⟨ad314, e314, hx314_0, hx314_1, hx314_2⟩ := at_T50 HR0.out x6_1 p314 q314
      cases e314
      replace hx314_0 := (HB.out.cell (zJ w _ hx314_0)).trans hx314_0
      replace hx314_1 := (HB.out.cell (zJ w _ hx314_1)).trans hx314_1
      replace hx314_2 := (HB.out.cell (zJ w _ hx314_2)).trans hx314_2
      replace p314 := eq_true p314
      replace q314 := eq_true q314
      have hcz10_0 : wr.cell? ⟨gb313, 0, none⟩ = some (.int .i64 a1_0) := (zQ BK313.out 0).trans rfl
      have hcz10_1 : wr.cell? ⟨gb313, 1, none⟩ = some (.int .i64 a1_1) := (zQ BK313.out 1).trans rfl
      have hcz10_2 : wr.cell? ⟨gb313, 2, none⟩ = some (.int .i64 a1_2) := (zQ BK313.out 2).trans rfl
      have hfz10_0 := zR BK313.out 0
      have hfz10_1 := zR BK313.out 1
      have hfz10_2 := zR BK313.out 2
      go_wp2
      repeat (go_quiet (fail); try go_wp2)
      go_roundg k1
      case measure => have := HK1.out; omega
      case rel => exact ⟨(x5_1), (wrap64 (x6_1 + 1)), zz, H', ⟨by have := HK1.out; omega⟩, ⟨by (with_reducible repeat (first | apply zA | apply zB | apply zC)); exact HO_5.out⟩, ⟨by (with_reducible repeat (first | refine zD ?_ _ | refine zE ?_ | refine zF ?_ _)); exact BK313.out⟩, ⟨by repeat (first | (with_reducible first | exact HB.out | apply zG | apply zH | apply zI | refine zL ?_ GE313.out) | exact HB.out)⟩⟩
    ·rw [if_neg c5] at H
     exact absurd H (by simp)
   ·rw [if_neg c4] at H
    have c4b0 : decide (x6_1 < (l0.length : Int)) = false := decide_eq_false c4
    clear c4
    obtain rfl := Option.some.inj H
    go_wp2
    repeat (go_quiet (fail); try go_wp2)
    go_ret
    exact ⟨_, by first | rfl | (simp [errW_none, errW_some] <;> rfl) | (simp [*, errW_none, errW_some] <;> rfl), by (with_reducible repeat (first | apply zA | apply zB | apply zC)); exact Kd.R_mono HO_5.out (fun _ hk => trivial), zl HB.out⟩
end Go.Proofs.Ytgkjpffbgnljeaa.QA
-- written by this session's program mprint.py: functions of the Go program, and their contracts
namespace Go.Proofs.Ytgkjpffbgnljeaa.QL
open Go.RowKit Go.Proofs.Ytgkjpffbgnljeaa.Au Go.Proofs.Ytgkjpffbgnljeaa.QT Go.Proofs.Ytgkjpffbgnljeaa.Man Go.Proofs.Ytgkjpffbgnljeaa.QA Go.Proofs.YtgkjpffbgnljeaaW.PrintWords Go.Proofs.YtgkjpffbgnljeaaW.PrintLast Go.Proofs.YtgkjpffbgnljeaaW.PrintMore
attribute [local go_sem] max2_int min2_int max_two min_two max_three min_three max_four min_four
set_option linter.unusedVariables false
set_option linter.unusedSimpArgs false
def tollbarlaw0_SpoilInts.l0 : Nat → List Int → Int → Option (List Int)
 | 0, _, _ => none
 | k + 1, x0, x2 => if x2 < (x0.length : Int) then (if 0 ≤ x2 then (tollbarlaw0_SpoilInts.l0 k (x0.set (x2 : Int).toNat (wrap64 ((-9) - (Int.tmod (rd x0 x2) 1000)))) (wrap64 (x2 + 1))) else (none)) else (some x0)
def tollbarlaw0_SpoilInts.f (k : Nat) (l0 : List Int) : Option (List Int) := tollbarlaw0_SpoilInts.l0 k l0 0
set_option maxHeartbeats 8000000 in
set_option maxRecDepth 100000 in
theorem tollbarlaw0_SpoilInts.calls (k : Nat) (P0_ : Nat → Prop) (u9000_ : Value) (l0 : List Int) (r : List Int) (w0 w : World) (hB : Below w0.heap.size w0 w) (ho0 : Kd.R (Kd.int .i64) 3 w w0.heap.size P0_ u9000_ l0) (h : tollbarlaw0_SpoilInts.f k l0 = some r) :
  Calls Try.prog 61 #[u9000_] w fun e w' => e = .returned (.tuple #[]) ∧ Kd.R (Kd.int .i64) 3 w' w0.heap.size (fun k_ => (P0_ k_ ∨ w.heap.size ≤ k_)) u9000_ r ∧ Below w0.heap.size w0 w' ∧ Kept w w' (fun k_ => P0_ k_) := by
 have HO0 := zK (show Kd.R (Kd.int .i64) 3 w w0.heap.size (fun k_ => (P0_ k_ ∨ w.heap.size ≤ k_)) u9000_ l0 from Kd.R_mono ho0 (fun k_ hk => (.inl hk)))
 have HK := zK (Kept.refl w (fun k_ => P0_ k_))
 have HW0 := zK hB.size
 have HB := zK hB
 clear hB
 have H : (tollbarlaw0_SpoilInts.l0 k l0 0) = some r := h
 clear h
 have H' := zK H
 clear H
 go_enter Try.func61, Try.ntmps61
 go_wp2
 go_loopg [2] k (fun kq v2 w' => ∃ (x0_1 : List Int) (x2_1 : Int), v2 = .int .i64 x2_1 ∧ Aside0 (tollbarlaw0_SpoilInts.l0 kq x0_1 x2_1 = some r) ∧ Aside0 (kq ≤ k) ∧ Aside0 (Kd.R (Kd.int .i64) 3 w' w0.heap.size (fun k_ => (P0_ k_ ∨ w.heap.size ≤ k_)) u9000_ x0_1) ∧ Aside0 (Kept w w' (fun k_ => P0_ k_)) ∧ Aside0 (Below w0.heap.size w0 w'))
 case atStart => exact ⟨(l0), (0), zz, H', ⟨Nat.le_refl _⟩, ⟨by (with_reducible repeat (first | apply zA | apply zB | apply zC)); exact HO0.out⟩, ⟨by repeat (first | (with_reducible first | exact HK.out | apply Kept.alloc | apply Kept.drewN | apply Kept.drew) | exact HK.out)⟩, ⟨by repeat (first | (with_reducible first | exact HB.out | apply zG | apply zH | apply zI) | exact HB.out)⟩⟩
 case round =>
  clear H'
  obtain ⟨x0_1, x2_1, rfl, HA, HK1, HO_0, HK, HB⟩ := hrel
  cases gk with
  | zero => exact absurd HA.out (by simp [tollbarlaw0_SpoilInts.l0])
  | succ k1 =>
   have H := HA.out
   clear HA
   simp only [tollbarlaw0_SpoilInts.l0] at H
   by_cases c2 : x2_1 < (x0_1.length : Int)
   ·rw [if_pos c2] at H
    have c2b0 : decide (x2_1 < (x0_1.length : Int)) = true := decide_eq_true c2
    clear c2
    by_cases c3 : 0 ≤ x2_1
    ·rw [if_pos c3] at H
     have c3b0 : decide (0 ≤ x2_1) = true := decide_eq_true c3
     clear c3
     obtain ⟨y102, hy102⟩ : ∃ y_ : List Int, y_ = (x0_1.set (x2_1 : Int).toNat (wrap64 ((-9) - (Int.tmod (rd x0_1 x2_1) 1000)))) := ⟨_, rfl⟩
     replace H : (tollbarlaw0_SpoilInts.l0 k1 y102 (wrap64 (x2_1 + 1))) = some r := by first | (rw [hy102]; with_reducible exact H) | (have H2_ := (Option.bind_some _ _).symm.trans H; rw [hy102]; with_reducible exact H2_) | (have H2_ := (Option.bind_some _ _).symm.trans H; with_reducible exact H2_) | with_reducible exact H | (rw [hy102]; exact H) | exact H
     have Ny102 := zK hy102
     clear hy102
     have H' := zK H
     clear H
     obtain ⟨Ao5, co5, eo5⟩ := yE HO_0.out
     subst eo5
     have p101 : 0 ≤ (x2_1 : Int) := of_decide_eq_true (by first | (with_reducible assumption) | assumption)
     have q101 : x2_1 < (x0_1.length : Int) := of_decide_eq_true (by first | (with_reducible assumption) | assumption)
     obtain ⟨ad101, e101, hx101_0⟩ := Kd.at_int (zX HO_0.out).2.2 x2_1 p101 q101
     cases e101
     replace p101 := eq_true p101
     replace q101 := eq_true q101
     have p4 : 0 ≤ (x2_1 : Int) := of_decide_eq_true (by first | (with_reducible assumption) | assumption)
     have q4 : (x2_1 : Int) < ((x0_1.length : Int) : Int) := of_decide_eq_true (by first | (with_reducible assumption) | assumption)
     obtain ⟨go4, co4, eo4, gb4, gl4, cl4, HG4⟩ := Kd.R_form HO_0.out (by omega)
     (first | cases eo4 | (injection eo4 with ea_ en_ ec_; (first | subst ea_ | (injection ea_ with ea_; subst ea_)); subst ec_; clear en_))
     have GB4 := zK gb4
     have GG4 := zK HG4
     clear gb4 gl4 HG4
     have HMgo4 := zK (show (P0_ go4 ∨ w.heap.size ≤ go4) from (HO_0.out.1 _ rfl))
     (first | simp only [add_plain] at hx101_0 | skip)
     obtain ⟨hx4_0, hf4_0⟩ := Kd.R_celln 0 HO_0.out (x2_1 : Int) p4 q4
     replace p4 := eq_true p4
     replace q4 := eq_true q4
     have HP6 := Kd.R_putg HO_0.out (x2_1 : Int) (wrap64 ((-9) - (Int.tmod (rd x0_1 x2_1) 1000)))
     go_wp2_with (first | ((with_reducible refine gate_store (t := 3) (p := 17) rfl ?_); refine store_event (t := 3) (p := 17) (v := ?vo_w7) (w1 := (wr.setCell ⟨go4, (x2_1 : Int).toNat, none⟩ (.int .i64 (wrap64 ((-9) - (Int.tmod (rd x0_1 x2_1) 1000)))))) ?hg ?ho ?hn ?hr ?_; (case ho => rfl); (case hg => rfl); (case hn => rfl); (case hr => first | (go_simp; done) | (go_simp; rfl)); intro w7 hw; have hg : wr.grownBy w7 (some go4) := (by rw [hw]; exact HP6.2); have hp_ : Kd.R (Kd.int .i64) 3 w7 w0.heap.size (fun k_ => (P0_ k_ ∨ w.heap.size ≤ k_)) (.slice (some ⟨go4, 0, none⟩) x0_1.length co5) y102 := (by rw [hw, Ny102.out]; exact HP6.1); clear HP6; have n0_ := zK (hp_); have n1_ := zK ((by rw [hw]; exact zL (HB.out) GB4.out : Below w0.heap.size w0 w7)); have n2_ := zK (Kept.of_grown (S := (fun k_ => P0_ k_)) hg (by repeat (first | (with_reducible first | exact HK.out | apply Kept.alloc | apply Kept.drewN | apply Kept.drew) | exact HK.out)) (fun k_ e_ => (HO_0.out.1 k_ e_))); clear HO_0; clear HB; clear HK; have HO_0 := n0_; have HB := n1_; have HK := n2_; clear n0_ n1_ n2_; clear hg hw hp_))
     go_roundg k1
     case measure => have := HK1.out; omega
     case rel => exact ⟨(y102), (wrap64 (x2_1 + 1)), zz, H', ⟨by have := HK1.out; omega⟩, ⟨by (with_reducible repeat (first | apply zA | apply zB | apply zC)); exact HO_0.out⟩, ⟨by repeat (first | (with_reducible first | exact HK.out | apply Kept.alloc | apply Kept.drewN | apply Kept.drew) | exact HK.out)⟩, ⟨by repeat (first | (with_reducible first | exact HB.out | apply zG | apply zH | apply zI) | exact HB.out)⟩⟩
    ·rw [if_neg c3] at H
     exact absurd H (by simp)
   ·rw [if_neg c2] at H
    have c2b0 : decide (x2_1 < (x0_1.length : Int)) = false := decide_eq_false c2
    clear c2
    obtain rfl := Option.some.inj H
    obtain ⟨Ao8, co8, eo8⟩ := yE HO_0.out
    subst eo8
    go_wp2
    first | go_end0 | ((try simp only [Exit.inBlock, Exit.then]); refine bodyPost_ret (results_none rfl _ _ _) rfl ?_)
    exact ⟨ze, by (with_reducible repeat (first | apply zA | apply zB | apply zC)); exact HO_0.out, by repeat (first | (with_reducible first | exact HB.out | apply zG | apply zH | apply zI) | exact HB.out), by repeat (first | (with_reducible first | exact HK.out | apply Kept.alloc | apply Kept.drewN | apply Kept.drew) | exact HK.out)⟩
def tollbarlaw0_SpoilTree.l0 : Nat → Int → List (S64) → Int → List Int → Option ((List (S64)) × List Int)
 | 0, _, _, _, _ => none
 | k + 1, x2, xqa, xqb, xqc => if x2 < (xqa.length : Int) then (if 0 ≤ x2 then (tollbarlaw0_SpoilTree.l0 k (wrap64 (x2 + 1)) (xqa.set (x2 : Int).toNat (⟨(⟨(⟨0, 0⟩ : S27), 0⟩ : S50), (-9), (-9), 0, 0⟩ : S64)) xqb xqc) else (none)) else (some (xqa, xqc))
def tollbarlaw0_SpoilTree.f (k : Nat) (l0_0 : List (S64)) (a0_1 : Int) (l0_2 : List Int) : Option ((List (S64)) × List Int) := (tollbarlaw0_SpoilInts.f k l0_2).bind fun t104 => (tollbarlaw0_SpoilTree.l0 k 0 l0_0 a0_1 t104)
set_option maxHeartbeats 8000000 in
set_option maxRecDepth 100000 in
theorem tollbarlaw0_SpoilTree.calls (k : Nat) (P0_0_ : Nat → Prop) (u9000_ : Value) (l0_0 : List (S64)) (a0_1 : Int) (P0_2_ : Nat → Prop) (u9001_ : Value) (l0_2 : List Int) (r1 : List (S64)) (r2 : List Int) (w0 w : World) (hB : Below w0.heap.size w0 w) (ho0_0 : Kd.R k64 64 w w0.heap.size P0_0_ u9000_ l0_0) (ho0_2 : Kd.R (Kd.int .i64) 3 w w0.heap.size P0_2_ u9001_ l0_2) (h : tollbarlaw0_SpoilTree.f k l0_0 a0_1 l0_2 = some (r1, r2)) :
  Calls Try.prog 29 #[.agg #[u9000_, .int .i64 a0_1, u9001_]] w fun e w' => e = .returned (.tuple #[]) ∧ Kd.R k64 64 w' w0.heap.size (fun k_ => ((P0_0_ k_ ∨ P0_2_ k_) ∨ w.heap.size ≤ k_)) u9000_ r1 ∧ Kd.R (Kd.int .i64) 3 w' w0.heap.size (fun k_ => ((P0_0_ k_ ∨ P0_2_ k_) ∨ w.heap.size ≤ k_)) u9001_ r2 ∧ Below w0.heap.size w0 w' ∧ Kept w w' (fun k_ => P0_0_ k_ ∨ P0_2_ k_) := by
 have hu25 := Try.underlying25
 have hu64 := Try.underlying64
 have HO0_0 := zK (show Kd.R k64 64 w w0.heap.size (fun k_ => ((P0_0_ k_ ∨ P0_2_ k_) ∨ w.heap.size ≤ k_)) u9000_ l0_0 from Kd.R_mono ho0_0 (fun k_ hk => (.inl (.inl hk))))
 have HO0_2 := zK (show Kd.R (Kd.int .i64) 3 w w0.heap.size (fun k_ => ((P0_0_ k_ ∨ P0_2_ k_) ∨ w.heap.size ≤ k_)) u9001_ l0_2 from Kd.R_mono ho0_2 (fun k_ hk => (.inl (.inr hk))))
 have HK := zK (Kept.refl w (fun k_ => P0_0_ k_ ∨ P0_2_ k_))
 have HW0 := zK hB.size
 have HB := zK hB
 clear hB
 have H : ((tollbarlaw0_SpoilInts.f k l0_2).bind fun t104 => (tollbarlaw0_SpoilTree.l0 k 0 l0_0 a0_1 t104)) = some (r1, r2) := h
 clear h
 replace H := yH.mp H
 obtain ⟨t104, A20, H⟩ := H
 replace H : (tollbarlaw0_SpoilTree.l0 k 0 l0_0 a0_1 t104) = some (r1, r2) := H
 have A2 := zK A20
 clear A20
 have H' := zK H
 clear H
 obtain ⟨Ao3, co3, eo3⟩ := yE HO0_0.out
 subst eo3
 obtain ⟨Ao4, co4, eo4⟩ := yE HO0_2.out
 subst eo4
 go_enter Try.func29, Try.ntmps29
 go_wp2_with (first | ((with_reducible refine gate_dst (N := 1) rfl ?_); refine box_event ?hg (N := 1) ?hd (cs := #[.slice Ao3 l0_0.length co3, .int .i64 a0_1, .slice Ao4 l0_2.length co4]) (t := 25) ?hr ?_; (case hd => rfl); (case hg => rfl); (case hr => first | (go_simp; done) | (go_simp; rfl)); intro gb103 hg w5 hbox hb; have n0_ := zK (zO (zr HO0_0.out) hb); have n1_ := zK (zO (zr HO0_2.out) hb); have n2_ := zK (Kept.below (S := (fun k_ => P0_0_ k_ ∨ P0_2_ k_)) (by repeat (first | (with_reducible first | exact HK.out | apply Kept.alloc | apply Kept.drewN | apply Kept.drew) | exact HK.out)) hb); have n3_ := zK (yF (zl HB.out) hb); have n4_ := zK (hbox); have n5_ := zK ((by rw [hg]; exact (by first | exact HK.out.1 | exact (show Kept w _ (fun k_ => P0_0_ k_ ∨ P0_2_ k_) from by repeat (first | (with_reducible first | exact HK.out | apply Kept.alloc | apply Kept.drewN | apply Kept.drew) | exact HK.out)).1) : w.heap.size ≤ gb103)); have n6_ := zK ((by rw [hg]; exact (yG (zl HB.out)) : w0.heap.size ≤ gb103)); clear HO0_0; clear HO0_2; clear HK; clear HB; have HO0_0 := n0_; have HO0_2 := n1_; have HK := n2_; have HB := n3_; have BK103 := n4_; have GW103 := n5_; have GE103 := n6_; clear n0_ n1_ n2_ n3_ n4_ n5_ n6_; clear hb hbox hg; have hcz6_0 : w5.cell? ⟨gb103, 0, none⟩ = some (.slice Ao3 l0_0.length co3) := (zQ BK103.out 0).trans rfl; have hcz6_1 : w5.cell? ⟨gb103, 1, none⟩ = some (.int .i64 a0_1) := (zQ BK103.out 1).trans rfl; have hcz6_2 : w5.cell? ⟨gb103, 2, none⟩ = some (.slice Ao4 l0_2.length co4) := (zQ BK103.out 2).trans rfl; have hfz6_0 := zR BK103.out 0; have hfz6_1 := zR BK103.out 1; have hfz6_2 := zR BK103.out 2) | ((with_reducible refine gate_callee (f := 61) rfl ?_); refine goesL_ (some 5) rfl rfl Try.func61 (by kernel_rfl) rfl #[.slice Ao4 l0_2.length co4] rfl zt ?_; (with_reducible refine (tollbarlaw0_SpoilInts.calls k (fun k_ => some k_ = (.slice Ao4 l0_2.length co4 : Value).ownBlock) (.slice Ao4 l0_2.length co4) l0_2 t104 w0 _ ?side1 ?side2 A2.out).mono ?_); (case side1 => repeat (first | (with_reducible first | exact HB.out | apply zG | apply zH | apply zI | refine zL ?_ GE103.out) | exact HB.out)); (case side2 => exact Kd.R_tight rfl HO0_2.out); rintro e w7 ⟨rfl, hy0, hb, hkp⟩; refine ⟨_, rfl, ?_⟩; have n0_ := zK (Kd.R_mono (ok' := fun k_ => ((P0_0_ k_ ∨ P0_2_ k_) ∨ w.heap.size ≤ k_)) (Kd.R_keptB ((Kd.R_apart' HO0_0.out (Kd.R_typed HO0_2.out) (by decide))) hkp (fun k_ hk_ hs_ => (hk_.2) hs_)) (fun k_ hk_ => hk_.1.1)); have n1_ := zK (Kd.R_reok rfl hy0 (fun k_ e_ => HO0_2.out.1 k_ e_)); have n2_ := zK (blk_kept (zb BK103.out) hkp (fun hs_ => (fun e_ => (Kd.R_ne HO0_2.out BK103.out (by decide)) e_) hs_)); have n3_ := zK (Kept.then_ (S := (fun k_ => P0_0_ k_ ∨ P0_2_ k_)) (by repeat (first | (with_reducible first | exact HK.out | apply Kept.alloc | apply Kept.drewN | apply Kept.drew | refine Kept.setCell ?_ (.inr GW103.out) _) | exact HK.out)) hkp (fun k_ hs_ => (fun e_ => (HO0_2.out.1 k_ e_.symm)) hs_)); have n4_ := zK (hb); clear HO0_0; clear HO0_2; clear BK103; clear HK; clear HB; have HO0_0 := n0_; have HO0_2 := n1_; have BK103 := n2_; have HK := n3_; have HB := n4_; clear n0_ n1_ n2_ n3_ n4_; (try clear hb); (try clear hkp); (try clear hy0)))
 go_loopg [2] k (fun kq v2 w' => ∃ (x2_1 : Int) (xqa_1 : List (S64)), v2 = .int .i64 x2_1 ∧ Aside0 (tollbarlaw0_SpoilTree.l0 kq x2_1 xqa_1 a0_1 t104 = some (r1, r2)) ∧ Aside0 (kq ≤ k) ∧ Aside0 (Kd.R k64 64 w' w0.heap.size (fun k_ => ((P0_0_ k_ ∨ P0_2_ k_) ∨ w.heap.size ≤ k_)) (.slice Ao3 l0_0.length co3) xqa_1) ∧ Aside0 (Kd.R (Kd.int .i64) 3 w' w0.heap.size (fun k_ => ((P0_0_ k_ ∨ P0_2_ k_) ∨ w.heap.size ≤ k_)) (.slice Ao4 l0_2.length co4) t104) ∧ Aside0 (w'.heap[gb103]? = some (.cells #[(.slice Ao3 l0_0.length co3), .int .i64 a0_1, (.slice Ao4 l0_2.length co4)] 25 (0, 0))) ∧ Aside0 (Kept w w' (fun k_ => P0_0_ k_ ∨ P0_2_ k_)) ∧ Aside0 (Below w0.heap.size w0 w'))
 case atStart => exact ⟨(0), (l0_0), zz, H', ⟨Nat.le_refl _⟩, ⟨by (with_reducible repeat (first | apply zA | apply zB | apply zC)); exact HO0_0.out⟩, ⟨by (with_reducible repeat (first | apply zA | apply zB | apply zC)); exact HO0_2.out⟩, ⟨by (with_reducible repeat (first | refine zD ?_ _ | refine zE ?_ | refine zF ?_ _)); exact BK103.out⟩, ⟨by repeat (first | (with_reducible first | exact HK.out | apply Kept.alloc | apply Kept.drewN | apply Kept.drew | refine Kept.setCell ?_ (.inr GW103.out) _) | exact HK.out)⟩, ⟨by repeat (first | (with_reducible first | exact HB.out | apply zG | apply zH | apply zI | refine zL ?_ GE103.out) | exact HB.out)⟩⟩
 case round =>
  clear H'
  try clear c2
  try clear p2
  try clear c6
  try clear hcz6_0
  try clear hcz6_1
  try clear hcz6_2
  try clear hfz6_0
  try clear hfz6_1
  try clear hfz6_2
  obtain ⟨x2_1, xqa_1, rfl, HA, HK1, HO_qa, HO_qc, BK103, HK, HB⟩ := hrel
  have hlqa_1 := (zX HO_qa.out).1
  rw [hlqa_1] at HO_qa
  (try simp only [hlqa_1])
  (try simp only [hlqa_1] at BK103)
  (try simp only [hlqa_1] at HO_qc)
  have hlqc_1 := (zX HO_qc.out).1
  rw [hlqc_1] at HO_qc
  (try simp only [hlqc_1])
  (try simp only [hlqc_1] at BK103)
  (try simp only [hlqc_1] at HO_qa)
  cases gk with
  | zero => exact absurd HA.out (by simp [tollbarlaw0_SpoilTree.l0])
  | succ k1 =>
   have H := HA.out
   clear HA
   simp only [tollbarlaw0_SpoilTree.l0] at H
   by_cases c8 : x2_1 < (xqa_1.length : Int)
   ·rw [if_pos c8] at H
    have c8b0 : decide (x2_1 < (xqa_1.length : Int)) = true := decide_eq_true c8
    clear c8
    by_cases c9 : 0 ≤ x2_1
    ·rw [if_pos c9] at H
     have c9b0 : decide (0 ≤ x2_1) = true := decide_eq_true c9
     clear c9
     obtain ⟨y105, hy105⟩ : ∃ y_ : List (S64), y_ = (xqa_1.set (x2_1 : Int).toNat (⟨(⟨(⟨0, 0⟩ : S27), 0⟩ : S50), (-9), (-9), 0, 0⟩ : S64)) := ⟨_, rfl⟩
     replace H : (tollbarlaw0_SpoilTree.l0 k1 (wrap64 (x2_1 + 1)) y105 a0_1 t104) = some (r1, r2) := by first | (rw [hy105]; with_reducible exact H) | (have H2_ := (Option.bind_some _ _).symm.trans H; rw [hy105]; with_reducible exact H2_) | (have H2_ := (Option.bind_some _ _).symm.trans H; with_reducible exact H2_) | with_reducible exact H | (rw [hy105]; exact H) | exact H
     have Ny105 := zK hy105
     clear hy105
     have H' := zK H
     clear H
     have hcz11_0 : wr.cell? ⟨gb103, 0, none⟩ = some (.slice Ao3 xqa_1.length co3) := (zQ BK103.out 0).trans rfl
     have hcz11_1 : wr.cell? ⟨gb103, 1, none⟩ = some (.int .i64 a0_1) := (zQ BK103.out 1).trans rfl
     have hcz11_2 : wr.cell? ⟨gb103, 2, none⟩ = some (.slice Ao4 t104.length co4) := (zQ BK103.out 2).trans rfl
     have hfz11_0 := zR BK103.out 0
     have hfz11_1 := zR BK103.out 1
     have hfz11_2 := zR BK103.out 2
     have p10 : 0 ≤ (x2_1 : Int) := of_decide_eq_true (by first | (with_reducible assumption) | assumption)
     have q10 : (x2_1 : Int) < ((xqa_1.length : Int) : Int) := of_decide_eq_true (by first | (with_reducible assumption) | assumption)
     obtain ⟨go10, co10, eo10, gb10, gl10, cl10, HG10⟩ := Kd.R_form HO_qa.out (by omega)
     (first | cases eo10 | (injection eo10 with ea_ en_ ec_; (first | subst ea_ | (injection ea_ with ea_; subst ea_)); subst ec_; clear en_))
     have GB10 := zK gb10
     have GG10 := zK HG10
     clear gb10 gl10 HG10
     have HMgo10 := zK (show ((P0_0_ go10 ∨ P0_2_ go10) ∨ w.heap.size ≤ go10) from (HO_qa.out.1 _ rfl))
     obtain ⟨ce10, hcl10, hM10, hcc10, hfr10⟩ := Kd.R_elem HO_qa.out z64 (x2_1 : Int) p10 q10
     obtain rfl := k64_openM hM10
     have hx10_0 : wr.cell? ⟨go10, (x2_1 : Int).toNat * 7, none⟩ = some (.int .i64 ((rd_T64 xqa_1 x2_1).f0.f0.f0)) := hcc10 0 _ rfl
     have hx10_1 : wr.cell? ⟨go10, (x2_1 : Int).toNat * 7 + 1, none⟩ = some (.int .i64 ((rd_T64 xqa_1 x2_1).f0.f0.f1)) := hcc10 1 _ rfl
     have hx10_2 : wr.cell? ⟨go10, (x2_1 : Int).toNat * 7 + 2, none⟩ = some (.int .i64 ((rd_T64 xqa_1 x2_1).f0.f1)) := hcc10 2 _ rfl
     have hx10_3 : wr.cell? ⟨go10, (x2_1 : Int).toNat * 7 + 3, none⟩ = some (.int .i64 ((rd_T64 xqa_1 x2_1).f1)) := hcc10 3 _ rfl
     have hx10_4 : wr.cell? ⟨go10, (x2_1 : Int).toNat * 7 + 4, none⟩ = some (.int .i64 ((rd_T64 xqa_1 x2_1).f2)) := hcc10 4 _ rfl
     have hx10_5 : wr.cell? ⟨go10, (x2_1 : Int).toNat * 7 + 5, none⟩ = some (.int .i64 ((rd_T64 xqa_1 x2_1).f3)) := hcc10 5 _ rfl
     have hx10_6 : wr.cell? ⟨go10, (x2_1 : Int).toNat * 7 + 6, none⟩ = some (.int .i64 ((rd_T64 xqa_1 x2_1).f4)) := hcc10 6 _ rfl
     have hf10_0 : wr.frozen? ⟨go10, (x2_1 : Int).toNat * 7, none⟩ = false := hfr10 0
     have hf10_1 : wr.frozen? ⟨go10, (x2_1 : Int).toNat * 7 + 1, none⟩ = false := hfr10 1
     have hf10_2 : wr.frozen? ⟨go10, (x2_1 : Int).toNat * 7 + 2, none⟩ = false := hfr10 2
     have hf10_3 : wr.frozen? ⟨go10, (x2_1 : Int).toNat * 7 + 3, none⟩ = false := hfr10 3
     have hf10_4 : wr.frozen? ⟨go10, (x2_1 : Int).toNat * 7 + 4, none⟩ = false := hfr10 4
     have hf10_5 : wr.frozen? ⟨go10, (x2_1 : Int).toNat * 7 + 5, none⟩ = false := hfr10 5
     have hf10_6 : wr.frozen? ⟨go10, (x2_1 : Int).toNat * 7 + 6, none⟩ = false := hfr10 6
     clear hcl10 hcc10 hfr10 hM10
     replace p10 := eq_true p10
     replace q10 := eq_true q10
     have HX12 := zK (show Kd.R k64 64 wr w0.heap.size (fun k_ => ((P0_0_ k_ ∨ P0_2_ k_) ∨ w.heap.size ≤ k_)) (.slice (some ⟨go10, 0, none⟩) xqa_1.length co3) xqa_1 from (zr HO_qa.out))
     obtain ⟨ce12, hcl12, hM12, hcc12, hfr12⟩ := Kd.R_elem HX12.out z64 (x2_1 : Int) (of_decide_eq_true (by first | (with_reducible assumption) | assumption)) (by have h_ : (x2_1 : Int) < ((xqa_1.length : Int) : Int) := of_decide_eq_true (by first | (with_reducible assumption) | assumption); first | exact h_ | (have e_ := (zX HO_qa.out).1; omega) | simpa using h_)
     obtain rfl := k64_openM hM12
     have HP12 := Kd.R_seg HX12.out (x2_1 : Int) (of_decide_eq_true (by first | (with_reducible assumption) | assumption)) (by have h_ : (x2_1 : Int) < ((xqa_1.length : Int) : Int) := of_decide_eq_true (by first | (with_reducible assumption) | assumption); first | exact h_ | (have e_ := (zX HO_qa.out).1; omega) | simpa using h_) (seg := [.int .i64 0, .int .i64 0, .int .i64 0, .int .i64 (-9), .int .i64 (-9), .int .i64 0, .int .i64 0]) (j := 0) hcl12 hcc12 (show 7 ≤ 7 from by decide) (x' := (⟨(⟨(⟨0, 0⟩ : S27), 0⟩ : S50), (-9), (-9), 0, 0⟩ : S64)) (k64_mkM _ _ _ (⟨(⟨(⟨0, 0⟩ : S27), 0⟩ : S50), (-9), (-9), 0, 0⟩ : S64) ) (fun _ hk => hk)
     have hx12_0 := hcc12 0 _ rfl
     (try simp only [show (k64).sz = 7 from rfl, Nat.mul_one, Nat.add_zero] at hx12_0)
     have hf12_0 := hfr12 0
     (try simp only [show (k64).sz = 7 from rfl, Nat.mul_one, Nat.add_zero] at hf12_0)
     have hx12_1 := hcc12 1 _ rfl
     (try simp only [show (k64).sz = 7 from rfl, Nat.mul_one, Nat.add_zero] at hx12_1)
     have hf12_1 := hfr12 1
     (try simp only [show (k64).sz = 7 from rfl, Nat.mul_one, Nat.add_zero] at hf12_1)
     have hx12_2 := hcc12 2 _ rfl
     (try simp only [show (k64).sz = 7 from rfl, Nat.mul_one, Nat.add_zero] at hx12_2)
     have hf12_2 := hfr12 2
     (try simp only [show (k64).sz = 7 from rfl, Nat.mul_one, Nat.add_zero] at hf12_2)
     have hx12_3 := hcc12 3 _ rfl
     (try simp only [show (k64).sz = 7 from rfl, Nat.mul_one, Nat.add_zero] at hx12_3)
     have hf12_3 := hfr12 3
     (try simp only [show (k64).sz = 7 from rfl, Nat.mul_one, Nat.add_zero] at hf12_3)
     have hx12_4 := hcc12 4 _ rfl
     (try simp only [show (k64).sz = 7 from rfl, Nat.mul_one, Nat.add_zero] at hx12_4)
     have hf12_4 := hfr12 4
     (try simp only [show (k64).sz = 7 from rfl, Nat.mul_one, Nat.add_zero] at hf12_4)
     have hx12_5 := hcc12 5 _ rfl
     (try simp only [show (k64).sz = 7 from rfl, Nat.mul_one, Nat.add_zero] at hx12_5)
     have hf12_5 := hfr12 5
     (try simp only [show (k64).sz = 7 from rfl, Nat.mul_one, Nat.add_zero] at hf12_5)
     have hx12_6 := hcc12 6 _ rfl
     (try simp only [show (k64).sz = 7 from rfl, Nat.mul_one, Nat.add_zero] at hx12_6)
     have hf12_6 := hfr12 6
     (try simp only [show (k64).sz = 7 from rfl, Nat.mul_one, Nat.add_zero] at hf12_6)
     clear hcl12 hcc12 hfr12 hM12
     go_wp2_with (first | ((with_reducible refine gate_store (t := 64) (p := 17) rfl ?_); refine store_event (t := 64) (p := 17) (v := ?vo_w13) (w1 := (((((((wr.setCell ⟨go10, (x2_1 : Int).toNat * 7, none⟩ (.int .i64 0)).setCell ⟨go10, (x2_1 : Int).toNat * 7 + 1, none⟩ (.int .i64 0)).setCell ⟨go10, (x2_1 : Int).toNat * 7 + 2, none⟩ (.int .i64 0)).setCell ⟨go10, (x2_1 : Int).toNat * 7 + 3, none⟩ (.int .i64 (-9))).setCell ⟨go10, (x2_1 : Int).toNat * 7 + 4, none⟩ (.int .i64 (-9))).setCell ⟨go10, (x2_1 : Int).toNat * 7 + 5, none⟩ (.int .i64 0)).setCell ⟨go10, (x2_1 : Int).toNat * 7 + 6, none⟩ (.int .i64 0))) ?hg ?ho ?hn ?hr ?_; (case ho => rfl); (case hg => rfl); (case hn => rfl); (case hr => first | (go_simp; done) | (go_simp; rfl)); intro w13 hw; have hg : wr.grownBy w13 (some go10) := (by rw [hw]; exact HP12.2); have hp_ : Kd.R k64 64 w13 w0.heap.size (fun k_ => ((P0_0_ k_ ∨ P0_2_ k_) ∨ w.heap.size ≤ k_)) (.slice (some ⟨go10, 0, none⟩) xqa_1.length co3) y105 := (by rw [hw, Ny105.out]; exact HP12.1); clear HP12; have n0_ := zK (hp_); have n1_ := zK (Kd.R_over' (v := (.slice (some ⟨go10, 0, none⟩) xqa_1.length co3)) (zr HO_qc.out) (Kd.R_typed HO_qa.out) (by decide) hg); have n2_ := zK (blk_grown (g := gb103) (o := .cells #[.slice (some ⟨go10, 0, none⟩) xqa_1.length co3, .int .i64 a0_1, .slice Ao4 t104.length co4] 25 (0, 0)) (zb BK103.out) hg (Kd.R_ne HO_qa.out BK103.out (by decide))); have n3_ := zK ((by rw [hw]; exact zL (zL (zL (zL (zL (zL (zL (HB.out) GB10.out) GB10.out) GB10.out) GB10.out) GB10.out) GB10.out) GB10.out : Below w0.heap.size w0 w13)); have n4_ := zK (Kept.of_grown (S := (fun k_ => P0_0_ k_ ∨ P0_2_ k_)) hg (by repeat (first | (with_reducible first | exact HK.out | apply Kept.alloc | apply Kept.drewN | apply Kept.drew | refine Kept.setCell ?_ (.inr GW103.out) _) | exact HK.out)) (fun k_ e_ => (HO_qa.out.1 k_ e_))); clear HO_qa; clear HO_qc; clear BK103; clear HB; clear HK; have HO_qa := n0_; have HO_qc := n1_; have BK103 := n2_; have HB := n3_; have HK := n4_; clear n0_ n1_ n2_ n3_ n4_; clear hg hw hp_))
     (try simp only [← hlqa_1, ← hlqc_1])
     go_roundg k1
     case measure => have := HK1.out; omega
     case rel => exact ⟨(wrap64 (x2_1 + 1)), (y105), zz, H', ⟨by have := HK1.out; omega⟩, ⟨by (try simp only [hlqa_1]); (try simp only [hlqc_1]); (with_reducible repeat (first | apply zA | apply zB | apply zC)); exact HO_qa.out⟩, ⟨by (try simp only [hlqa_1]); (try simp only [hlqc_1]); (with_reducible repeat (first | apply zA | apply zB | apply zC)); exact HO_qc.out⟩, ⟨by (try simp only [hlqa_1]); (try simp only [hlqc_1]); (with_reducible repeat (first | refine zD ?_ _ | refine zE ?_ | refine zF ?_ _)); exact BK103.out⟩, ⟨by repeat (first | (with_reducible first | exact HK.out | apply Kept.alloc | apply Kept.drewN | apply Kept.drew | refine Kept.setCell ?_ (.inr GW103.out) _) | exact HK.out)⟩, ⟨by repeat (first | (with_reducible first | exact HB.out | apply zG | apply zH | apply zI | refine zL ?_ GE103.out) | exact HB.out)⟩⟩
    ·rw [if_neg c9] at H
     exact absurd H (by simp)
   ·rw [if_neg c8] at H
    have c8b0 : decide (x2_1 < (xqa_1.length : Int)) = false := decide_eq_false c8
    clear c8
    simp only [Option.some.injEq, Prod.mk.injEq] at H
    obtain ⟨rfl, rfl⟩ := H
    have hcz14_0 : wr.cell? ⟨gb103, 0, none⟩ = some (.slice Ao3 xqa_1.length co3) := (zQ BK103.out 0).trans rfl
    have hcz14_1 : wr.cell? ⟨gb103, 1, none⟩ = some (.int .i64 a0_1) := (zQ BK103.out 1).trans rfl
    have hcz14_2 : wr.cell? ⟨gb103, 2, none⟩ = some (.slice Ao4 t104.length co4) := (zQ BK103.out 2).trans rfl
    have hfz14_0 := zR BK103.out 0
    have hfz14_1 := zR BK103.out 1
    have hfz14_2 := zR BK103.out 2
    go_wp2
    first | go_end0 | ((try simp only [Exit.inBlock, Exit.then]); refine bodyPost_ret (results_none rfl _ _ _) rfl ?_)
    exact ⟨ze, (by first | exact (zr HO_qa.out) | (simp only [hlqa_1, hlqc_1]; exact (zr HO_qa.out))), (by first | exact (zr HO_qc.out) | (simp only [hlqa_1, hlqc_1]; exact (zr HO_qc.out))), by repeat (first | (with_reducible first | exact HB.out | apply zG | apply zH | apply zI | refine zL ?_ GE103.out) | exact HB.out), by repeat (first | (with_reducible first | exact HK.out | apply Kept.alloc | apply Kept.drewN | apply Kept.drew | refine Kept.setCell ?_ (.inr GW103.out) _) | exact HK.out)⟩
end Go.Proofs.Ytgkjpffbgnljeaa.QL
-- written by this session's program mprint.py: functions of the Go program, and their contracts
namespace Go.Proofs.Ytgkjpffbgnljeaa.QL
open Go.RowKit Go.Proofs.Ytgkjpffbgnljeaa.Au Go.Proofs.Ytgkjpffbgnljeaa.QT Go.Proofs.Ytgkjpffbgnljeaa.Man Go.Proofs.Ytgkjpffbgnljeaa.QA Go.Proofs.YtgkjpffbgnljeaaW.PrintWords Go.Proofs.YtgkjpffbgnljeaaW.PrintLast Go.Proofs.YtgkjpffbgnljeaaW.PrintMore
attribute [local go_sem] max2_int min2_int max_two min_two max_three min_three max_four min_four
set_option linter.unusedVariables false
set_option linter.unusedSimpArgs false
mutual
noncomputable def tollbarlaw17_TreeDeletes.j0 : Nat → Int → List (S50) → Bool → Bool → List (S64) → Int → List Int → Int → Int → Int → List (S64) → Int → List Int → List (S64) → Int → List Int → Option (Bool)
 | 0, _, _, _, _, _, _, _, _, _, _, _, _, _, _, _, _ => none
 | k + 1, x7, x8, x9, x33, xqa, xqb, xqc, xqd, xqe, xqf, xqg, xqh, xqi, xqj, xqk, xql => if x33 = true then (if x9 = true then ((tollbarlaw17_awake.f).bind fun t169 => (if t169 = true then ((tollbarlaw0_Num.f x7).bind fun t170 => (if t170 = 1702 then (if (xqj.length : Int) = 0 then ((tollbarlaw0_SameTree.f k xqg xqh xqi xqa xqb xqc).bind fun t171 => (some t171)) else (some false)) else (some false))) else (some false))) else ((tollbarlaw17_awake.f).bind fun t172 => (if t172 = true then ((tollbarlaw0_Num.f x7).bind fun t173 => (if t173 = 1700 then (if (xqj.length : Int) = 0 then ((tollbarlaw0_SameTree.f k xqg xqh xqi xqa xqb xqc).bind fun t174 => (some t174)) else (some false)) else (some false))) else (some false)))) else ((tollbarref17_All.f k xqj xqk xql).bind fun bt175 => ((tollbarlaw0_Num.f x7).bind fun t179 => (if t179 = 0 then (if bt175.2 = true then ((tollbarref17_Without.f k x8 xqd xqe xqf).bind fun t180 => ((tollbarlaw0_SameItems.f k bt175.1 t180).bind fun t183 => (tollbarlaw17_TreeDeletes.j1 k (!t183) xqa xqb xqc xqg xqh xqi xqj xqk xql))) else (tollbarlaw17_TreeDeletes.j1 k true xqa xqb xqc xqg xqh xqi xqj xqk xql)) else (tollbarlaw17_TreeDeletes.j1 k true xqa xqb xqc xqg xqh xqi xqj xqk xql))))
noncomputable def tollbarlaw17_TreeDeletes.j1 : Nat → Bool → List (S64) → Int → List Int → List (S64) → Int → List Int → List (S64) → Int → List Int → Option (Bool)
 | 0, _, _, _, _, _, _, _, _, _, _ => none
 | k + 1, x73, xqa, xqb, xqc, xqg, xqh, xqi, xqj, xqk, xql => if x73 = true then (some false) else ((tollbarlaw0_SpoilTree.f k xqj xqk xql).bind fun bt184 => ((tollbarlaw17_awake.f).bind fun t186 => (if t186 = true then ((tollbarlaw0_SameTree.f k xqg xqh xqi xqa xqb xqc).bind fun t187 => (some t187)) else (some false))))
end
noncomputable def tollbarlaw17_TreeDeletes.f (k : Nat) (l0_0 : List (S64)) (a0_1 : Int) (l0_2 : List Int) (a1_0 : Int) (a1_1 : Int) (a1_2 : Int) : Option (Bool) := (tollbarlaw0_CopyTree.f l0_0 a0_1 l0_2).bind fun bt147 => ((tree_Delete.f bt147.1 bt147.2.1 bt147.2.2 a1_0 a1_1 a1_2).bind fun bt155 => ((tollbarref17_All.f k l0_0 a0_1 l0_2).bind fun bt164 => (if bt164.2 = true then ((tollbarref17_There.f k bt164.1 a1_0 a1_1 a1_2).bind fun t168 => (tollbarlaw17_TreeDeletes.j0 k bt155.2.2.2 bt164.1 bt164.2 (!t168) l0_0 a0_1 l0_2 a1_0 a1_1 a1_2 bt147.1 bt147.2.1 bt147.2.2 bt155.1 bt155.2.1 bt155.2.2.1)) else (tollbarlaw17_TreeDeletes.j0 k bt155.2.2.2 bt164.1 bt164.2 true l0_0 a0_1 l0_2 a1_0 a1_1 a1_2 bt147.1 bt147.2.1 bt147.2.2 bt155.1 bt155.2.1 bt155.2.2.1))))
set_option maxHeartbeats 8000000 in
set_option maxRecDepth 100000 in
theorem tollbarlaw17_TreeDeletes.calls (k : Nat) (A0_0 : Option Addr) (c0_0 : Nat) (l0_0 : List (S64)) (a0_1 : Int) (A0_2 : Option Addr) (c0_2 : Nat) (l0_2 : List Int) (a1_0 : Int) (a1_1 : Int) (a1_2 : Int) (r : Bool) (w : World) (hr0_0 : Kd.C k64 w A0_0 l0_0.length l0_0) (hc0_0 : l0_0.length ≤ c0_0) (hr0_2 : Kd.C (Kd.int .i64) w A0_2 l0_2.length l0_2) (hc0_2 : l0_2.length ≤ c0_2) (h : tollbarlaw17_TreeDeletes.f k l0_0 a0_1 l0_2 a1_0 a1_1 a1_2 = some r) :
  Calls Try.prog 5 #[.agg #[.slice A0_0 l0_0.length c0_0, .int .i64 a0_1, .slice A0_2 l0_2.length c0_2], .agg #[.int .i64 a1_0, .int .i64 a1_1, .int .i64 a1_2]] w fun e w' => e = .returned (.bool r) ∧ Below w.heap.size w w' := by
 have hu25 := Try.underlying25
 have hu50 := Try.underlying50
 have HR0_0 := zK hr0_0
 have HC0_0 := zK hc0_0
 clear hr0_0 hc0_0
 have HR0_2 := zK hr0_2
 have HC0_2 := zK hc0_2
 clear hr0_2 hc0_2
 have HB := zK (Below.refl w.heap.size w)
 have H : ((tollbarlaw0_CopyTree.f l0_0 a0_1 l0_2).bind fun bt147 => ((tree_Delete.f bt147.1 bt147.2.1 bt147.2.2 a1_0 a1_1 a1_2).bind fun bt155 => ((tollbarref17_All.f k l0_0 a0_1 l0_2).bind fun bt164 => (if bt164.2 = true then ((tollbarref17_There.f k bt164.1 a1_0 a1_1 a1_2).bind fun t168 => (tollbarlaw17_TreeDeletes.j0 k bt155.2.2.2 bt164.1 bt164.2 (!t168) l0_0 a0_1 l0_2 a1_0 a1_1 a1_2 bt147.1 bt147.2.1 bt147.2.2 bt155.1 bt155.2.1 bt155.2.2.1)) else (tollbarlaw17_TreeDeletes.j0 k bt155.2.2.2 bt164.1 bt164.2 true l0_0 a0_1 l0_2 a1_0 a1_1 a1_2 bt147.1 bt147.2.1 bt147.2.2 bt155.1 bt155.2.1 bt155.2.2.1))))) = some r := h
 clear h
 replace H := yH.mp H
 obtain ⟨⟨t147, t150, t151⟩, A30, H⟩ := H
 replace H : ((tree_Delete.f t147 t150 t151 a1_0 a1_1 a1_2).bind fun bt155 => ((tollbarref17_All.f k l0_0 a0_1 l0_2).bind fun bt164 => (if bt164.2 = true then ((tollbarref17_There.f k bt164.1 a1_0 a1_1 a1_2).bind fun t168 => (tollbarlaw17_TreeDeletes.j0 k bt155.2.2.2 bt164.1 bt164.2 (!t168) l0_0 a0_1 l0_2 a1_0 a1_1 a1_2 t147 t150 t151 bt155.1 bt155.2.1 bt155.2.2.1)) else (tollbarlaw17_TreeDeletes.j0 k bt155.2.2.2 bt164.1 bt164.2 true l0_0 a0_1 l0_2 a1_0 a1_1 a1_2 t147 t150 t151 bt155.1 bt155.2.1 bt155.2.2.1)))) = some r := H
 have A3 := zK A30
 clear A30
 replace H := yH.mp H
 obtain ⟨⟨t155, t158, t159, t162⟩, A40, H⟩ := H
 replace H : ((tollbarref17_All.f k l0_0 a0_1 l0_2).bind fun bt164 => (if bt164.2 = true then ((tollbarref17_There.f k bt164.1 a1_0 a1_1 a1_2).bind fun t168 => (tollbarlaw17_TreeDeletes.j0 k t162 bt164.1 bt164.2 (!t168) l0_0 a0_1 l0_2 a1_0 a1_1 a1_2 t147 t150 t151 t155 t158 t159)) else (tollbarlaw17_TreeDeletes.j0 k t162 bt164.1 bt164.2 true l0_0 a0_1 l0_2 a1_0 a1_1 a1_2 t147 t150 t151 t155 t158 t159))) = some r := H
 have A4 := zK A40
 clear A40
 replace H := yH.mp H
 obtain ⟨⟨t164, t167⟩, A50, H⟩ := H
 replace H : (if t167 = true then ((tollbarref17_There.f k t164 a1_0 a1_1 a1_2).bind fun t168 => (tollbarlaw17_TreeDeletes.j0 k t162 t164 t167 (!t168) l0_0 a0_1 l0_2 a1_0 a1_1 a1_2 t147 t150 t151 t155 t158 t159)) else (tollbarlaw17_TreeDeletes.j0 k t162 t164 t167 true l0_0 a0_1 l0_2 a1_0 a1_1 a1_2 t147 t150 t151 t155 t158 t159)) = some r := H
 have A5 := zK A50
 clear A50
 have HC6 := zK H
 clear H
 go_enter Try.func5, Try.ntmps5
 go_upto_region 4 with (first | ((with_reducible refine gate_dst (N := 2) rfl ?_); (try (refine gate_guard (by rfl) ?_; dsimp only)); refine box_event ?hg (N := 2) ?hd (cs := #[.slice A0_0 l0_0.length c0_0, .int .i64 a0_1, .slice A0_2 l0_2.length c0_2]) (t := 25) ?hr ?_; (case hd => rfl); (case hg => rfl); (case hr => first | (go_simp; done) | (go_simp; rfl)); intro gb145 hg w7 hbox hb; have n0_ := zK (yF (zl HB.out) hb); have n1_ := zK (hbox); have n2_ := zK ((by rw [hg]; exact (yG (zl HB.out)) : w.heap.size ≤ gb145)); have n3_ := zK ((by rw [hg]; exact (yG (zl HB.out)) : w.heap.size ≤ gb145)); clear HB; have HB := n0_; have BK145 := n1_; have GW145 := n2_; have GE145 := n3_; clear n0_ n1_ n2_ n3_; clear hb hbox hg) | ((with_reducible refine gate_dst (N := 3) rfl ?_); (try (refine gate_guard (by rfl) ?_; dsimp only)); refine box_event ?hg (N := 3) ?hd (cs := #[.int .i64 a1_0, .int .i64 a1_1, .int .i64 a1_2]) (t := 50) ?hr ?_; (case hd => rfl); (case hg => rfl); (case hr => first | (go_simp; done) | (go_simp; rfl)); intro gb146 hg w8 hbox hb; have n0_ := zK (zP (g := gb145) (o := .cells #[.slice A0_0 l0_0.length c0_0, .int .i64 a0_1, .slice A0_2 l0_2.length c0_2] 25 (0, 0)) (zb BK145.out) hb); have n1_ := zK (yF (zl HB.out) hb); have n2_ := zK (hbox); have n3_ := zK ((by rw [hg]; exact (yG (zl HB.out)) : w.heap.size ≤ gb146)); have n4_ := zK ((by rw [hg]; exact (yG (zl HB.out)) : w.heap.size ≤ gb146)); have n5_ := zK ((by rw [hg]; exact zN (blk_lt (g := gb145) (o := .cells #[.slice A0_0 l0_0.length c0_0, .int .i64 a0_1, .slice A0_2 l0_2.length c0_2] 25 (0, 0)) (zb BK145.out)) : gb145 ≠ gb146)); have n6_ := zK ((by rw [hg]; exact Nat.ne_of_gt (blk_lt (g := gb145) (o := .cells #[.slice A0_0 l0_0.length c0_0, .int .i64 a0_1, .slice A0_2 l0_2.length c0_2] 25 (0, 0)) (zb BK145.out)) : gb146 ≠ gb145)); clear BK145; clear HB; have BK145 := n0_; have HB := n1_; have BK146 := n2_; have GW146 := n3_; have GE146 := n4_; have NB145_146 := n5_; have NB146_145 := n6_; clear n0_ n1_ n2_ n3_ n4_ n5_ n6_; clear hb hbox hg; have hnb9 := NB145_146.out; have hnc9 := NB146_145.out; have hcz10_0 : w8.cell? ⟨gb145, 0, none⟩ = some (.slice A0_0 l0_0.length c0_0) := (zQ BK145.out 0).trans rfl; have hcz10_1 : w8.cell? ⟨gb145, 1, none⟩ = some (.int .i64 a0_1) := (zQ BK145.out 1).trans rfl; have hcz10_2 : w8.cell? ⟨gb145, 2, none⟩ = some (.slice A0_2 l0_2.length c0_2) := (zQ BK145.out 2).trans rfl; have hfz10_0 := zR BK145.out 0; have hfz10_1 := zR BK145.out 1; have hfz10_2 := zR BK145.out 2) | ((with_reducible refine gate_callee (f := 11) rfl ?_); refine goesL_ (some 14) rfl rfl Try.func11 (by kernel_rfl) rfl #[.agg #[.slice A0_0 l0_0.length c0_0, .int .i64 a0_1, .slice A0_2 l0_2.length c0_2]] rfl zt ?_; (with_reducible refine (tollbarlaw0_CopyTree.calls _ _ l0_0 a0_1 _ _ l0_2 t147 t150 t151 _ ?side1 ?side2 ?side3 ?side4 A3.out).mono ?_); (case side1 => repeat (first | exact (yD HR0_0.out HB.out) | (with_reducible refine zS ?_ _) | (with_reducible refine zT ?_ _) | (with_reducible refine zU ?_))); (case side2 => exact HC0_0.out); (case side3 => repeat (first | exact (yD HR0_2.out HB.out) | (with_reducible refine zS ?_ _) | (with_reducible refine zT ?_ _) | (with_reducible refine zU ?_))); (case side4 => exact HC0_2.out); rintro e w11 ⟨v148, v152, rfl, ho0, ho1, hb⟩; refine ⟨_, rfl, ?_⟩; have n0_ := zK (zV ho0 (yG (zl HB.out))); have n1_ := zK (zV ho1 (yG (zl HB.out))); have n2_ := zK (zP (g := gb145) (o := .cells #[.slice A0_0 l0_0.length c0_0, .int .i64 a0_1, .slice A0_2 l0_2.length c0_2] 25 (0, 0)) (zb BK145.out) hb); have n3_ := zK (zP (g := gb146) (o := .cells #[.int .i64 a1_0, .int .i64 a1_1, .int .i64 a1_2] 50 (0, 0)) (zb BK146.out) hb); have n4_ := zK (yF (zl HB.out) hb); clear BK145; clear BK146; clear HB; have HO149 := n0_; have HO153 := n1_; have BK145 := n2_; have BK146 := n3_; have HB := n4_; clear n0_ n1_ n2_ n3_ n4_; (try clear hb); (try clear hb2); (try clear hk); (try clear hi); (try clear ho0); (try clear ho1)) | ((with_reducible refine gate_dst (N := 5) rfl ?_); (try (refine gate_guard (by rfl) ?_; dsimp only)); refine box_event ?hg (N := 5) ?hd (cs := #[.slice none 0 0, .int .i64 0, .slice none 0 0]) (t := 25) ?hr ?_; (case hd => rfl); (case hg => rfl); (case hr => first | (go_simp; done) | (go_simp; rfl)); intro gb154 hg w12 hbox hb; have n0_ := zK (zO (zr HO149.out) hb); have n1_ := zK (zO (zr HO153.out) hb); have n2_ := zK (zP (g := gb145) (o := .cells #[.slice A0_0 l0_0.length c0_0, .int .i64 a0_1, .slice A0_2 l0_2.length c0_2] 25 (0, 0)) (zb BK145.out) hb); have n3_ := zK (zP (g := gb146) (o := .cells #[.int .i64 a1_0, .int .i64 a1_1, .int .i64 a1_2] 50 (0, 0)) (zb BK146.out) hb); have n4_ := zK (yF (zl HB.out) hb); have n5_ := zK (hbox); have n6_ := zK ((by rw [hg]; exact (yG (zl HB.out)) : w.heap.size ≤ gb154)); have n7_ := zK ((by rw [hg]; exact (yG (zl HB.out)) : w.heap.size ≤ gb154)); have n8_ := zK ((by rw [hg]; exact zN (blk_lt (g := gb145) (o := .cells #[.slice A0_0 l0_0.length c0_0, .int .i64 a0_1, .slice A0_2 l0_2.length c0_2] 25 (0, 0)) (zb BK145.out)) : gb145 ≠ gb154)); have n9_ := zK ((by rw [hg]; exact Nat.ne_of_gt (blk_lt (g := gb145) (o := .cells #[.slice A0_0 l0_0.length c0_0, .int .i64 a0_1, .slice A0_2 l0_2.length c0_2] 25 (0, 0)) (zb BK145.out)) : gb154 ≠ gb145)); have n10_ := zK ((by rw [hg]; exact zN (blk_lt (g := gb146) (o := .cells #[.int .i64 a1_0, .int .i64 a1_1, .int .i64 a1_2] 50 (0, 0)) (zb BK146.out)) : gb146 ≠ gb154)); have n11_ := zK ((by rw [hg]; exact Nat.ne_of_gt (blk_lt (g := gb146) (o := .cells #[.int .i64 a1_0, .int .i64 a1_1, .int .i64 a1_2] 50 (0, 0)) (zb BK146.out)) : gb154 ≠ gb146)); clear HO149; clear HO153; clear BK145; clear BK146; clear HB; have HO149 := n0_; have HO153 := n1_; have BK145 := n2_; have BK146 := n3_; have HB := n4_; have BK154 := n5_; have GW154 := n6_; have GE154 := n7_; have NB145_154 := n8_; have NB154_145 := n9_; have NB146_154 := n10_; have NB154_146 := n11_; clear n0_ n1_ n2_ n3_ n4_ n5_ n6_ n7_ n8_ n9_ n10_ n11_; clear hb hbox hg; obtain ⟨Ao13, co13, eo13⟩ := yE HO149.out; subst eo13; have hnb14 := NB154_145.out; have hnc14 := NB145_154.out; have hnb15 := NB154_146.out; have hnc15 := NB146_154.out; have hcz16_0 : w12.cell? ⟨gb154, 0, none⟩ = some (.slice none 0 0) := (zQ BK154.out 0).trans rfl; have hcz16_1 : w12.cell? ⟨gb154, 1, none⟩ = some (.int .i64 0) := (zQ BK154.out 1).trans rfl; have hcz16_2 : w12.cell? ⟨gb154, 2, none⟩ = some (.slice none 0 0) := (zQ BK154.out 2).trans rfl; have hfz16_0 := zR BK154.out 0; have hfz16_1 := zR BK154.out 1; have hfz16_2 := zR BK154.out 2; obtain ⟨Ao17, co17, eo17⟩ := yE HO153.out; subst eo17; have hcz18_0 : w12.cell? ⟨gb146, 0, none⟩ = some (.int .i64 a1_0) := (zQ BK146.out 0).trans rfl; have hcz18_1 : w12.cell? ⟨gb146, 1, none⟩ = some (.int .i64 a1_1) := (zQ BK146.out 1).trans rfl; have hcz18_2 : w12.cell? ⟨gb146, 2, none⟩ = some (.int .i64 a1_2) := (zQ BK146.out 2).trans rfl; have hfz18_0 := zR BK146.out 0; have hfz18_1 := zR BK146.out 1; have hfz18_2 := zR BK146.out 2) | ((with_reducible refine gate_callee (f := 30) rfl ?_); refine goesL_ (some 18) rfl rfl Try.func30 (by kernel_rfl) rfl #[.agg #[.slice Ao13 t147.length co13, .int .i64 t150, .slice Ao17 t151.length co17], .agg #[.int .i64 a1_0, .int .i64 a1_1, .int .i64 a1_2]] rfl zt ?_; (with_reducible refine (tree_Delete.calls _ _ t147 t150 _ _ t151 a1_0 a1_1 a1_2 t155 t158 t159 t162 _ ?side1 ?side2 ?side3 ?side4 A4.out).mono ?_); (case side1 => refine (zX (e := 64) (base := w.heap.size) (ok := fun k_ => True) (n := t147.length) (c := co13) ?_).2.2; exact (by (with_reducible repeat (first | apply zA | apply zB | apply zC)); exact (Kd.R_mono (Kd.R_far (p := ⟨gb154, 2, none⟩) (Kd.R_far (p := ⟨gb154, 1, none⟩) (Kd.R_far (p := ⟨gb154, 0, none⟩) (Kd.R_types HO149.out BK154.out (by decide)) (fun _ hk => hk.2) (.slice Ao13 t147.length co13)) (fun _ hk => hk.2) (.int .i64 t150)) (fun _ hk => hk.2) (.slice Ao17 t151.length co17)) (fun _ h_ => h_.1)))); (case side2 => exact (zX HO149.out).2.1); (case side3 => refine (zX (e := 3) (base := w.heap.size) (ok := fun k_ => True) (n := t151.length) (c := co17) ?_).2.2; exact (by (with_reducible repeat (first | apply zA | apply zB | apply zC)); exact (Kd.R_mono (Kd.R_far (p := ⟨gb154, 2, none⟩) (Kd.R_far (p := ⟨gb154, 1, none⟩) (Kd.R_far (p := ⟨gb154, 0, none⟩) (Kd.R_types HO153.out BK154.out (by decide)) (fun _ hk => hk.2) (.slice Ao13 t147.length co13)) (fun _ hk => hk.2) (.int .i64 t150)) (fun _ hk => hk.2) (.slice Ao17 t151.length co17)) (fun _ h_ => h_.1)))); (case side4 => exact (zX HO153.out).2.1); rintro e w19 ⟨v156, v160, rfl, ho0, ho1, hb⟩; refine ⟨_, rfl, ?_⟩; have n0_ := zK (yC (by (with_reducible repeat (first | apply zA | apply zB | apply zC)); exact (Kd.R_mono (Kd.R_far (p := ⟨gb154, 2, none⟩) (Kd.R_far (p := ⟨gb154, 1, none⟩) (Kd.R_far (p := ⟨gb154, 0, none⟩) (Kd.R_types HO149.out BK154.out (by decide)) (fun _ hk => hk.2) (.slice Ao13 t147.length co13)) (fun _ hk => hk.2) (.int .i64 t150)) (fun _ hk => hk.2) (.slice Ao17 t151.length co17)) (fun _ h_ => h_.1))) (Kd.R_base ho0) hb); have n1_ := zK (yC (by (with_reducible repeat (first | apply zA | apply zB | apply zC)); exact (Kd.R_mono (Kd.R_far (p := ⟨gb154, 2, none⟩) (Kd.R_far (p := ⟨gb154, 1, none⟩) (Kd.R_far (p := ⟨gb154, 0, none⟩) (Kd.R_types HO153.out BK154.out (by decide)) (fun _ hk => hk.2) (.slice Ao13 t147.length co13)) (fun _ hk => hk.2) (.int .i64 t150)) (fun _ hk => hk.2) (.slice Ao17 t151.length co17)) (fun _ h_ => h_.1))) (Kd.R_base ho1) hb); have n2_ := zK (zV (zW ho0 (yB (by (with_reducible repeat (first | apply zA | apply zB | apply zC)); exact (Kd.R_mono (Kd.R_far (p := ⟨gb154, 2, none⟩) (Kd.R_far (p := ⟨gb154, 1, none⟩) (Kd.R_far (p := ⟨gb154, 0, none⟩) (Kd.R_types HO149.out BK154.out (by decide)) (fun _ hk => hk.2) (.slice Ao13 t147.length co13)) (fun _ hk => hk.2) (.int .i64 t150)) (fun _ hk => hk.2) (.slice Ao17 t151.length co17)) (fun _ h_ => h_.1))))) (yG (zl HB.out))); have n3_ := zK (zV (zW ho1 (yB (by (with_reducible repeat (first | apply zA | apply zB | apply zC)); exact (Kd.R_mono (Kd.R_far (p := ⟨gb154, 2, none⟩) (Kd.R_far (p := ⟨gb154, 1, none⟩) (Kd.R_far (p := ⟨gb154, 0, none⟩) (Kd.R_types HO153.out BK154.out (by decide)) (fun _ hk => hk.2) (.slice Ao13 t147.length co13)) (fun _ hk => hk.2) (.int .i64 t150)) (fun _ hk => hk.2) (.slice Ao17 t151.length co17)) (fun _ h_ => h_.1))))) (yG (zl HB.out))); have n4_ := zK (zP (g := gb145) (o := .cells #[.slice A0_0 l0_0.length c0_0, .int .i64 a0_1, .slice A0_2 l0_2.length c0_2] 25 (0, 0)) (by (with_reducible repeat (first | refine zD ?_ _ | refine zE ?_ | refine zF ?_ _)); refine blk_far ?_ NB145_154.out _; (with_reducible repeat (first | refine zD ?_ _ | refine zE ?_ | refine zF ?_ _)); refine blk_far ?_ NB145_154.out _; (with_reducible repeat (first | refine zD ?_ _ | refine zE ?_ | refine zF ?_ _)); refine blk_far ?_ NB145_154.out _; (with_reducible repeat (first | refine zD ?_ _ | refine zE ?_ | refine zF ?_ _)); exact BK145.out) hb); have n5_ := zK (zP (g := gb146) (o := .cells #[.int .i64 a1_0, .int .i64 a1_1, .int .i64 a1_2] 50 (0, 0)) (by (with_reducible repeat (first | refine zD ?_ _ | refine zE ?_ | refine zF ?_ _)); refine blk_far ?_ NB146_154.out _; (with_reducible repeat (first | refine zD ?_ _ | refine zE ?_ | refine zF ?_ _)); refine blk_far ?_ NB146_154.out _; (with_reducible repeat (first | refine zD ?_ _ | refine zE ?_ | refine zF ?_ _)); refine blk_far ?_ NB146_154.out _; (with_reducible repeat (first | refine zD ?_ _ | refine zE ?_ | refine zF ?_ _)); exact BK146.out) hb); have n6_ := zK (zP (g := gb154) (o := .cells #[.slice Ao13 t147.length co13, .int .i64 t150, .slice Ao17 t151.length co17] 25 (0, 0)) (by (with_reducible repeat (first | refine zD ?_ _ | refine zE ?_ | refine zF ?_ _)); refine blk_put (cs := #[.slice Ao13 t147.length co13, .int .i64 t150, .slice none 0 0]) ?_ 2 _ rfl; (with_reducible repeat (first | refine zD ?_ _ | refine zE ?_ | refine zF ?_ _)); refine blk_put (cs := #[.slice Ao13 t147.length co13, .int .i64 0, .slice none 0 0]) ?_ 1 _ rfl; (with_reducible repeat (first | refine zD ?_ _ | refine zE ?_ | refine zF ?_ _)); refine blk_put (cs := #[.slice none 0 0, .int .i64 0, .slice none 0 0]) ?_ 0 _ rfl; (with_reducible repeat (first | refine zD ?_ _ | refine zE ?_ | refine zF ?_ _)); exact BK154.out) hb); have n7_ := zK (yF (zl HB.out) hb); clear HO149; clear HO153; clear BK145; clear BK146; clear BK154; clear HB; have HO149 := n0_; have HO153 := n1_; have HO157 := n2_; have HO161 := n3_; have BK145 := n4_; have BK146 := n5_; have BK154 := n6_; have HB := n7_; clear n0_ n1_ n2_ n3_ n4_ n5_ n6_ n7_; (try clear hb); (try clear hb2); (try clear hk); (try clear hi); (try clear ho0); (try clear ho1)) | ((with_reducible refine gate_dst (N := 6) rfl ?_); (try (refine gate_guard (by rfl) ?_; dsimp only)); refine box_event ?hg (N := 6) ?hd (cs := #[.slice none 0 0, .int .i64 0, .slice none 0 0]) (t := 25) ?hr ?_; (case hd => rfl); (case hg => rfl); (case hr => first | (go_simp; done) | (go_simp; rfl)); intro gb163 hg w20 hbox hb; have n0_ := zK (zO (zr HO149.out) hb); have n1_ := zK (zO (zr HO153.out) hb); have n2_ := zK (zO (zr HO157.out) hb); have n3_ := zK (zO (zr HO161.out) hb); have n4_ := zK (zP (g := gb145) (o := .cells #[.slice A0_0 l0_0.length c0_0, .int .i64 a0_1, .slice A0_2 l0_2.length c0_2] 25 (0, 0)) (zb BK145.out) hb); have n5_ := zK (zP (g := gb146) (o := .cells #[.int .i64 a1_0, .int .i64 a1_1, .int .i64 a1_2] 50 (0, 0)) (zb BK146.out) hb); have n6_ := zK (zP (g := gb154) (o := .cells #[.slice Ao13 t147.length co13, .int .i64 t150, .slice Ao17 t151.length co17] 25 (0, 0)) (zb BK154.out) hb); have n7_ := zK (yF (zl HB.out) hb); have n8_ := zK (hbox); have n9_ := zK ((by rw [hg]; exact (yG (zl HB.out)) : w.heap.size ≤ gb163)); have n10_ := zK ((by rw [hg]; exact (yG (zl HB.out)) : w.heap.size ≤ gb163)); have n11_ := zK ((by rw [hg]; exact zN (blk_lt (g := gb145) (o := .cells #[.slice A0_0 l0_0.length c0_0, .int .i64 a0_1, .slice A0_2 l0_2.length c0_2] 25 (0, 0)) (zb BK145.out)) : gb145 ≠ gb163)); have n12_ := zK ((by rw [hg]; exact Nat.ne_of_gt (blk_lt (g := gb145) (o := .cells #[.slice A0_0 l0_0.length c0_0, .int .i64 a0_1, .slice A0_2 l0_2.length c0_2] 25 (0, 0)) (zb BK145.out)) : gb163 ≠ gb145)); have n13_ := zK ((by rw [hg]; exact zN (blk_lt (g := gb146) (o := .cells #[.int .i64 a1_0, .int .i64 a1_1, .int .i64 a1_2] 50 (0, 0)) (zb BK146.out)) : gb146 ≠ gb163)); have n14_ := zK ((by rw [hg]; exact Nat.ne_of_gt (blk_lt (g := gb146) (o := .cells #[.int .i64 a1_0, .int .i64 a1_1, .int .i64 a1_2] 50 (0, 0)) (zb BK146.out)) : gb163 ≠ gb146)); have n15_ := zK ((by rw [hg]; exact zN (blk_lt (g := gb154) (o := .cells #[.slice Ao13 t147.length co13, .int .i64 t150, .slice Ao17 t151.length co17] 25 (0, 0)) (zb BK154.out)) : gb154 ≠ gb163)); have n16_ := zK ((by rw [hg]; exact Nat.ne_of_gt (blk_lt (g := gb154) (o := .cells #[.slice Ao13 t147.length co13, .int .i64 t150, .slice Ao17 t151.length co17] 25 (0, 0)) (zb BK154.out)) : gb163 ≠ gb154)); clear HO149; clear HO153; clear HO157; clear HO161; clear BK145; clear BK146; clear BK154; clear HB; have HO149 := n0_; have HO153 := n1_; have HO157 := n2_; have HO161 := n3_; have BK145 := n4_; have BK146 := n5_; have BK154 := n6_; have HB := n7_; have BK163 := n8_; have GW163 := n9_; have GE163 := n10_; have NB145_163 := n11_; have NB163_145 := n12_; have NB146_163 := n13_; have NB163_146 := n14_; have NB154_163 := n15_; have NB163_154 := n16_; clear n0_ n1_ n2_ n3_ n4_ n5_ n6_ n7_ n8_ n9_ n10_ n11_ n12_ n13_ n14_ n15_ n16_; clear hb hbox hg; obtain ⟨Ao21, co21, eo21⟩ := yE HO157.out; subst eo21; have hnb22 := NB163_145.out; have hnc22 := NB145_163.out; have hnb23 := NB163_146.out; have hnc23 := NB146_163.out; have hnb24 := NB163_154.out; have hnc24 := NB154_163.out; have hcz25_0 : w20.cell? ⟨gb163, 0, none⟩ = some (.slice none 0 0) := (zQ BK163.out 0).trans rfl; have hcz25_1 : w20.cell? ⟨gb163, 1, none⟩ = some (.int .i64 0) := (zQ BK163.out 1).trans rfl; have hcz25_2 : w20.cell? ⟨gb163, 2, none⟩ = some (.slice none 0 0) := (zQ BK163.out 2).trans rfl; have hfz25_0 := zR BK163.out 0; have hfz25_1 := zR BK163.out 1; have hfz25_2 := zR BK163.out 2; obtain ⟨Ao26, co26, eo26⟩ := yE HO161.out; subst eo26; have hcz27_0 : w20.cell? ⟨gb145, 0, none⟩ = some (.slice A0_0 l0_0.length c0_0) := (zQ BK145.out 0).trans rfl; have hcz27_1 : w20.cell? ⟨gb145, 1, none⟩ = some (.int .i64 a0_1) := (zQ BK145.out 1).trans rfl; have hcz27_2 : w20.cell? ⟨gb145, 2, none⟩ = some (.slice A0_2 l0_2.length c0_2) := (zQ BK145.out 2).trans rfl; have hfz27_0 := zR BK145.out 0; have hfz27_1 := zR BK145.out 1; have hfz27_2 := zR BK145.out 2) | ((with_reducible refine gate_callee (f := 12) rfl ?_); refine goesL_ (some 23) rfl rfl Try.func12 (by kernel_rfl) rfl #[.agg #[.slice A0_0 l0_0.length c0_0, .int .i64 a0_1, .slice A0_2 l0_2.length c0_2]] rfl zt ?_; (with_reducible refine (tollbarref17_All.calls k _ _ l0_0 a0_1 _ _ l0_2 t164 t167 _ ?side1 ?side2 ?side3 ?side4 A5.out).mono ?_); (case side1 => exact yD HR0_0.out (zl HB.out)); (case side2 => exact HC0_0.out); (case side3 => exact yD HR0_2.out (zl HB.out)); (case side4 => exact HC0_2.out); rintro e w28 ⟨v165, rfl, ho0, hb⟩; refine ⟨_, rfl, ?_⟩; have n0_ := zK (zO (by (with_reducible repeat (first | apply zA | apply zB | apply zC)); exact (Kd.R_mono (Kd.R_far (p := ⟨gb163, 2, none⟩) (Kd.R_far (p := ⟨gb163, 1, none⟩) (Kd.R_far (p := ⟨gb163, 0, none⟩) (Kd.R_types HO149.out BK163.out (by decide)) (fun _ hk => hk.2) (.slice Ao21 t155.length co21)) (fun _ hk => hk.2) (.int .i64 t158)) (fun _ hk => hk.2) (.slice Ao26 t159.length co26)) (fun _ h_ => h_.1))) hb); have n1_ := zK (zO (by (with_reducible repeat (first | apply zA | apply zB | apply zC)); exact (Kd.R_mono (Kd.R_far (p := ⟨gb163, 2, none⟩) (Kd.R_far (p := ⟨gb163, 1, none⟩) (Kd.R_far (p := ⟨gb163, 0, none⟩) (Kd.R_types HO153.out BK163.out (by decide)) (fun _ hk => hk.2) (.slice Ao21 t155.length co21)) (fun _ hk => hk.2) (.int .i64 t158)) (fun _ hk => hk.2) (.slice Ao26 t159.length co26)) (fun _ h_ => h_.1))) hb); have n2_ := zK (zO (by (with_reducible repeat (first | apply zA | apply zB | apply zC)); exact (Kd.R_mono (Kd.R_far (p := ⟨gb163, 2, none⟩) (Kd.R_far (p := ⟨gb163, 1, none⟩) (Kd.R_far (p := ⟨gb163, 0, none⟩) (Kd.R_types HO157.out BK163.out (by decide)) (fun _ hk => hk.2) (.slice Ao21 t155.length co21)) (fun _ hk => hk.2) (.int .i64 t158)) (fun _ hk => hk.2) (.slice Ao26 t159.length co26)) (fun _ h_ => h_.1))) hb); have n3_ := zK (zO (by (with_reducible repeat (first | apply zA | apply zB | apply zC)); exact (Kd.R_mono (Kd.R_far (p := ⟨gb163, 2, none⟩) (Kd.R_far (p := ⟨gb163, 1, none⟩) (Kd.R_far (p := ⟨gb163, 0, none⟩) (Kd.R_types HO161.out BK163.out (by decide)) (fun _ hk => hk.2) (.slice Ao21 t155.length co21)) (fun _ hk => hk.2) (.int .i64 t158)) (fun _ hk => hk.2) (.slice Ao26 t159.length co26)) (fun _ h_ => h_.1))) hb); have n4_ := zK (zV (Kd.R_newB ho0 (g := gb146) (o := .cells #[.int .i64 a1_0, .int .i64 a1_1, .int .i64 a1_2] 50 (0, 0)) (by (with_reducible repeat (first | refine zD ?_ _ | refine zE ?_ | refine zF ?_ _)); refine blk_far ?_ NB146_163.out _; (with_reducible repeat (first | refine zD ?_ _ | refine zE ?_ | refine zF ?_ _)); refine blk_far ?_ NB146_163.out _; (with_reducible repeat (first | refine zD ?_ _ | refine zE ?_ | refine zF ?_ _)); refine blk_far ?_ NB146_163.out _; (with_reducible repeat (first | refine zD ?_ _ | refine zE ?_ | refine zF ?_ _)); exact BK146.out)) (yG (zl HB.out))); have n5_ := zK (zP (g := gb145) (o := .cells #[.slice A0_0 l0_0.length c0_0, .int .i64 a0_1, .slice A0_2 l0_2.length c0_2] 25 (0, 0)) (by (with_reducible repeat (first | refine zD ?_ _ | refine zE ?_ | refine zF ?_ _)); refine blk_far ?_ NB145_163.out _; (with_reducible repeat (first | refine zD ?_ _ | refine zE ?_ | refine zF ?_ _)); refine blk_far ?_ NB145_163.out _; (with_reducible repeat (first | refine zD ?_ _ | refine zE ?_ | refine zF ?_ _)); refine blk_far ?_ NB145_163.out _; (with_reducible repeat (first | refine zD ?_ _ | refine zE ?_ | refine zF ?_ _)); exact BK145.out) hb); have n6_ := zK (zP (g := gb146) (o := .cells #[.int .i64 a1_0, .int .i64 a1_1, .int .i64 a1_2] 50 (0, 0)) (by (with_reducible repeat (first | refine zD ?_ _ | refine zE ?_ | refine zF ?_ _)); refine blk_far ?_ NB146_163.out _; (with_reducible repeat (first | refine zD ?_ _ | refine zE ?_ | refine zF ?_ _)); refine blk_far ?_ NB146_163.out _; (with_reducible repeat (first | refine zD ?_ _ | refine zE ?_ | refine zF ?_ _)); refine blk_far ?_ NB146_163.out _; (with_reducible repeat (first | refine zD ?_ _ | refine zE ?_ | refine zF ?_ _)); exact BK146.out) hb); have n7_ := zK (zP (g := gb154) (o := .cells #[.slice Ao13 t147.length co13, .int .i64 t150, .slice Ao17 t151.length co17] 25 (0, 0)) (by (with_reducible repeat (first | refine zD ?_ _ | refine zE ?_ | refine zF ?_ _)); refine blk_far ?_ NB154_163.out _; (with_reducible repeat (first | refine zD ?_ _ | refine zE ?_ | refine zF ?_ _)); refine blk_far ?_ NB154_163.out _; (with_reducible repeat (first | refine zD ?_ _ | refine zE ?_ | refine zF ?_ _)); refine blk_far ?_ NB154_163.out _; (with_reducible repeat (first | refine zD ?_ _ | refine zE ?_ | refine zF ?_ _)); exact BK154.out) hb); have n8_ := zK (zP (g := gb163) (o := .cells #[.slice Ao21 t155.length co21, .int .i64 t158, .slice Ao26 t159.length co26] 25 (0, 0)) (by (with_reducible repeat (first | refine zD ?_ _ | refine zE ?_ | refine zF ?_ _)); refine blk_put (cs := #[.slice Ao21 t155.length co21, .int .i64 t158, .slice none 0 0]) ?_ 2 _ rfl; (with_reducible repeat (first | refine zD ?_ _ | refine zE ?_ | refine zF ?_ _)); refine blk_put (cs := #[.slice Ao21 t155.length co21, .int .i64 0, .slice none 0 0]) ?_ 1 _ rfl; (with_reducible repeat (first | refine zD ?_ _ | refine zE ?_ | refine zF ?_ _)); refine blk_put (cs := #[.slice none 0 0, .int .i64 0, .slice none 0 0]) ?_ 0 _ rfl; (with_reducible repeat (first | refine zD ?_ _ | refine zE ?_ | refine zF ?_ _)); exact BK163.out) hb); have n9_ := zK (yF (zl HB.out) hb); clear HO149; clear HO153; clear HO157; clear HO161; clear BK145; clear BK146; clear BK154; clear BK163; clear HB; have HO149 := n0_; have HO153 := n1_; have HO157 := n2_; have HO161 := n3_; have HO166 := n4_; have BK145 := n5_; have BK146 := n6_; have BK154 := n7_; have BK163 := n8_; have HB := n9_; clear n0_ n1_ n2_ n3_ n4_ n5_ n6_ n7_ n8_ n9_; (try clear hb); (try clear hb2); (try clear hk); (try clear hi); (try clear ho0)))
 (try simp only [Act.put, zY, zZ, yA])
 go_cut [33] (fun v33 wc => ∃ (kq : Nat) (x33_5 : Bool), v33 = .bool x33_5 ∧ Aside0 (tollbarlaw17_TreeDeletes.j0 kq t162 t164 t167 x33_5 l0_0 a0_1 l0_2 a1_0 a1_1 a1_2 t147 t150 t151 t155 t158 t159 = some r) ∧ Aside0 (kq ≤ k) ∧ Aside0 (Kd.R k50 50 wc w.heap.size (fun k_ => k_ ≠ gb146) v165 t164) ∧ Aside0 (Kd.R k64 64 wc w.heap.size (fun k_ => some k_ ≠ ((.slice Ao21 t155.length co21) : Value).ownBlock) (.slice Ao13 t147.length co13) t147) ∧ Aside0 (Kd.R (Kd.int .i64) 3 wc w.heap.size (fun k_ => some k_ ≠ ((.slice Ao26 t159.length co26) : Value).ownBlock) (.slice Ao17 t151.length co17) t151) ∧ Aside0 (Kd.R k64 64 wc w.heap.size (fun k_ => some k_ ≠ ((.slice Ao13 t147.length co13) : Value).ownBlock) (.slice Ao21 t155.length co21) t155) ∧ Aside0 (Kd.R (Kd.int .i64) 3 wc w.heap.size (fun k_ => some k_ ≠ ((.slice Ao17 t151.length co17) : Value).ownBlock) (.slice Ao26 t159.length co26) t159) ∧ Aside0 (wc.heap[gb145]? = some (.cells #[(.slice A0_0 l0_0.length c0_0), .int .i64 a0_1, (.slice A0_2 l0_2.length c0_2)] 25 (0, 0))) ∧ Aside0 (wc.heap[gb146]? = some (.cells #[.int .i64 a1_0, .int .i64 a1_1, .int .i64 a1_2] 50 (0, 0))) ∧ Aside0 (wc.heap[gb154]? = some (.cells #[(.slice Ao13 t147.length co13), .int .i64 t150, (.slice Ao17 t151.length co17)] 25 (0, 0))) ∧ Aside0 (wc.heap[gb163]? = some (.cells #[(.slice Ao21 t155.length co21), .int .i64 t158, (.slice Ao26 t159.length co26)] 25 (0, 0))) ∧ Aside0 (Below w.heap.size w wc))
 case first =>
  have H := HC6.out
  clear HC6
  by_cases c29 : t167 = true
  ·subst c29
   have H1 : ((tollbarref17_There.f k t164 a1_0 a1_1 a1_2).bind fun t168 => (tollbarlaw17_TreeDeletes.j0 k t162 t164 true (!t168) l0_0 a0_1 l0_2 a1_0 a1_1 a1_2 t147 t150 t151 t155 t158 t159)) = some r := by rw [if_pos rfl] at H; exact H
   clear H
   have H := H1
   clear H1
   replace H := yH.mp H
   obtain ⟨t168, A300, H⟩ := H
   replace H : (tollbarlaw17_TreeDeletes.j0 k t162 t164 true (!t168) l0_0 a0_1 l0_2 a1_0 a1_1 a1_2 t147 t150 t151 t155 t158 t159) = some r := H
   have A30 := zK A300
   clear A300
   have H' := zK H
   clear H
   have hnb31 := NB146_145.out
   have hnc31 := NB145_146.out
   have hnb32 := NB146_154.out
   have hnc32 := NB154_146.out
   have hnb33 := NB146_163.out
   have hnc33 := NB163_146.out
   have hcz34_0 : w28.cell? ⟨gb146, 0, none⟩ = some (.int .i64 a1_0) := (zQ BK146.out 0).trans rfl
   have hcz34_1 : w28.cell? ⟨gb146, 1, none⟩ = some (.int .i64 a1_1) := (zQ BK146.out 1).trans rfl
   have hcz34_2 : w28.cell? ⟨gb146, 2, none⟩ = some (.int .i64 a1_2) := (zQ BK146.out 2).trans rfl
   have hfz34_0 := zR BK146.out 0
   have hfz34_1 := zR BK146.out 1
   have hfz34_2 := zR BK146.out 2
   obtain ⟨Ao35, co35, eo35⟩ := yE HO166.out
   subst eo35
   go_wp2_with (first | (go_at_call 31; (with_reducible refine (tollbarref17_There.calls k _ _ t164 a1_0 a1_1 a1_2 t168 _ ?side1 ?side2 A30.out).mono ?_); (case side1 => exact zc (zX HO166.out).2.2); (case side2 => exact (zX HO166.out).2.1); rintro e w36 ⟨rfl, hb⟩; have n0_ := zK (zO (zr HO149.out) hb); have n1_ := zK (zO (zr HO153.out) hb); have n2_ := zK (zO (zr HO157.out) hb); have n3_ := zK (zO (zr HO161.out) hb); have n4_ := zK (zO (zr HO166.out) hb); have n5_ := zK (zP (g := gb145) (o := .cells #[.slice A0_0 l0_0.length c0_0, .int .i64 a0_1, .slice A0_2 l0_2.length c0_2] 25 (0, 0)) (zb BK145.out) hb); have n6_ := zK (zP (g := gb146) (o := .cells #[.int .i64 a1_0, .int .i64 a1_1, .int .i64 a1_2] 50 (0, 0)) (zb BK146.out) hb); have n7_ := zK (zP (g := gb154) (o := .cells #[.slice Ao13 t147.length co13, .int .i64 t150, .slice Ao17 t151.length co17] 25 (0, 0)) (zb BK154.out) hb); have n8_ := zK (zP (g := gb163) (o := .cells #[.slice Ao21 t155.length co21, .int .i64 t158, .slice Ao26 t159.length co26] 25 (0, 0)) (zb BK163.out) hb); have n9_ := zK (yF (zl HB.out) hb); clear HO149; clear HO153; clear HO157; clear HO161; clear HO166; clear BK145; clear BK146; clear BK154; clear BK163; clear HB; have HO149 := n0_; have HO153 := n1_; have HO157 := n2_; have HO161 := n3_; have HO166 := n4_; have BK145 := n5_; have BK146 := n6_; have BK154 := n7_; have BK163 := n8_; have HB := n9_; clear n0_ n1_ n2_ n3_ n4_ n5_ n6_ n7_ n8_ n9_; (try clear hb); (try clear hb2); (try clear hk); (try clear hi)))
   go_meet
   case rel => exact ⟨_, (!t168), zz, H', ⟨by first | omega | exact Nat.le_refl _⟩, ⟨by (with_reducible repeat (first | apply zA | apply zB | apply zC)); exact Kd.R_mono HO166.out (fun _ hk => hk.2)⟩, ⟨by (with_reducible repeat (first | apply zA | apply zB | apply zC)); exact Kd.R_mono HO149.out (fun _ hk => hk.2)⟩, ⟨by (with_reducible repeat (first | apply zA | apply zB | apply zC)); exact Kd.R_mono HO153.out (fun _ hk => hk.2)⟩, ⟨by (with_reducible repeat (first | apply zA | apply zB | apply zC)); exact Kd.R_mono HO157.out (fun _ hk => hk.2)⟩, ⟨by (with_reducible repeat (first | apply zA | apply zB | apply zC)); exact Kd.R_mono HO161.out (fun _ hk => hk.2)⟩, ⟨by (with_reducible repeat (first | refine zD ?_ _ | refine zE ?_ | refine zF ?_ _)); exact BK145.out⟩, ⟨by (with_reducible repeat (first | refine zD ?_ _ | refine zE ?_ | refine zF ?_ _)); exact BK146.out⟩, ⟨by (with_reducible repeat (first | refine zD ?_ _ | refine zE ?_ | refine zF ?_ _)); exact BK154.out⟩, ⟨by (with_reducible repeat (first | refine zD ?_ _ | refine zE ?_ | refine zF ?_ _)); exact BK163.out⟩, ⟨by repeat (first | (with_reducible first | exact HB.out | apply zG | apply zH | apply zI | refine zL ?_ GE145.out | refine zL ?_ GE146.out | refine zL ?_ GE154.out | refine zL ?_ GE163.out) | exact HB.out)⟩⟩
  ·replace c29 := Bool.eq_false_iff.mpr c29
   subst c29
   have H1 : (tollbarlaw17_TreeDeletes.j0 k t162 t164 false true l0_0 a0_1 l0_2 a1_0 a1_1 a1_2 t147 t150 t151 t155 t158 t159) = some r := by rw [if_neg (show ¬ (false = true) by decide)] at H; exact H
   clear H
   have H := H1
   clear H1
   have H' := zK H
   clear H
   go_wp2
   go_meet
   case rel => exact ⟨_, (true), zz, H', ⟨by first | omega | exact Nat.le_refl _⟩, ⟨by (with_reducible repeat (first | apply zA | apply zB | apply zC)); exact Kd.R_mono HO166.out (fun _ hk => hk.2)⟩, ⟨by (with_reducible repeat (first | apply zA | apply zB | apply zC)); exact Kd.R_mono HO149.out (fun _ hk => hk.2)⟩, ⟨by (with_reducible repeat (first | apply zA | apply zB | apply zC)); exact Kd.R_mono HO153.out (fun _ hk => hk.2)⟩, ⟨by (with_reducible repeat (first | apply zA | apply zB | apply zC)); exact Kd.R_mono HO157.out (fun _ hk => hk.2)⟩, ⟨by (with_reducible repeat (first | apply zA | apply zB | apply zC)); exact Kd.R_mono HO161.out (fun _ hk => hk.2)⟩, ⟨by (with_reducible repeat (first | refine zD ?_ _ | refine zE ?_ | refine zF ?_ _)); exact BK145.out⟩, ⟨by (with_reducible repeat (first | refine zD ?_ _ | refine zE ?_ | refine zF ?_ _)); exact BK146.out⟩, ⟨by (with_reducible repeat (first | refine zD ?_ _ | refine zE ?_ | refine zF ?_ _)); exact BK154.out⟩, ⟨by (with_reducible repeat (first | refine zD ?_ _ | refine zE ?_ | refine zF ?_ _)); exact BK163.out⟩, ⟨by repeat (first | (with_reducible first | exact HB.out | apply zG | apply zH | apply zI | refine zL ?_ GE145.out | refine zL ?_ GE146.out | refine zL ?_ GE154.out | refine zL ?_ GE163.out) | exact HB.out)⟩⟩
 case rest =>
  clear HC6
  try clear c1
  try clear c2
  try clear p2
  try clear c3
  try clear c5
  try clear c9
  try clear c11
  try clear c12
  try clear c14
  try clear c15
  try clear c22
  try clear c23
  try clear c24
  try clear c29
  try clear c30
  try clear c31
  try clear c32
  try clear c33
  try clear hcz10_0
  try clear hcz10_1
  try clear hcz10_2
  try clear hcz16_0
  try clear hcz16_1
  try clear hcz16_2
  try clear hcz18_0
  try clear hcz18_1
  try clear hcz18_2
  try clear hcz25_0
  try clear hcz25_1
  try clear hcz25_2
  try clear hcz27_0
  try clear hcz27_1
  try clear hcz27_2
  try clear hcz34_0
  try clear hcz34_1
  try clear hcz34_2
  try clear hfz10_0
  try clear hfz10_1
  try clear hfz10_2
  try clear hfz16_0
  try clear hfz16_1
  try clear hfz16_2
  try clear hfz18_0
  try clear hfz18_1
  try clear hfz18_2
  try clear hfz25_0
  try clear hfz25_1
  try clear hfz25_2
  try clear hfz27_0
  try clear hfz27_1
  try clear hfz27_2
  try clear hfz34_0
  try clear hfz34_1
  try clear hfz34_2
  obtain ⟨kq, x33_5, rfl, HA, HJ5, HO_8, HO_qg, HO_qi, HO_qj, HO_ql, BK145, BK146, BK154, BK163, HB⟩ := hcut
  cases kq with
  | zero => exact absurd HA.out (by simp [tollbarlaw17_TreeDeletes.j0])
  | succ kj5 =>
   have H := HA.out
   clear HA
   simp only [tollbarlaw17_TreeDeletes.j0] at H
   by_cases c37 : x33_5 = true
   ·subst c37
    have H1 : (if t167 = true then ((tollbarlaw17_awake.f).bind fun t169 => (if t169 = true then ((tollbarlaw0_Num.f t162).bind fun t170 => (if t170 = 1702 then (if (t155.length : Int) = 0 then ((tollbarlaw0_SameTree.f kj5 t147 t150 t151 l0_0 a0_1 l0_2).bind fun t171 => (some t171)) else (some false)) else (some false))) else (some false))) else ((tollbarlaw17_awake.f).bind fun t172 => (if t172 = true then ((tollbarlaw0_Num.f t162).bind fun t173 => (if t173 = 1700 then (if (t155.length : Int) = 0 then ((tollbarlaw0_SameTree.f kj5 t147 t150 t151 l0_0 a0_1 l0_2).bind fun t174 => (some t174)) else (some false)) else (some false))) else (some false)))) = some r := by rw [if_pos rfl] at H; exact H
    clear H
    have H := H1
    clear H1
    by_cases c38 : t167 = true
    ·subst c38
     have H1 : ((tollbarlaw17_awake.f).bind fun t169 => (if t169 = true then ((tollbarlaw0_Num.f t162).bind fun t170 => (if t170 = 1702 then (if (t155.length : Int) = 0 then ((tollbarlaw0_SameTree.f kj5 t147 t150 t151 l0_0 a0_1 l0_2).bind fun t171 => (some t171)) else (some false)) else (some false))) else (some false))) = some r := by rw [if_pos rfl] at H; exact H
     clear H
     have H := H1
     clear H1
     replace H := yH.mp H
     obtain ⟨t169, A390, H⟩ := H
     replace H : (if t169 = true then ((tollbarlaw0_Num.f t162).bind fun t170 => (if t170 = 1702 then (if (t155.length : Int) = 0 then ((tollbarlaw0_SameTree.f kj5 t147 t150 t151 l0_0 a0_1 l0_2).bind fun t171 => (some t171)) else (some false)) else (some false))) else (some false)) = some r := H
     have A39 := zK A390
     clear A390
     by_cases c40 : t169 = true
     ·subst c40
      have H1 : ((tollbarlaw0_Num.f t162).bind fun t170 => (if t170 = 1702 then (if (t155.length : Int) = 0 then ((tollbarlaw0_SameTree.f kj5 t147 t150 t151 l0_0 a0_1 l0_2).bind fun t171 => (some t171)) else (some false)) else (some false))) = some r := by rw [if_pos rfl] at H; exact H
      clear H
      have H := H1
      clear H1
      replace H := yH.mp H
      obtain ⟨t170, A410, H⟩ := H
      replace H : (if t170 = 1702 then (if (t155.length : Int) = 0 then ((tollbarlaw0_SameTree.f kj5 t147 t150 t151 l0_0 a0_1 l0_2).bind fun t171 => (some t171)) else (some false)) else (some false)) = some r := H
      have A41 := zK A410
      clear A410
      by_cases c42 : t170 = 1702
      ·rw [if_pos c42] at H
       have c42b0 : (t170 == 1702) = true := yI.mpr c42
       have c42b1 : (t170 != 1702) = false := yJ.mpr c42
       clear c42
       by_cases c43 : (t155.length : Int) = 0
       ·rw [if_pos c43] at H
        have c43b0 : ((t155.length : Int) == 0) = true := yI.mpr c43
        have c43b1 : ((t155.length : Int) != 0) = false := yJ.mpr c43
        clear c43
        replace H := yH.mp H
        obtain ⟨t171, A440, H⟩ := H
        replace H : (some t171) = some r := H
        have A44 := zK A440
        clear A440
        obtain rfl := Option.some.inj H
        go_wp2_with (first | ((with_reducible refine gate_callee (f := 18) rfl ?_); refine goesL_ (some 36) rfl rfl Try.func18 (by kernel_rfl) rfl #[] rfl zt ?_; (with_reducible refine (tollbarlaw17_awake.calls  true _ A39.out).mono ?_); rintro e w45 ⟨rfl, hb⟩; refine ⟨_, rfl, ?_⟩; have n0_ := zK (zO (zr HO_8.out) hb); have n1_ := zK (zO (zr HO_qg.out) hb); have n2_ := zK (zO (zr HO_qi.out) hb); have n3_ := zK (zO (zr HO_qj.out) hb); have n4_ := zK (zO (zr HO_ql.out) hb); have n5_ := zK (zP (g := gb145) (o := .cells #[.slice A0_0 l0_0.length c0_0, .int .i64 a0_1, .slice A0_2 l0_2.length c0_2] 25 (0, 0)) (zb BK145.out) hb); have n6_ := zK (zP (g := gb146) (o := .cells #[.int .i64 a1_0, .int .i64 a1_1, .int .i64 a1_2] 50 (0, 0)) (zb BK146.out) hb); have n7_ := zK (zP (g := gb154) (o := .cells #[.slice Ao13 t147.length co13, .int .i64 t150, .slice Ao17 t151.length co17] 25 (0, 0)) (zb BK154.out) hb); have n8_ := zK (zP (g := gb163) (o := .cells #[.slice Ao21 t155.length co21, .int .i64 t158, .slice Ao26 t159.length co26] 25 (0, 0)) (zb BK163.out) hb); have n9_ := zK (yF (zl HB.out) hb); clear HO_8; clear HO_qg; clear HO_qi; clear HO_qj; clear HO_ql; clear BK145; clear BK146; clear BK154; clear BK163; clear HB; have HO_8 := n0_; have HO_qg := n1_; have HO_qi := n2_; have HO_qj := n3_; have HO_ql := n4_; have BK145 := n5_; have BK146 := n6_; have BK154 := n7_; have BK163 := n8_; have HB := n9_; clear n0_ n1_ n2_ n3_ n4_ n5_ n6_ n7_ n8_ n9_; (try clear hb); (try clear hb2); (try clear hk); (try clear hi)) | (go_at_call 19; (with_reducible refine (tollbarlaw0_Num.calls t162 t170 _ A41.out).mono ?_); rintro e w' ⟨rfl, ⟨nd, rfl⟩⟩; have hnb46 := NB163_145.out; have hnc46 := NB145_163.out; have hnb47 := NB163_146.out; have hnc47 := NB146_163.out; have hnb48 := NB163_154.out; have hnc48 := NB154_163.out; have hcz49_0 : w45.cell? ⟨gb163, 0, none⟩ = some (.slice Ao21 t155.length co21) := (zQ BK163.out 0).trans rfl; have hcz49_1 : w45.cell? ⟨gb163, 1, none⟩ = some (.int .i64 t158) := (zQ BK163.out 1).trans rfl; have hcz49_2 : w45.cell? ⟨gb163, 2, none⟩ = some (.slice Ao26 t159.length co26) := (zQ BK163.out 2).trans rfl; have hfz49_0 := zR BK163.out 0; have hfz49_1 := zR BK163.out 1; have hfz49_2 := zR BK163.out 2; have hnb50 := NB154_145.out; have hnc50 := NB145_154.out; have hnb51 := NB154_146.out; have hnc51 := NB146_154.out; have hcz52_0 : w45.cell? ⟨gb154, 0, none⟩ = some (.slice Ao13 t147.length co13) := (zQ BK154.out 0).trans rfl; have hcz52_1 : w45.cell? ⟨gb154, 1, none⟩ = some (.int .i64 t150) := (zQ BK154.out 1).trans rfl; have hcz52_2 : w45.cell? ⟨gb154, 2, none⟩ = some (.slice Ao17 t151.length co17) := (zQ BK154.out 2).trans rfl; have hfz52_0 := zR BK154.out 0; have hfz52_1 := zR BK154.out 1; have hfz52_2 := zR BK154.out 2; have hnb53 := NB145_146.out; have hnc53 := NB146_145.out; have hcz54_0 : w45.cell? ⟨gb145, 0, none⟩ = some (.slice A0_0 l0_0.length c0_0) := (zQ BK145.out 0).trans rfl; have hcz54_1 : w45.cell? ⟨gb145, 1, none⟩ = some (.int .i64 a0_1) := (zQ BK145.out 1).trans rfl; have hcz54_2 : w45.cell? ⟨gb145, 2, none⟩ = some (.slice A0_2 l0_2.length c0_2) := (zQ BK145.out 2).trans rfl; have hfz54_0 := zR BK145.out 0; have hfz54_1 := zR BK145.out 1; have hfz54_2 := zR BK145.out 2) | (go_at_call 17; (with_reducible refine (tollbarlaw0_SameTree.calls kj5 _ _ t147 t150 _ _ t151 _ _ l0_0 a0_1 _ _ l0_2 t171 _ ?side1 ?side2 ?side3 ?side4 ?side5 ?side6 ?side7 ?side8 A44.out).mono ?_); (case side1 => exact zc (zX HO_qg.out).2.2); (case side2 => exact (zX HO_qg.out).2.1); (case side3 => exact zc (zX HO_qi.out).2.2); (case side4 => exact (zX HO_qi.out).2.1); (case side5 => repeat (first | exact (yD HR0_0.out (zl HB.out)) | (with_reducible refine zS ?_ _) | (with_reducible refine zT ?_ _) | (with_reducible refine zU ?_))); (case side6 => exact HC0_0.out); (case side7 => repeat (first | exact (yD HR0_2.out (zl HB.out)) | (with_reducible refine zS ?_ _) | (with_reducible refine zT ?_ _) | (with_reducible refine zU ?_))); (case side8 => exact HC0_2.out); rintro e w55 ⟨rfl, hb⟩; have n0_ := zK (zO (zr HO_8.out) hb); have n1_ := zK (zO (zr HO_qg.out) hb); have n2_ := zK (zO (zr HO_qi.out) hb); have n3_ := zK (zO (zr HO_qj.out) hb); have n4_ := zK (zO (zr HO_ql.out) hb); have n5_ := zK (zP (g := gb145) (o := .cells #[.slice A0_0 l0_0.length c0_0, .int .i64 a0_1, .slice A0_2 l0_2.length c0_2] 25 (0, 0)) (zb BK145.out) hb); have n6_ := zK (zP (g := gb146) (o := .cells #[.int .i64 a1_0, .int .i64 a1_1, .int .i64 a1_2] 50 (0, 0)) (zb BK146.out) hb); have n7_ := zK (zP (g := gb154) (o := .cells #[.slice Ao13 t147.length co13, .int .i64 t150, .slice Ao17 t151.length co17] 25 (0, 0)) (zb BK154.out) hb); have n8_ := zK (zP (g := gb163) (o := .cells #[.slice Ao21 t155.length co21, .int .i64 t158, .slice Ao26 t159.length co26] 25 (0, 0)) (zb BK163.out) hb); have n9_ := zK (yF (zl HB.out) hb); clear HO_8; clear HO_qg; clear HO_qi; clear HO_qj; clear HO_ql; clear BK145; clear BK146; clear BK154; clear BK163; clear HB; have HO_8 := n0_; have HO_qg := n1_; have HO_qi := n2_; have HO_qj := n3_; have HO_ql := n4_; have BK145 := n5_; have BK146 := n6_; have BK154 := n7_; have BK163 := n8_; have HB := n9_; clear n0_ n1_ n2_ n3_ n4_ n5_ n6_ n7_ n8_ n9_; (try clear hb); (try clear hb2); (try clear hk); (try clear hi)))
        go_ret
        exact ⟨ze, zl HB.out⟩
       ·rw [if_neg c43] at H
        have c43b0 : ((t155.length : Int) == 0) = false := yK.mpr c43
        have c43b1 : ((t155.length : Int) != 0) = true := yL.mpr c43
        have c43b2 : ¬ (t155 = []) := fun h_ => c43 (by rw [h_]; rfl)
        obtain rfl := Option.some.inj H
        go_wp2_with (first | ((with_reducible refine gate_callee (f := 18) rfl ?_); refine goesL_ (some 36) rfl rfl Try.func18 (by kernel_rfl) rfl #[] rfl zt ?_; (with_reducible refine (tollbarlaw17_awake.calls  true _ A39.out).mono ?_); rintro e w56 ⟨rfl, hb⟩; refine ⟨_, rfl, ?_⟩; have n0_ := zK (zO (zr HO_8.out) hb); have n1_ := zK (zO (zr HO_qg.out) hb); have n2_ := zK (zO (zr HO_qi.out) hb); have n3_ := zK (zO (zr HO_qj.out) hb); have n4_ := zK (zO (zr HO_ql.out) hb); have n5_ := zK (zP (g := gb145) (o := .cells #[.slice A0_0 l0_0.length c0_0, .int .i64 a0_1, .slice A0_2 l0_2.length c0_2] 25 (0, 0)) (zb BK145.out) hb); have n6_ := zK (zP (g := gb146) (o := .cells #[.int .i64 a1_0, .int .i64 a1_1, .int .i64 a1_2] 50 (0, 0)) (zb BK146.out) hb); have n7_ := zK (zP (g := gb154) (o := .cells #[.slice Ao13 t147.length co13, .int .i64 t150, .slice Ao17 t151.length co17] 25 (0, 0)) (zb BK154.out) hb); have n8_ := zK (zP (g := gb163) (o := .cells #[.slice Ao21 t155.length co21, .int .i64 t158, .slice Ao26 t159.length co26] 25 (0, 0)) (zb BK163.out) hb); have n9_ := zK (yF (zl HB.out) hb); clear HO_8; clear HO_qg; clear HO_qi; clear HO_qj; clear HO_ql; clear BK145; clear BK146; clear BK154; clear BK163; clear HB; have HO_8 := n0_; have HO_qg := n1_; have HO_qi := n2_; have HO_qj := n3_; have HO_ql := n4_; have BK145 := n5_; have BK146 := n6_; have BK154 := n7_; have BK163 := n8_; have HB := n9_; clear n0_ n1_ n2_ n3_ n4_ n5_ n6_ n7_ n8_ n9_; (try clear hb); (try clear hb2); (try clear hk); (try clear hi)) | (go_at_call 19; (with_reducible refine (tollbarlaw0_Num.calls t162 t170 _ A41.out).mono ?_); rintro e w' ⟨rfl, ⟨nd, rfl⟩⟩; have hnb57 := NB163_145.out; have hnc57 := NB145_163.out; have hnb58 := NB163_146.out; have hnc58 := NB146_163.out; have hnb59 := NB163_154.out; have hnc59 := NB154_163.out; have hcz60_0 : w56.cell? ⟨gb163, 0, none⟩ = some (.slice Ao21 t155.length co21) := (zQ BK163.out 0).trans rfl; have hcz60_1 : w56.cell? ⟨gb163, 1, none⟩ = some (.int .i64 t158) := (zQ BK163.out 1).trans rfl; have hcz60_2 : w56.cell? ⟨gb163, 2, none⟩ = some (.slice Ao26 t159.length co26) := (zQ BK163.out 2).trans rfl; have hfz60_0 := zR BK163.out 0; have hfz60_1 := zR BK163.out 1; have hfz60_2 := zR BK163.out 2))
        go_ret
        exact ⟨ze, zl HB.out⟩
      ·rw [if_neg c42] at H
       have c42b0 : (t170 == 1702) = false := yK.mpr c42
       have c42b1 : (t170 != 1702) = true := yL.mpr c42
       obtain rfl := Option.some.inj H
       go_wp2_with (first | ((with_reducible refine gate_callee (f := 18) rfl ?_); refine goesL_ (some 36) rfl rfl Try.func18 (by kernel_rfl) rfl #[] rfl zt ?_; (with_reducible refine (tollbarlaw17_awake.calls  true _ A39.out).mono ?_); rintro e w61 ⟨rfl, hb⟩; refine ⟨_, rfl, ?_⟩; have n0_ := zK (zO (zr HO_8.out) hb); have n1_ := zK (zO (zr HO_qg.out) hb); have n2_ := zK (zO (zr HO_qi.out) hb); have n3_ := zK (zO (zr HO_qj.out) hb); have n4_ := zK (zO (zr HO_ql.out) hb); have n5_ := zK (zP (g := gb145) (o := .cells #[.slice A0_0 l0_0.length c0_0, .int .i64 a0_1, .slice A0_2 l0_2.length c0_2] 25 (0, 0)) (zb BK145.out) hb); have n6_ := zK (zP (g := gb146) (o := .cells #[.int .i64 a1_0, .int .i64 a1_1, .int .i64 a1_2] 50 (0, 0)) (zb BK146.out) hb); have n7_ := zK (zP (g := gb154) (o := .cells #[.slice Ao13 t147.length co13, .int .i64 t150, .slice Ao17 t151.length co17] 25 (0, 0)) (zb BK154.out) hb); have n8_ := zK (zP (g := gb163) (o := .cells #[.slice Ao21 t155.length co21, .int .i64 t158, .slice Ao26 t159.length co26] 25 (0, 0)) (zb BK163.out) hb); have n9_ := zK (yF (zl HB.out) hb); clear HO_8; clear HO_qg; clear HO_qi; clear HO_qj; clear HO_ql; clear BK145; clear BK146; clear BK154; clear BK163; clear HB; have HO_8 := n0_; have HO_qg := n1_; have HO_qi := n2_; have HO_qj := n3_; have HO_ql := n4_; have BK145 := n5_; have BK146 := n6_; have BK154 := n7_; have BK163 := n8_; have HB := n9_; clear n0_ n1_ n2_ n3_ n4_ n5_ n6_ n7_ n8_ n9_; (try clear hb); (try clear hb2); (try clear hk); (try clear hi)) | (go_at_call 19; (with_reducible refine (tollbarlaw0_Num.calls t162 t170 _ A41.out).mono ?_); rintro e w' ⟨rfl, ⟨nd, rfl⟩⟩))
       go_ret
       exact ⟨ze, zl HB.out⟩
     ·replace c40 := Bool.eq_false_iff.mpr c40
      subst c40
      have H1 : (some false) = some r := by rw [if_neg (show ¬ (false = true) by decide)] at H; exact H
      clear H
      have H := H1
      clear H1
      obtain rfl := Option.some.inj H
      go_wp2_with (first | ((with_reducible refine gate_callee (f := 18) rfl ?_); refine goesL_ (some 36) rfl rfl Try.func18 (by kernel_rfl) rfl #[] rfl zt ?_; (with_reducible refine (tollbarlaw17_awake.calls  false _ A39.out).mono ?_); rintro e w62 ⟨rfl, hb⟩; refine ⟨_, rfl, ?_⟩; have n0_ := zK (zO (zr HO_8.out) hb); have n1_ := zK (zO (zr HO_qg.out) hb); have n2_ := zK (zO (zr HO_qi.out) hb); have n3_ := zK (zO (zr HO_qj.out) hb); have n4_ := zK (zO (zr HO_ql.out) hb); have n5_ := zK (zP (g := gb145) (o := .cells #[.slice A0_0 l0_0.length c0_0, .int .i64 a0_1, .slice A0_2 l0_2.length c0_2] 25 (0, 0)) (zb BK145.out) hb); have n6_ := zK (zP (g := gb146) (o := .cells #[.int .i64 a1_0, .int .i64 a1_1, .int .i64 a1_2] 50 (0, 0)) (zb BK146.out) hb); have n7_ := zK (zP (g := gb154) (o := .cells #[.slice Ao13 t147.length co13, .int .i64 t150, .slice Ao17 t151.length co17] 25 (0, 0)) (zb BK154.out) hb); have n8_ := zK (zP (g := gb163) (o := .cells #[.slice Ao21 t155.length co21, .int .i64 t158, .slice Ao26 t159.length co26] 25 (0, 0)) (zb BK163.out) hb); have n9_ := zK (yF (zl HB.out) hb); clear HO_8; clear HO_qg; clear HO_qi; clear HO_qj; clear HO_ql; clear BK145; clear BK146; clear BK154; clear BK163; clear HB; have HO_8 := n0_; have HO_qg := n1_; have HO_qi := n2_; have HO_qj := n3_; have HO_ql := n4_; have BK145 := n5_; have BK146 := n6_; have BK154 := n7_; have BK163 := n8_; have HB := n9_; clear n0_ n1_ n2_ n3_ n4_ n5_ n6_ n7_ n8_ n9_; (try clear hb); (try clear hb2); (try clear hk); (try clear hi)))
      go_ret
      exact ⟨ze, zl HB.out⟩
    ·replace c38 := Bool.eq_false_iff.mpr c38
     subst c38
     have H1 : ((tollbarlaw17_awake.f).bind fun t172 => (if t172 = true then ((tollbarlaw0_Num.f t162).bind fun t173 => (if t173 = 1700 then (if (t155.length : Int) = 0 then ((tollbarlaw0_SameTree.f kj5 t147 t150 t151 l0_0 a0_1 l0_2).bind fun t174 => (some t174)) else (some false)) else (some false))) else (some false))) = some r := by rw [if_neg (show ¬ (false = true) by decide)] at H; exact H
     clear H
     have H := H1
     clear H1
     replace H := yH.mp H
     obtain ⟨t172, A630, H⟩ := H
     replace H : (if t172 = true then ((tollbarlaw0_Num.f t162).bind fun t173 => (if t173 = 1700 then (if (t155.length : Int) = 0 then ((tollbarlaw0_SameTree.f kj5 t147 t150 t151 l0_0 a0_1 l0_2).bind fun t174 => (some t174)) else (some false)) else (some false))) else (some false)) = some r := H
     have A63 := zK A630
     clear A630
     by_cases c64 : t172 = true
     ·subst c64
      have H1 : ((tollbarlaw0_Num.f t162).bind fun t173 => (if t173 = 1700 then (if (t155.length : Int) = 0 then ((tollbarlaw0_SameTree.f kj5 t147 t150 t151 l0_0 a0_1 l0_2).bind fun t174 => (some t174)) else (some false)) else (some false))) = some r := by rw [if_pos rfl] at H; exact H
      clear H
      have H := H1
      clear H1
      replace H := yH.mp H
      obtain ⟨t173, A650, H⟩ := H
      replace H : (if t173 = 1700 then (if (t155.length : Int) = 0 then ((tollbarlaw0_SameTree.f kj5 t147 t150 t151 l0_0 a0_1 l0_2).bind fun t174 => (some t174)) else (some false)) else (some false)) = some r := H
      have A65 := zK A650
      clear A650
      by_cases c66 : t173 = 1700
      ·rw [if_pos c66] at H
       have c66b0 : (t173 == 1700) = true := yI.mpr c66
       have c66b1 : (t173 != 1700) = false := yJ.mpr c66
       clear c66
       by_cases c67 : (t155.length : Int) = 0
       ·rw [if_pos c67] at H
        have c67b0 : ((t155.length : Int) == 0) = true := yI.mpr c67
        have c67b1 : ((t155.length : Int) != 0) = false := yJ.mpr c67
        clear c67
        replace H := yH.mp H
        obtain ⟨t174, A680, H⟩ := H
        replace H : (some t174) = some r := H
        have A68 := zK A680
        clear A680
        obtain rfl := Option.some.inj H
        go_wp2_with (first | ((with_reducible refine gate_callee (f := 18) rfl ?_); refine goesL_ (some 36) rfl rfl Try.func18 (by kernel_rfl) rfl #[] rfl zt ?_; (with_reducible refine (tollbarlaw17_awake.calls  true _ A63.out).mono ?_); rintro e w69 ⟨rfl, hb⟩; refine ⟨_, rfl, ?_⟩; have n0_ := zK (zO (zr HO_8.out) hb); have n1_ := zK (zO (zr HO_qg.out) hb); have n2_ := zK (zO (zr HO_qi.out) hb); have n3_ := zK (zO (zr HO_qj.out) hb); have n4_ := zK (zO (zr HO_ql.out) hb); have n5_ := zK (zP (g := gb145) (o := .cells #[.slice A0_0 l0_0.length c0_0, .int .i64 a0_1, .slice A0_2 l0_2.length c0_2] 25 (0, 0)) (zb BK145.out) hb); have n6_ := zK (zP (g := gb146) (o := .cells #[.int .i64 a1_0, .int .i64 a1_1, .int .i64 a1_2] 50 (0, 0)) (zb BK146.out) hb); have n7_ := zK (zP (g := gb154) (o := .cells #[.slice Ao13 t147.length co13, .int .i64 t150, .slice Ao17 t151.length co17] 25 (0, 0)) (zb BK154.out) hb); have n8_ := zK (zP (g := gb163) (o := .cells #[.slice Ao21 t155.length co21, .int .i64 t158, .slice Ao26 t159.length co26] 25 (0, 0)) (zb BK163.out) hb); have n9_ := zK (yF (zl HB.out) hb); clear HO_8; clear HO_qg; clear HO_qi; clear HO_qj; clear HO_ql; clear BK145; clear BK146; clear BK154; clear BK163; clear HB; have HO_8 := n0_; have HO_qg := n1_; have HO_qi := n2_; have HO_qj := n3_; have HO_ql := n4_; have BK145 := n5_; have BK146 := n6_; have BK154 := n7_; have BK163 := n8_; have HB := n9_; clear n0_ n1_ n2_ n3_ n4_ n5_ n6_ n7_ n8_ n9_; (try clear hb); (try clear hb2); (try clear hk); (try clear hi)) | (go_at_call 19; (with_reducible refine (tollbarlaw0_Num.calls t162 t173 _ A65.out).mono ?_); rintro e w' ⟨rfl, ⟨nd, rfl⟩⟩; have hnb70 := NB163_145.out; have hnc70 := NB145_163.out; have hnb71 := NB163_146.out; have hnc71 := NB146_163.out; have hnb72 := NB163_154.out; have hnc72 := NB154_163.out; have hcz73_0 : w69.cell? ⟨gb163, 0, none⟩ = some (.slice Ao21 t155.length co21) := (zQ BK163.out 0).trans rfl; have hcz73_1 : w69.cell? ⟨gb163, 1, none⟩ = some (.int .i64 t158) := (zQ BK163.out 1).trans rfl; have hcz73_2 : w69.cell? ⟨gb163, 2, none⟩ = some (.slice Ao26 t159.length co26) := (zQ BK163.out 2).trans rfl; have hfz73_0 := zR BK163.out 0; have hfz73_1 := zR BK163.out 1; have hfz73_2 := zR BK163.out 2; have hnb74 := NB154_145.out; have hnc74 := NB145_154.out; have hnb75 := NB154_146.out; have hnc75 := NB146_154.out; have hcz76_0 : w69.cell? ⟨gb154, 0, none⟩ = some (.slice Ao13 t147.length co13) := (zQ BK154.out 0).trans rfl; have hcz76_1 : w69.cell? ⟨gb154, 1, none⟩ = some (.int .i64 t150) := (zQ BK154.out 1).trans rfl; have hcz76_2 : w69.cell? ⟨gb154, 2, none⟩ = some (.slice Ao17 t151.length co17) := (zQ BK154.out 2).trans rfl; have hfz76_0 := zR BK154.out 0; have hfz76_1 := zR BK154.out 1; have hfz76_2 := zR BK154.out 2; have hnb77 := NB145_146.out; have hnc77 := NB146_145.out; have hcz78_0 : w69.cell? ⟨gb145, 0, none⟩ = some (.slice A0_0 l0_0.length c0_0) := (zQ BK145.out 0).trans rfl; have hcz78_1 : w69.cell? ⟨gb145, 1, none⟩ = some (.int .i64 a0_1) := (zQ BK145.out 1).trans rfl; have hcz78_2 : w69.cell? ⟨gb145, 2, none⟩ = some (.slice A0_2 l0_2.length c0_2) := (zQ BK145.out 2).trans rfl; have hfz78_0 := zR BK145.out 0; have hfz78_1 := zR BK145.out 1; have hfz78_2 := zR BK145.out 2) | (go_at_call 17; (with_reducible refine (tollbarlaw0_SameTree.calls kj5 _ _ t147 t150 _ _ t151 _ _ l0_0 a0_1 _ _ l0_2 t174 _ ?side1 ?side2 ?side3 ?side4 ?side5 ?side6 ?side7 ?side8 A68.out).mono ?_); (case side1 => exact zc (zX HO_qg.out).2.2); (case side2 => exact (zX HO_qg.out).2.1); (case side3 => exact zc (zX HO_qi.out).2.2); (case side4 => exact (zX HO_qi.out).2.1); (case side5 => repeat (first | exact (yD HR0_0.out (zl HB.out)) | (with_reducible refine zS ?_ _) | (with_reducible refine zT ?_ _) | (with_reducible refine zU ?_))); (case side6 => exact HC0_0.out); (case side7 => repeat (first | exact (yD HR0_2.out (zl HB.out)) | (with_reducible refine zS ?_ _) | (with_reducible refine zT ?_ _) | (with_reducible refine zU ?_))); (case side8 => exact HC0_2.out); rintro e w79 ⟨rfl, hb⟩; have n0_ := zK (zO (zr HO_8.out) hb); have n1_ := zK (zO (zr HO_qg.out) hb); have n2_ := zK (zO (zr HO_qi.out) hb); have n3_ := zK (zO (zr HO_qj.out) hb); have n4_ := zK (zO (zr HO_ql.out) hb); have n5_ := zK (zP (g := gb145) (o := .cells #[.slice A0_0 l0_0.length c0_0, .int .i64 a0_1, .slice A0_2 l0_2.length c0_2] 25 (0, 0)) (zb BK145.out) hb); have n6_ := zK (zP (g := gb146) (o := .cells #[.int .i64 a1_0, .int .i64 a1_1, .int .i64 a1_2] 50 (0, 0)) (zb BK146.out) hb); have n7_ := zK (zP (g := gb154) (o := .cells #[.slice Ao13 t147.length co13, .int .i64 t150, .slice Ao17 t151.length co17] 25 (0, 0)) (zb BK154.out) hb); have n8_ := zK (zP (g := gb163) (o := .cells #[.slice Ao21 t155.length co21, .int .i64 t158, .slice Ao26 t159.length co26] 25 (0, 0)) (zb BK163.out) hb); have n9_ := zK (yF (zl HB.out) hb); clear HO_8; clear HO_qg; clear HO_qi; clear HO_qj; clear HO_ql; clear BK145; clear BK146; clear BK154; clear BK163; clear HB; have HO_8 := n0_; have HO_qg := n1_; have HO_qi := n2_; have HO_qj := n3_; have HO_ql := n4_; have BK145 := n5_; have BK146 := n6_; have BK154 := n7_; have BK163 := n8_; have HB := n9_; clear n0_ n1_ n2_ n3_ n4_ n5_ n6_ n7_ n8_ n9_; (try clear hb); (try clear hb2); (try clear hk); (try clear hi)))
        go_ret
        exact ⟨ze, zl HB.out⟩
       ·rw [if_neg c67] at H
        have c67b0 : ((t155.length : Int) == 0) = false := yK.mpr c67
        have c67b1 : ((t155.length : Int) != 0) = true := yL.mpr c67
        have c67b2 : ¬ (t155 = []) := fun h_ => c67 (by rw [h_]; rfl)
        obtain rfl := Option.some.inj H
        go_wp2_with (first | ((with_reducible refine gate_callee (f := 18) rfl ?_); refine goesL_ (some 36) rfl rfl Try.func18 (by kernel_rfl) rfl #[] rfl zt ?_; (with_reducible refine (tollbarlaw17_awake.calls  true _ A63.out).mono ?_); rintro e w80 ⟨rfl, hb⟩; refine ⟨_, rfl, ?_⟩; have n0_ := zK (zO (zr HO_8.out) hb); have n1_ := zK (zO (zr HO_qg.out) hb); have n2_ := zK (zO (zr HO_qi.out) hb); have n3_ := zK (zO (zr HO_qj.out) hb); have n4_ := zK (zO (zr HO_ql.out) hb); have n5_ := zK (zP (g := gb145) (o := .cells #[.slice A0_0 l0_0.length c0_0, .int .i64 a0_1, .slice A0_2 l0_2.length c0_2] 25 (0, 0)) (zb BK145.out) hb); have n6_ := zK (zP (g := gb146) (o := .cells #[.int .i64 a1_0, .int .i64 a1_1, .int .i64 a1_2] 50 (0, 0)) (zb BK146.out) hb); have n7_ := zK (zP (g := gb154) (o := .cells #[.slice Ao13 t147.length co13, .int .i64 t150, .slice Ao17 t151.length co17] 25 (0, 0)) (zb BK154.out) hb); have n8_ := zK (zP (g := gb163) (o := .cells #[.slice Ao21 t155.length co21, .int .i64 t158, .slice Ao26 t159.length co26] 25 (0, 0)) (zb BK163.out) hb); have n9_ := zK (yF (zl HB.out) hb); clear HO_8; clear HO_qg; clear HO_qi; clear HO_qj; clear HO_ql; clear BK145; clear BK146; clear BK154; clear BK163; clear HB; have HO_8 := n0_; have HO_qg := n1_; have HO_qi := n2_; have HO_qj := n3_; have HO_ql := n4_; have BK145 := n5_; have BK146 := n6_; have BK154 := n7_; have BK163 := n8_; have HB := n9_; clear n0_ n1_ n2_ n3_ n4_ n5_ n6_ n7_ n8_ n9_; (try clear hb); (try clear hb2); (try clear hk); (try clear hi)) | (go_at_call 19; (with_reducible refine (tollbarlaw0_Num.calls t162 t173 _ A65.out).mono ?_); rintro e w' ⟨rfl, ⟨nd, rfl⟩⟩; have hnb81 := NB163_145.out; have hnc81 := NB145_163.out; have hnb82 := NB163_146.out; have hnc82 := NB146_163.out; have hnb83 := NB163_154.out; have hnc83 := NB154_163.out; have hcz84_0 : w80.cell? ⟨gb163, 0, none⟩ = some (.slice Ao21 t155.length co21) := (zQ BK163.out 0).trans rfl; have hcz84_1 : w80.cell? ⟨gb163, 1, none⟩ = some (.int .i64 t158) := (zQ BK163.out 1).trans rfl; have hcz84_2 : w80.cell? ⟨gb163, 2, none⟩ = some (.slice Ao26 t159.length co26) := (zQ BK163.out 2).trans rfl; have hfz84_0 := zR BK163.out 0; have hfz84_1 := zR BK163.out 1; have hfz84_2 := zR BK163.out 2))
        go_ret
        exact ⟨ze, zl HB.out⟩
      ·rw [if_neg c66] at H
       have c66b0 : (t173 == 1700) = false := yK.mpr c66
       have c66b1 : (t173 != 1700) = true := yL.mpr c66
       obtain rfl := Option.some.inj H
       go_wp2_with (first | ((with_reducible refine gate_callee (f := 18) rfl ?_); refine goesL_ (some 36) rfl rfl Try.func18 (by kernel_rfl) rfl #[] rfl zt ?_; (with_reducible refine (tollbarlaw17_awake.calls  true _ A63.out).mono ?_); rintro e w85 ⟨rfl, hb⟩; refine ⟨_, rfl, ?_⟩; have n0_ := zK (zO (zr HO_8.out) hb); have n1_ := zK (zO (zr HO_qg.out) hb); have n2_ := zK (zO (zr HO_qi.out) hb); have n3_ := zK (zO (zr HO_qj.out) hb); have n4_ := zK (zO (zr HO_ql.out) hb); have n5_ := zK (zP (g := gb145) (o := .cells #[.slice A0_0 l0_0.length c0_0, .int .i64 a0_1, .slice A0_2 l0_2.length c0_2] 25 (0, 0)) (zb BK145.out) hb); have n6_ := zK (zP (g := gb146) (o := .cells #[.int .i64 a1_0, .int .i64 a1_1, .int .i64 a1_2] 50 (0, 0)) (zb BK146.out) hb); have n7_ := zK (zP (g := gb154) (o := .cells #[.slice Ao13 t147.length co13, .int .i64 t150, .slice Ao17 t151.length co17] 25 (0, 0)) (zb BK154.out) hb); have n8_ := zK (zP (g := gb163) (o := .cells #[.slice Ao21 t155.length co21, .int .i64 t158, .slice Ao26 t159.length co26] 25 (0, 0)) (zb BK163.out) hb); have n9_ := zK (yF (zl HB.out) hb); clear HO_8; clear HO_qg; clear HO_qi; clear HO_qj; clear HO_ql; clear BK145; clear BK146; clear BK154; clear BK163; clear HB; have HO_8 := n0_; have HO_qg := n1_; have HO_qi := n2_; have HO_qj := n3_; have HO_ql := n4_; have BK145 := n5_; have BK146 := n6_; have BK154 := n7_; have BK163 := n8_; have HB := n9_; clear n0_ n1_ n2_ n3_ n4_ n5_ n6_ n7_ n8_ n9_; (try clear hb); (try clear hb2); (try clear hk); (try clear hi)) | (go_at_call 19; (with_reducible refine (tollbarlaw0_Num.calls t162 t173 _ A65.out).mono ?_); rintro e w' ⟨rfl, ⟨nd, rfl⟩⟩))
       go_ret
       exact ⟨ze, zl HB.out⟩
     ·replace c64 := Bool.eq_false_iff.mpr c64
      subst c64
      have H1 : (some false) = some r := by rw [if_neg (show ¬ (false = true) by decide)] at H; exact H
      clear H
      have H := H1
      clear H1
      obtain rfl := Option.some.inj H
      go_wp2_with (first | ((with_reducible refine gate_callee (f := 18) rfl ?_); refine goesL_ (some 36) rfl rfl Try.func18 (by kernel_rfl) rfl #[] rfl zt ?_; (with_reducible refine (tollbarlaw17_awake.calls  false _ A63.out).mono ?_); rintro e w86 ⟨rfl, hb⟩; refine ⟨_, rfl, ?_⟩; have n0_ := zK (zO (zr HO_8.out) hb); have n1_ := zK (zO (zr HO_qg.out) hb); have n2_ := zK (zO (zr HO_qi.out) hb); have n3_ := zK (zO (zr HO_qj.out) hb); have n4_ := zK (zO (zr HO_ql.out) hb); have n5_ := zK (zP (g := gb145) (o := .cells #[.slice A0_0 l0_0.length c0_0, .int .i64 a0_1, .slice A0_2 l0_2.length c0_2] 25 (0, 0)) (zb BK145.out) hb); have n6_ := zK (zP (g := gb146) (o := .cells #[.int .i64 a1_0, .int .i64 a1_1, .int .i64 a1_2] 50 (0, 0)) (zb BK146.out) hb); have n7_ := zK (zP (g := gb154) (o := .cells #[.slice Ao13 t147.length co13, .int .i64 t150, .slice Ao17 t151.length co17] 25 (0, 0)) (zb BK154.out) hb); have n8_ := zK (zP (g := gb163) (o := .cells #[.slice Ao21 t155.length co21, .int .i64 t158, .slice Ao26 t159.length co26] 25 (0, 0)) (zb BK163.out) hb); have n9_ := zK (yF (zl HB.out) hb); clear HO_8; clear HO_qg; clear HO_qi; clear HO_qj; clear HO_ql; clear BK145; clear BK146; clear BK154; clear BK163; clear HB; have HO_8 := n0_; have HO_qg := n1_; have HO_qi := n2_; have HO_qj := n3_; have HO_ql := n4_; have BK145 := n5_; have BK146 := n6_; have BK154 := n7_; have BK163 := n8_; have HB := n9_; clear n0_ n1_ n2_ n3_ n4_ n5_ n6_ n7_ n8_ n9_; (try clear hb); (try clear hb2); (try clear hk); (try clear hi)))
      go_ret
      exact ⟨ze, zl HB.out⟩
   ·replace c37 := Bool.eq_false_iff.mpr c37
    subst c37
    have H1 : ((tollbarref17_All.f kj5 t155 t158 t159).bind fun bt175 => ((tollbarlaw0_Num.f t162).bind fun t179 => (if t179 = 0 then (if bt175.2 = true then ((tollbarref17_Without.f kj5 t164 a1_0 a1_1 a1_2).bind fun t180 => ((tollbarlaw0_SameItems.f kj5 bt175.1 t180).bind fun t183 => (tollbarlaw17_TreeDeletes.j1 kj5 (!t183) l0_0 a0_1 l0_2 t147 t150 t151 t155 t158 t159))) else (tollbarlaw17_TreeDeletes.j1 kj5 true l0_0 a0_1 l0_2 t147 t150 t151 t155 t158 t159)) else (tollbarlaw17_TreeDeletes.j1 kj5 true l0_0 a0_1 l0_2 t147 t150 t151 t155 t158 t159)))) = some r := by rw [if_neg (show ¬ (false = true) by decide)] at H; exact H
    clear H
    have H := H1
    clear H1
    replace H := yH.mp H
    obtain ⟨⟨t175, t178⟩, A870, H⟩ := H
    replace H : ((tollbarlaw0_Num.f t162).bind fun t179 => (if t179 = 0 then (if t178 = true then ((tollbarref17_Without.f kj5 t164 a1_0 a1_1 a1_2).bind fun t180 => ((tollbarlaw0_SameItems.f kj5 t175 t180).bind fun t183 => (tollbarlaw17_TreeDeletes.j1 kj5 (!t183) l0_0 a0_1 l0_2 t147 t150 t151 t155 t158 t159))) else (tollbarlaw17_TreeDeletes.j1 kj5 true l0_0 a0_1 l0_2 t147 t150 t151 t155 t158 t159)) else (tollbarlaw17_TreeDeletes.j1 kj5 true l0_0 a0_1 l0_2 t147 t150 t151 t155 t158 t159))) = some r := H
    have A87 := zK A870
    clear A870
    have HC88 := zK H
    clear H
    have hnb89 := NB163_145.out
    have hnc89 := NB145_163.out
    have hnb90 := NB163_146.out
    have hnc90 := NB146_163.out
    have hnb91 := NB163_154.out
    have hnc91 := NB154_163.out
    have hcz92_0 : wc.cell? ⟨gb163, 0, none⟩ = some (.slice Ao21 t155.length co21) := (zQ BK163.out 0).trans rfl
    have hcz92_1 : wc.cell? ⟨gb163, 1, none⟩ = some (.int .i64 t158) := (zQ BK163.out 1).trans rfl
    have hcz92_2 : wc.cell? ⟨gb163, 2, none⟩ = some (.slice Ao26 t159.length co26) := (zQ BK163.out 2).trans rfl
    have hfz92_0 := zR BK163.out 0
    have hfz92_1 := zR BK163.out 1
    have hfz92_2 := zR BK163.out 2
    go_upto_region 10 with (first | ((with_reducible refine gate_callee (f := 12) rfl ?_); refine goesL_ (some 56) rfl rfl Try.func12 (by kernel_rfl) rfl #[.agg #[.slice Ao21 t155.length co21, .int .i64 t158, .slice Ao26 t159.length co26]] rfl zt ?_; (with_reducible refine (tollbarref17_All.calls kj5 _ _ t155 t158 _ _ t159 t175 t178 _ ?side1 ?side2 ?side3 ?side4 A87.out).mono ?_); (case side1 => exact zc (zX HO_qj.out).2.2); (case side2 => exact (zX HO_qj.out).2.1); (case side3 => exact zc (zX HO_ql.out).2.2); (case side4 => exact (zX HO_ql.out).2.1); rintro e w93 ⟨v176, rfl, ho0, hb⟩; refine ⟨_, rfl, ?_⟩; have n0_ := zK (yC (zr HO_8.out) (Kd.R_base ho0) hb); have n1_ := zK (zO (zr HO_qg.out) hb); have n2_ := zK (zO (zr HO_qi.out) hb); have n3_ := zK (zO (zr HO_qj.out) hb); have n4_ := zK (zO (zr HO_ql.out) hb); have n5_ := zK (zV (Kd.R_newB (zW ho0 (yB (zr HO_8.out))) (g := gb146) (o := .cells #[.int .i64 a1_0, .int .i64 a1_1, .int .i64 a1_2] 50 (0, 0)) (zb BK146.out)) (yG (zl HB.out))); have n6_ := zK (zP (g := gb145) (o := .cells #[.slice A0_0 l0_0.length c0_0, .int .i64 a0_1, .slice A0_2 l0_2.length c0_2] 25 (0, 0)) (zb BK145.out) hb); have n7_ := zK (zP (g := gb146) (o := .cells #[.int .i64 a1_0, .int .i64 a1_1, .int .i64 a1_2] 50 (0, 0)) (zb BK146.out) hb); have n8_ := zK (zP (g := gb154) (o := .cells #[.slice Ao13 t147.length co13, .int .i64 t150, .slice Ao17 t151.length co17] 25 (0, 0)) (zb BK154.out) hb); have n9_ := zK (zP (g := gb163) (o := .cells #[.slice Ao21 t155.length co21, .int .i64 t158, .slice Ao26 t159.length co26] 25 (0, 0)) (zb BK163.out) hb); have n10_ := zK (yF (zl HB.out) hb); clear HO_8; clear HO_qg; clear HO_qi; clear HO_qj; clear HO_ql; clear BK145; clear BK146; clear BK154; clear BK163; clear HB; have HO_8 := n0_; have HO_qg := n1_; have HO_qi := n2_; have HO_qj := n3_; have HO_ql := n4_; have HO177 := n5_; have BK145 := n6_; have BK146 := n7_; have BK154 := n8_; have BK163 := n9_; have HB := n10_; clear n0_ n1_ n2_ n3_ n4_ n5_ n6_ n7_ n8_ n9_ n10_; (try clear hb); (try clear hb2); (try clear hk); (try clear hi); (try clear ho0)))
    (try simp only [Act.put, zY, zZ, yA])
    go_cut [73] (fun v73 wc => ∃ (kq : Nat) (x73_87 : Bool), v73 = .bool x73_87 ∧ Aside0 (tollbarlaw17_TreeDeletes.j1 kq x73_87 l0_0 a0_1 l0_2 t147 t150 t151 t155 t158 t159 = some r) ∧ Aside0 (kq ≤ kj5) ∧ Aside0 (Kd.R k64 64 wc w.heap.size (fun k_ => some k_ ≠ ((.slice Ao21 t155.length co21) : Value).ownBlock) (.slice Ao13 t147.length co13) t147) ∧ Aside0 (Kd.R (Kd.int .i64) 3 wc w.heap.size (fun k_ => some k_ ≠ ((.slice Ao26 t159.length co26) : Value).ownBlock) (.slice Ao17 t151.length co17) t151) ∧ Aside0 (Kd.R k64 64 wc w.heap.size (fun k_ => some k_ ≠ ((.slice Ao13 t147.length co13) : Value).ownBlock) (.slice Ao21 t155.length co21) t155) ∧ Aside0 (Kd.R (Kd.int .i64) 3 wc w.heap.size (fun k_ => some k_ ≠ ((.slice Ao17 t151.length co17) : Value).ownBlock) (.slice Ao26 t159.length co26) t159) ∧ Aside0 (wc.heap[gb145]? = some (.cells #[(.slice A0_0 l0_0.length c0_0), .int .i64 a0_1, (.slice A0_2 l0_2.length c0_2)] 25 (0, 0))) ∧ Aside0 (wc.heap[gb146]? = some (.cells #[.int .i64 a1_0, .int .i64 a1_1, .int .i64 a1_2] 50 (0, 0))) ∧ Aside0 (wc.heap[gb154]? = some (.cells #[(.slice Ao13 t147.length co13), .int .i64 t150, (.slice Ao17 t151.length co17)] 25 (0, 0))) ∧ Aside0 (wc.heap[gb163]? = some (.cells #[(.slice Ao21 t155.length co21), .int .i64 t158, (.slice Ao26 t159.length co26)] 25 (0, 0))) ∧ Aside0 (Below w.heap.size w wc))
    case first =>
     have H := HC88.out
     clear HC88
     replace H := yH.mp H
     obtain ⟨t179, A940, H⟩ := H
     replace H : (if t179 = 0 then (if t178 = true then ((tollbarref17_Without.f kj5 t164 a1_0 a1_1 a1_2).bind fun t180 => ((tollbarlaw0_SameItems.f kj5 t175 t180).bind fun t183 => (tollbarlaw17_TreeDeletes.j1 kj5 (!t183) l0_0 a0_1 l0_2 t147 t150 t151 t155 t158 t159))) else (tollbarlaw17_TreeDeletes.j1 kj5 true l0_0 a0_1 l0_2 t147 t150 t151 t155 t158 t159)) else (tollbarlaw17_TreeDeletes.j1 kj5 true l0_0 a0_1 l0_2 t147 t150 t151 t155 t158 t159)) = some r := H
     have A94 := zK A940
     clear A940
     by_cases c95 : t179 = 0
     ·rw [if_pos c95] at H
      have c95b0 : (t179 == 0) = true := yI.mpr c95
      have c95b1 : (t179 != 0) = false := yJ.mpr c95
      clear c95
      (first | rw [c95b0] | (simp only [i64_w, i32_w]; rw [c95b0]) | skip)
      by_cases c96 : t178 = true
      ·subst c96
       have H1 : ((tollbarref17_Without.f kj5 t164 a1_0 a1_1 a1_2).bind fun t180 => ((tollbarlaw0_SameItems.f kj5 t175 t180).bind fun t183 => (tollbarlaw17_TreeDeletes.j1 kj5 (!t183) l0_0 a0_1 l0_2 t147 t150 t151 t155 t158 t159))) = some r := by rw [if_pos rfl] at H; exact H
       clear H
       have H := H1
       clear H1
       replace H := yH.mp H
       obtain ⟨t180, A970, H⟩ := H
       replace H : ((tollbarlaw0_SameItems.f kj5 t175 t180).bind fun t183 => (tollbarlaw17_TreeDeletes.j1 kj5 (!t183) l0_0 a0_1 l0_2 t147 t150 t151 t155 t158 t159)) = some r := H
       have A97 := zK A970
       clear A970
       replace H := yH.mp H
       obtain ⟨t183, A980, H⟩ := H
       replace H : (tollbarlaw17_TreeDeletes.j1 kj5 (!t183) l0_0 a0_1 l0_2 t147 t150 t151 t155 t158 t159) = some r := H
       have A98 := zK A980
       clear A980
       have H' := zK H
       clear H
       go_wp2_with (first | ((with_reducible refine gate_callee (f := 19) rfl ?_); refine goesL_ (some 60) rfl rfl Try.func19 (by kernel_rfl) rfl #[.int .i64 t162] rfl zt ?_; (with_reducible refine (tollbarlaw0_Num.calls t162 t179 _ A94.out).mono ?_); rintro e w' ⟨rfl, ⟨nd, rfl⟩⟩; refine ⟨_, rfl, ?_⟩; have hnb99 := NB146_145.out; have hnc99 := NB145_146.out; have hnb100 := NB146_154.out; have hnc100 := NB154_146.out; have hnb101 := NB146_163.out; have hnc101 := NB163_146.out; have hcz102_0 : w93.cell? ⟨gb146, 0, none⟩ = some (.int .i64 a1_0) := (zQ BK146.out 0).trans rfl; have hcz102_1 : w93.cell? ⟨gb146, 1, none⟩ = some (.int .i64 a1_1) := (zQ BK146.out 1).trans rfl; have hcz102_2 : w93.cell? ⟨gb146, 2, none⟩ = some (.int .i64 a1_2) := (zQ BK146.out 2).trans rfl; have hfz102_0 := zR BK146.out 0; have hfz102_1 := zR BK146.out 1; have hfz102_2 := zR BK146.out 2; obtain ⟨Ao103, co103, eo103⟩ := yE HO_8.out; subst eo103) | (go_at_call 32; (with_reducible refine (tollbarref17_Without.calls kj5 _ _ t164 a1_0 a1_1 a1_2 t180 _ ?side1 ?side2 A97.out).mono ?_); (case side1 => exact zc (zX HO_8.out).2.2); (case side2 => exact (zX HO_8.out).2.1); rintro e w104 ⟨v181, rfl, ho0, hb⟩; have n0_ := zK (yC (zr HO_8.out) (Kd.R_base ho0) hb); have n1_ := zK (zO (zr HO_qg.out) hb); have n2_ := zK (zO (zr HO_qi.out) hb); have n3_ := zK (zO (zr HO_qj.out) hb); have n4_ := zK (zO (zr HO_ql.out) hb); have n5_ := zK (yC (zr HO177.out) (Kd.R_base ho0) hb); have n6_ := zK (zV (Kd.R_newB (zW (zW ho0 (yB (zr HO_8.out))) (yB (zr HO177.out))) (g := gb146) (o := .cells #[.int .i64 a1_0, .int .i64 a1_1, .int .i64 a1_2] 50 (0, 0)) (zb BK146.out)) (yG (zl HB.out))); have n7_ := zK (zP (g := gb145) (o := .cells #[.slice A0_0 l0_0.length c0_0, .int .i64 a0_1, .slice A0_2 l0_2.length c0_2] 25 (0, 0)) (zb BK145.out) hb); have n8_ := zK (zP (g := gb146) (o := .cells #[.int .i64 a1_0, .int .i64 a1_1, .int .i64 a1_2] 50 (0, 0)) (zb BK146.out) hb); have n9_ := zK (zP (g := gb154) (o := .cells #[.slice Ao13 t147.length co13, .int .i64 t150, .slice Ao17 t151.length co17] 25 (0, 0)) (zb BK154.out) hb); have n10_ := zK (zP (g := gb163) (o := .cells #[.slice Ao21 t155.length co21, .int .i64 t158, .slice Ao26 t159.length co26] 25 (0, 0)) (zb BK163.out) hb); have n11_ := zK (yF (zl HB.out) hb); clear HO_8; clear HO_qg; clear HO_qi; clear HO_qj; clear HO_ql; clear HO177; clear BK145; clear BK146; clear BK154; clear BK163; clear HB; have HO_8 := n0_; have HO_qg := n1_; have HO_qi := n2_; have HO_qj := n3_; have HO_ql := n4_; have HO177 := n5_; have HO182 := n6_; have BK145 := n7_; have BK146 := n8_; have BK154 := n9_; have BK163 := n10_; have HB := n11_; clear n0_ n1_ n2_ n3_ n4_ n5_ n6_ n7_ n8_ n9_ n10_ n11_; (try clear hb); (try clear hb2); (try clear hk); (try clear hi); (try clear ho0); obtain ⟨Ao105, co105, eo105⟩ := yE HO177.out; subst eo105; obtain ⟨Ao106, co106, eo106⟩ := yE HO182.out; subst eo106) | (go_at_call 20; (with_reducible refine (tollbarlaw0_SameItems.calls kj5 _ _ t175 _ _ t180 t183 _ ?side1 ?side2 ?side3 ?side4 A98.out).mono ?_); (case side1 => exact zc (zX HO177.out).2.2); (case side2 => exact (zX HO177.out).2.1); (case side3 => exact zc (zX HO182.out).2.2); (case side4 => exact (zX HO182.out).2.1); rintro e w' ⟨rfl, ⟨nd, rfl⟩⟩))
       go_meet
       case rel => exact ⟨_, (!t183), zz, H', ⟨by have := HJ5.out; first | omega | exact Nat.le_refl _⟩, ⟨by (with_reducible repeat (first | apply zA | apply zB | apply zC)); exact HO_qg.out⟩, ⟨by (with_reducible repeat (first | apply zA | apply zB | apply zC)); exact HO_qi.out⟩, ⟨by (with_reducible repeat (first | apply zA | apply zB | apply zC)); exact HO_qj.out⟩, ⟨by (with_reducible repeat (first | apply zA | apply zB | apply zC)); exact HO_ql.out⟩, ⟨by (with_reducible repeat (first | refine zD ?_ _ | refine zE ?_ | refine zF ?_ _)); exact BK145.out⟩, ⟨by (with_reducible repeat (first | refine zD ?_ _ | refine zE ?_ | refine zF ?_ _)); exact BK146.out⟩, ⟨by (with_reducible repeat (first | refine zD ?_ _ | refine zE ?_ | refine zF ?_ _)); exact BK154.out⟩, ⟨by (with_reducible repeat (first | refine zD ?_ _ | refine zE ?_ | refine zF ?_ _)); exact BK163.out⟩, ⟨by repeat (first | (with_reducible first | exact HB.out | apply zG | apply zH | apply zI | refine zL ?_ GE145.out | refine zL ?_ GE146.out | refine zL ?_ GE154.out | refine zL ?_ GE163.out) | exact HB.out)⟩⟩
      ·replace c96 := Bool.eq_false_iff.mpr c96
       subst c96
       have H1 : (tollbarlaw17_TreeDeletes.j1 kj5 true l0_0 a0_1 l0_2 t147 t150 t151 t155 t158 t159) = some r := by rw [if_neg (show ¬ (false = true) by decide)] at H; exact H
       clear H
       have H := H1
       clear H1
       have H' := zK H
       clear H
       go_wp2_with (first | ((with_reducible refine gate_callee (f := 19) rfl ?_); refine goesL_ (some 60) rfl rfl Try.func19 (by kernel_rfl) rfl #[.int .i64 t162] rfl zt ?_; (with_reducible refine (tollbarlaw0_Num.calls t162 t179 _ A94.out).mono ?_); rintro e w' ⟨rfl, ⟨nd, rfl⟩⟩; refine ⟨_, rfl, ?_⟩))
       go_meet
       case rel => exact ⟨_, (true), zz, H', ⟨by have := HJ5.out; first | omega | exact Nat.le_refl _⟩, ⟨by (with_reducible repeat (first | apply zA | apply zB | apply zC)); exact HO_qg.out⟩, ⟨by (with_reducible repeat (first | apply zA | apply zB | apply zC)); exact HO_qi.out⟩, ⟨by (with_reducible repeat (first | apply zA | apply zB | apply zC)); exact HO_qj.out⟩, ⟨by (with_reducible repeat (first | apply zA | apply zB | apply zC)); exact HO_ql.out⟩, ⟨by (with_reducible repeat (first | refine zD ?_ _ | refine zE ?_ | refine zF ?_ _)); exact BK145.out⟩, ⟨by (with_reducible repeat (first | refine zD ?_ _ | refine zE ?_ | refine zF ?_ _)); exact BK146.out⟩, ⟨by (with_reducible repeat (first | refine zD ?_ _ | refine zE ?_ | refine zF ?_ _)); exact BK154.out⟩, ⟨by (with_reducible repeat (first | refine zD ?_ _ | refine zE ?_ | refine zF ?_ _)); exact BK163.out⟩, ⟨by repeat (first | (with_reducible first | exact HB.out | apply zG | apply zH | apply zI | refine zL ?_ GE145.out | refine zL ?_ GE146.out | refine zL ?_ GE154.out | refine zL ?_ GE163.out) | exact HB.out)⟩⟩
     ·rw [if_neg c95] at H
      have c95b0 : (t179 == 0) = false := yK.mpr c95
      have c95b1 : (t179 != 0) = true := yL.mpr c95
      (first | rw [c95b0] | (simp only [i64_w, i32_w]; rw [c95b0]) | skip)
      have H' := zK H
      clear H
      go_wp2_with (first | ((with_reducible refine gate_callee (f := 19) rfl ?_); refine goesL_ (some 60) rfl rfl Try.func19 (by kernel_rfl) rfl #[.int .i64 t162] rfl zt ?_; (with_reducible refine (tollbarlaw0_Num.calls t162 t179 _ A94.out).mono ?_); rintro e w' ⟨rfl, ⟨nd, rfl⟩⟩; refine ⟨_, rfl, ?_⟩))
      go_meet
      case rel => exact ⟨_, (true), zz, H', ⟨by have := HJ5.out; first | omega | exact Nat.le_refl _⟩, ⟨by (with_reducible repeat (first | apply zA | apply zB | apply zC)); exact HO_qg.out⟩, ⟨by (with_reducible repeat (first | apply zA | apply zB | apply zC)); exact HO_qi.out⟩, ⟨by (with_reducible repeat (first | apply zA | apply zB | apply zC)); exact HO_qj.out⟩, ⟨by (with_reducible repeat (first | apply zA | apply zB | apply zC)); exact HO_ql.out⟩, ⟨by (with_reducible repeat (first | refine zD ?_ _ | refine zE ?_ | refine zF ?_ _)); exact BK145.out⟩, ⟨by (with_reducible repeat (first | refine zD ?_ _ | refine zE ?_ | refine zF ?_ _)); exact BK146.out⟩, ⟨by (with_reducible repeat (first | refine zD ?_ _ | refine zE ?_ | refine zF ?_ _)); exact BK154.out⟩, ⟨by (with_reducible repeat (first | refine zD ?_ _ | refine zE ?_ | refine zF ?_ _)); exact BK163.out⟩, ⟨by repeat (first | (with_reducible first | exact HB.out | apply zG | apply zH | apply zI | refine zL ?_ GE145.out | refine zL ?_ GE146.out | refine zL ?_ GE154.out | refine zL ?_ GE163.out) | exact HB.out)⟩⟩
    case rest =>
     clear HC88
     try clear c1
     try clear c2
     try clear p2
     try clear c3
     try clear c4
     try clear c5
     try clear c6
     try clear c7
     try clear c8
     try clear c9
     try clear c10
     try clear c11
     try clear c12
     try clear c14
     try clear c15
     try clear c18
     try clear c19
     try clear c22
     try clear c23
     try clear c24
     try clear c29
     try clear c30
     try clear c31
     try clear c32
     try clear c33
     try clear c37
     try clear c38
     try clear c40
     try clear c42
     try clear c42b0
     try clear c42b1
     try clear c43
     try clear c43b0
     try clear c43b1
     try clear c43b2
     try clear c46
     try clear c47
     try clear c48
     try clear c50
     try clear c51
     try clear c53
     try clear c57
     try clear c58
     try clear c59
     try clear c64
     try clear c66
     try clear c66b0
     try clear c66b1
     try clear c67
     try clear c67b0
     try clear c67b1
     try clear c67b2
     try clear c70
     try clear c71
     try clear c72
     try clear c74
     try clear c75
     try clear c77
     try clear c81
     try clear c82
     try clear c83
     try clear c89
     try clear c90
     try clear c91
     try clear c95
     try clear c95b0
     try clear c95b1
     try clear c96
     try clear c99
     try clear c100
     try clear c101
     try clear hcz102_0
     try clear hcz102_1
     try clear hcz102_2
     try clear hcz10_0
     try clear hcz10_1
     try clear hcz10_2
     try clear hcz16_0
     try clear hcz16_1
     try clear hcz16_2
     try clear hcz18_0
     try clear hcz18_1
     try clear hcz18_2
     try clear hcz25_0
     try clear hcz25_1
     try clear hcz25_2
     try clear hcz27_0
     try clear hcz27_1
     try clear hcz27_2
     try clear hcz34_0
     try clear hcz34_1
     try clear hcz34_2
     try clear hcz49_0
     try clear hcz49_1
     try clear hcz49_2
     try clear hcz52_0
     try clear hcz52_1
     try clear hcz52_2
     try clear hcz54_0
     try clear hcz54_1
     try clear hcz54_2
     try clear hcz60_0
     try clear hcz60_1
     try clear hcz60_2
     try clear hcz73_0
     try clear hcz73_1
     try clear hcz73_2
     try clear hcz76_0
     try clear hcz76_1
     try clear hcz76_2
     try clear hcz78_0
     try clear hcz78_1
     try clear hcz78_2
     try clear hcz84_0
     try clear hcz84_1
     try clear hcz84_2
     try clear hcz92_0
     try clear hcz92_1
     try clear hcz92_2
     try clear hfz102_0
     try clear hfz102_1
     try clear hfz102_2
     try clear hfz10_0
     try clear hfz10_1
     try clear hfz10_2
     try clear hfz16_0
     try clear hfz16_1
     try clear hfz16_2
     try clear hfz18_0
     try clear hfz18_1
     try clear hfz18_2
     try clear hfz25_0
     try clear hfz25_1
     try clear hfz25_2
     try clear hfz27_0
     try clear hfz27_1
     try clear hfz27_2
     try clear hfz34_0
     try clear hfz34_1
     try clear hfz34_2
     try clear hfz49_0
     try clear hfz49_1
     try clear hfz49_2
     try clear hfz52_0
     try clear hfz52_1
     try clear hfz52_2
     try clear hfz54_0
     try clear hfz54_1
     try clear hfz54_2
     try clear hfz60_0
     try clear hfz60_1
     try clear hfz60_2
     try clear hfz73_0
     try clear hfz73_1
     try clear hfz73_2
     try clear hfz76_0
     try clear hfz76_1
     try clear hfz76_2
     try clear hfz78_0
     try clear hfz78_1
     try clear hfz78_2
     try clear hfz84_0
     try clear hfz84_1
     try clear hfz84_2
     try clear hfz92_0
     try clear hfz92_1
     try clear hfz92_2
     try clear p2
     obtain ⟨kq, x73_87, rfl, HA, HJ87, HO_qg, HO_qi, HO_qj, HO_ql, BK145, BK146, BK154, BK163, HB⟩ := hcut
     cases kq with
     | zero => exact absurd HA.out (by simp [tollbarlaw17_TreeDeletes.j1])
     | succ kj87 =>
      have H := HA.out
      clear HA
      simp only [tollbarlaw17_TreeDeletes.j1] at H
      by_cases c107 : x73_87 = true
      ·subst c107
       have H1 : (some false) = some r := by rw [if_pos rfl] at H; exact H
       clear H
       have H := H1
       clear H1
       obtain rfl := Option.some.inj H
       go_wp2
       go_ret
       exact ⟨ze, zl HB.out⟩
      ·replace c107 := Bool.eq_false_iff.mpr c107
       subst c107
       have H1 : ((tollbarlaw0_SpoilTree.f kj87 t155 t158 t159).bind fun bt184 => ((tollbarlaw17_awake.f).bind fun t186 => (if t186 = true then ((tollbarlaw0_SameTree.f kj87 t147 t150 t151 l0_0 a0_1 l0_2).bind fun t187 => (some t187)) else (some false)))) = some r := by rw [if_neg (show ¬ (false = true) by decide)] at H; exact H
       clear H
       have H := H1
       clear H1
       replace H := yH.mp H
       obtain ⟨⟨t184, t185⟩, A1080, H⟩ := H
       replace H : ((tollbarlaw17_awake.f).bind fun t186 => (if t186 = true then ((tollbarlaw0_SameTree.f kj87 t147 t150 t151 l0_0 a0_1 l0_2).bind fun t187 => (some t187)) else (some false))) = some r := H
       have A108 := zK A1080
       clear A1080
       replace H := yH.mp H
       obtain ⟨t186, A1090, H⟩ := H
       replace H : (if t186 = true then ((tollbarlaw0_SameTree.f kj87 t147 t150 t151 l0_0 a0_1 l0_2).bind fun t187 => (some t187)) else (some false)) = some r := H
       have A109 := zK A1090
       clear A1090
       by_cases c110 : t186 = true
       ·subst c110
        have H1 : ((tollbarlaw0_SameTree.f kj87 t147 t150 t151 l0_0 a0_1 l0_2).bind fun t187 => (some t187)) = some r := by rw [if_pos rfl] at H; exact H
        clear H
        have H := H1
        clear H1
        replace H := yH.mp H
        obtain ⟨t187, A1110, H⟩ := H
        replace H : (some t187) = some r := H
        have A111 := zK A1110
        clear A1110
        obtain rfl := Option.some.inj H
        have hnb112 := NB163_145.out
        have hnc112 := NB145_163.out
        have hnb113 := NB163_146.out
        have hnc113 := NB146_163.out
        have hnb114 := NB163_154.out
        have hnc114 := NB154_163.out
        have hcz115_0 : wc.cell? ⟨gb163, 0, none⟩ = some (.slice Ao21 t155.length co21) := (zQ BK163.out 0).trans rfl
        have hcz115_1 : wc.cell? ⟨gb163, 1, none⟩ = some (.int .i64 t158) := (zQ BK163.out 1).trans rfl
        have hcz115_2 : wc.cell? ⟨gb163, 2, none⟩ = some (.slice Ao26 t159.length co26) := (zQ BK163.out 2).trans rfl
        have hfz115_0 := zR BK163.out 0
        have hfz115_1 := zR BK163.out 1
        have hfz115_2 := zR BK163.out 2
        go_wp2_with (first | ((with_reducible refine gate_callee (f := 29) rfl ?_); refine goesL_ (some 75) rfl rfl Try.func29 (by kernel_rfl) rfl #[.agg #[.slice Ao21 t155.length co21, .int .i64 t158, .slice Ao26 t159.length co26]] rfl zt ?_; (with_reducible refine (tollbarlaw0_SpoilTree.calls kj87 (fun k_ => some k_ = (.slice Ao21 t155.length co21 : Value).ownBlock) (.slice Ao21 t155.length co21) t155 t158 (fun k_ => some k_ = (.slice Ao26 t159.length co26 : Value).ownBlock) (.slice Ao26 t159.length co26) t159 t184 t185 w _ ?side1 ?side2 ?side3 A108.out).mono ?_); (case side1 => repeat (first | (with_reducible first | exact HB.out | apply zG | apply zH | apply zI | refine zL ?_ GE145.out | refine zL ?_ GE146.out | refine zL ?_ GE154.out | refine zL ?_ GE163.out) | exact HB.out)); (case side2 => exact Kd.R_tight rfl HO_qj.out); (case side3 => exact Kd.R_tight rfl HO_ql.out); rintro e w116 ⟨rfl, hy0, hy1, hb, hkp⟩; refine ⟨_, rfl, ?_⟩; have n0_ := zK (Kd.R_mono (ok' := fun k_ => some k_ ≠ (.slice Ao21 t155.length co21 : Value).ownBlock) (Kd.R_keptB ((Kd.R_apart' HO_qg.out (Kd.R_typed HO_ql.out) (by decide))) hkp (fun k_ hk_ hs_ => Or.elim hs_ (fun e_ => (hk_.1) e_) (fun e_ => (hk_.2) e_))) (fun k_ hk_ => hk_.1.1)); have n1_ := zK (Kd.R_mono (ok' := fun k_ => some k_ ≠ (.slice Ao26 t159.length co26 : Value).ownBlock) (Kd.R_keptB ((Kd.R_apart' HO_qi.out (Kd.R_typed HO_qj.out) (by decide))) hkp (fun k_ hk_ hs_ => Or.elim hs_ (fun e_ => (hk_.2) e_) (fun e_ => (hk_.1) e_))) (fun k_ hk_ => hk_.1.1)); have n2_ := zK (Kd.R_reok rfl hy0 (fun k_ e_ => HO_qj.out.1 k_ e_)); have n3_ := zK (Kd.R_reok rfl hy1 (fun k_ e_ => HO_ql.out.1 k_ e_)); have n4_ := zK (blk_kept (zb BK145.out) hkp (fun hs_ => Or.elim hs_ (fun e_ => (fun e_ => (Kd.R_ne HO_qj.out BK145.out (by decide)) e_) e_) (fun e_ => (fun e_ => (Kd.R_ne HO_ql.out BK145.out (by decide)) e_) e_))); have n5_ := zK (blk_kept (zb BK146.out) hkp (fun hs_ => Or.elim hs_ (fun e_ => (fun e_ => (Kd.R_ne HO_qj.out BK146.out (by decide)) e_) e_) (fun e_ => (fun e_ => (Kd.R_ne HO_ql.out BK146.out (by decide)) e_) e_))); have n6_ := zK (blk_kept (zb BK154.out) hkp (fun hs_ => Or.elim hs_ (fun e_ => (fun e_ => (Kd.R_ne HO_qj.out BK154.out (by decide)) e_) e_) (fun e_ => (fun e_ => (Kd.R_ne HO_ql.out BK154.out (by decide)) e_) e_))); have n7_ := zK (blk_kept (zb BK163.out) hkp (fun hs_ => Or.elim hs_ (fun e_ => (fun e_ => (Kd.R_ne HO_qj.out BK163.out (by decide)) e_) e_) (fun e_ => (fun e_ => (Kd.R_ne HO_ql.out BK163.out (by decide)) e_) e_))); have n8_ := zK (hb); clear HO_qg; clear HO_qi; clear HO_qj; clear HO_ql; clear BK145; clear BK146; clear BK154; clear BK163; clear HB; have HO_qg := n0_; have HO_qi := n1_; have HO_qj := n2_; have HO_ql := n3_; have BK145 := n4_; have BK146 := n5_; have BK154 := n6_; have BK163 := n7_; have HB := n8_; clear n0_ n1_ n2_ n3_ n4_ n5_ n6_ n7_ n8_; (try clear hb); (try clear hkp); (try clear hy0); (try clear hy1)) | ((with_reducible refine gate_callee (f := 18) rfl ?_); refine goesL_ (some 76) rfl rfl Try.func18 (by kernel_rfl) rfl #[] rfl zt ?_; (with_reducible refine (tollbarlaw17_awake.calls  true _ A109.out).mono ?_); rintro e w117 ⟨rfl, hb⟩; refine ⟨_, rfl, ?_⟩; have n0_ := zK (zO (zr HO_qg.out) hb); have n1_ := zK (zO (zr HO_qi.out) hb); have n2_ := zK (zO (zr HO_qj.out) hb); have n3_ := zK (zO (zr HO_ql.out) hb); have n4_ := zK (zP (g := gb145) (o := .cells #[.slice A0_0 l0_0.length c0_0, .int .i64 a0_1, .slice A0_2 l0_2.length c0_2] 25 (0, 0)) (zb BK145.out) hb); have n5_ := zK (zP (g := gb146) (o := .cells #[.int .i64 a1_0, .int .i64 a1_1, .int .i64 a1_2] 50 (0, 0)) (zb BK146.out) hb); have n6_ := zK (zP (g := gb154) (o := .cells #[.slice Ao13 t147.length co13, .int .i64 t150, .slice Ao17 t151.length co17] 25 (0, 0)) (zb BK154.out) hb); have n7_ := zK (zP (g := gb163) (o := .cells #[.slice Ao21 t155.length co21, .int .i64 t158, .slice Ao26 t159.length co26] 25 (0, 0)) (zb BK163.out) hb); have n8_ := zK (yF (zl HB.out) hb); clear HO_qg; clear HO_qi; clear HO_qj; clear HO_ql; clear BK145; clear BK146; clear BK154; clear BK163; clear HB; have HO_qg := n0_; have HO_qi := n1_; have HO_qj := n2_; have HO_ql := n3_; have BK145 := n4_; have BK146 := n5_; have BK154 := n6_; have BK163 := n7_; have HB := n8_; clear n0_ n1_ n2_ n3_ n4_ n5_ n6_ n7_ n8_; (try clear hb); (try clear hb2); (try clear hk); (try clear hi); have hnb118 := NB154_145.out; have hnc118 := NB145_154.out; have hnb119 := NB154_146.out; have hnc119 := NB146_154.out; have hcz120_0 : w117.cell? ⟨gb154, 0, none⟩ = some (.slice Ao13 t147.length co13) := (zQ BK154.out 0).trans rfl; have hcz120_1 : w117.cell? ⟨gb154, 1, none⟩ = some (.int .i64 t150) := (zQ BK154.out 1).trans rfl; have hcz120_2 : w117.cell? ⟨gb154, 2, none⟩ = some (.slice Ao17 t151.length co17) := (zQ BK154.out 2).trans rfl; have hfz120_0 := zR BK154.out 0; have hfz120_1 := zR BK154.out 1; have hfz120_2 := zR BK154.out 2; have hnb121 := NB145_146.out; have hnc121 := NB146_145.out; have hcz122_0 : w117.cell? ⟨gb145, 0, none⟩ = some (.slice A0_0 l0_0.length c0_0) := (zQ BK145.out 0).trans rfl; have hcz122_1 : w117.cell? ⟨gb145, 1, none⟩ = some (.int .i64 a0_1) := (zQ BK145.out 1).trans rfl; have hcz122_2 : w117.cell? ⟨gb145, 2, none⟩ = some (.slice A0_2 l0_2.length c0_2) := (zQ BK145.out 2).trans rfl; have hfz122_0 := zR BK145.out 0; have hfz122_1 := zR BK145.out 1; have hfz122_2 := zR BK145.out 2) | (go_at_call 17; (with_reducible refine (tollbarlaw0_SameTree.calls kj87 _ _ t147 t150 _ _ t151 _ _ l0_0 a0_1 _ _ l0_2 t187 _ ?side1 ?side2 ?side3 ?side4 ?side5 ?side6 ?side7 ?side8 A111.out).mono ?_); (case side1 => exact zc (zX HO_qg.out).2.2); (case side2 => exact (zX HO_qg.out).2.1); (case side3 => exact zc (zX HO_qi.out).2.2); (case side4 => exact (zX HO_qi.out).2.1); (case side5 => repeat (first | exact (yD HR0_0.out HB.out) | (with_reducible refine zS ?_ _) | (with_reducible refine zT ?_ _) | (with_reducible refine zU ?_))); (case side6 => exact HC0_0.out); (case side7 => repeat (first | exact (yD HR0_2.out HB.out) | (with_reducible refine zS ?_ _) | (with_reducible refine zT ?_ _) | (with_reducible refine zU ?_))); (case side8 => exact HC0_2.out); rintro e w123 ⟨rfl, hb⟩; have n0_ := zK (zO (zr HO_qg.out) hb); have n1_ := zK (zO (zr HO_qi.out) hb); have n2_ := zK (zO (zr HO_qj.out) hb); have n3_ := zK (zO (zr HO_ql.out) hb); have n4_ := zK (zP (g := gb145) (o := .cells #[.slice A0_0 l0_0.length c0_0, .int .i64 a0_1, .slice A0_2 l0_2.length c0_2] 25 (0, 0)) (zb BK145.out) hb); have n5_ := zK (zP (g := gb146) (o := .cells #[.int .i64 a1_0, .int .i64 a1_1, .int .i64 a1_2] 50 (0, 0)) (zb BK146.out) hb); have n6_ := zK (zP (g := gb154) (o := .cells #[.slice Ao13 t147.length co13, .int .i64 t150, .slice Ao17 t151.length co17] 25 (0, 0)) (zb BK154.out) hb); have n7_ := zK (zP (g := gb163) (o := .cells #[.slice Ao21 t155.length co21, .int .i64 t158, .slice Ao26 t159.length co26] 25 (0, 0)) (zb BK163.out) hb); have n8_ := zK (yF (zl HB.out) hb); clear HO_qg; clear HO_qi; clear HO_qj; clear HO_ql; clear BK145; clear BK146; clear BK154; clear BK163; clear HB; have HO_qg := n0_; have HO_qi := n1_; have HO_qj := n2_; have HO_ql := n3_; have BK145 := n4_; have BK146 := n5_; have BK154 := n6_; have BK163 := n7_; have HB := n8_; clear n0_ n1_ n2_ n3_ n4_ n5_ n6_ n7_ n8_; (try clear hb); (try clear hb2); (try clear hk); (try clear hi)))
        go_ret
        exact ⟨ze, zl HB.out⟩
       ·replace c110 := Bool.eq_false_iff.mpr c110
        subst c110
        have H1 : (some false) = some r := by rw [if_neg (show ¬ (false = true) by decide)] at H; exact H
        clear H
        have H := H1
        clear H1
        obtain rfl := Option.some.inj H
        have hnb124 := NB163_145.out
        have hnc124 := NB145_163.out
        have hnb125 := NB163_146.out
        have hnc125 := NB146_163.out
        have hnb126 := NB163_154.out
        have hnc126 := NB154_163.out
        have hcz127_0 : wc.cell? ⟨gb163, 0, none⟩ = some (.slice Ao21 t155.length co21) := (zQ BK163.out 0).trans rfl
        have hcz127_1 : wc.cell? ⟨gb163, 1, none⟩ = some (.int .i64 t158) := (zQ BK163.out 1).trans rfl
        have hcz127_2 : wc.cell? ⟨gb163, 2, none⟩ = some (.slice Ao26 t159.length co26) := (zQ BK163.out 2).trans rfl
        have hfz127_0 := zR BK163.out 0
        have hfz127_1 := zR BK163.out 1
        have hfz127_2 := zR BK163.out 2
        go_wp2_with (first | ((with_reducible refine gate_callee (f := 29) rfl ?_); refine goesL_ (some 75) rfl rfl Try.func29 (by kernel_rfl) rfl #[.agg #[.slice Ao21 t155.length co21, .int .i64 t158, .slice Ao26 t159.length co26]] rfl zt ?_; (with_reducible refine (tollbarlaw0_SpoilTree.calls kj87 (fun k_ => some k_ = (.slice Ao21 t155.length co21 : Value).ownBlock) (.slice Ao21 t155.length co21) t155 t158 (fun k_ => some k_ = (.slice Ao26 t159.length co26 : Value).ownBlock) (.slice Ao26 t159.length co26) t159 t184 t185 w _ ?side1 ?side2 ?side3 A108.out).mono ?_); (case side1 => repeat (first | (with_reducible first | exact HB.out | apply zG | apply zH | apply zI | refine zL ?_ GE145.out | refine zL ?_ GE146.out | refine zL ?_ GE154.out | refine zL ?_ GE163.out) | exact HB.out)); (case side2 => exact Kd.R_tight rfl HO_qj.out); (case side3 => exact Kd.R_tight rfl HO_ql.out); rintro e w128 ⟨rfl, hy0, hy1, hb, hkp⟩; refine ⟨_, rfl, ?_⟩; have n0_ := zK (Kd.R_mono (ok' := fun k_ => some k_ ≠ (.slice Ao21 t155.length co21 : Value).ownBlock) (Kd.R_keptB ((Kd.R_apart' HO_qg.out (Kd.R_typed HO_ql.out) (by decide))) hkp (fun k_ hk_ hs_ => Or.elim hs_ (fun e_ => (hk_.1) e_) (fun e_ => (hk_.2) e_))) (fun k_ hk_ => hk_.1.1)); have n1_ := zK (Kd.R_mono (ok' := fun k_ => some k_ ≠ (.slice Ao26 t159.length co26 : Value).ownBlock) (Kd.R_keptB ((Kd.R_apart' HO_qi.out (Kd.R_typed HO_qj.out) (by decide))) hkp (fun k_ hk_ hs_ => Or.elim hs_ (fun e_ => (hk_.2) e_) (fun e_ => (hk_.1) e_))) (fun k_ hk_ => hk_.1.1)); have n2_ := zK (Kd.R_reok rfl hy0 (fun k_ e_ => HO_qj.out.1 k_ e_)); have n3_ := zK (Kd.R_reok rfl hy1 (fun k_ e_ => HO_ql.out.1 k_ e_)); have n4_ := zK (blk_kept (zb BK145.out) hkp (fun hs_ => Or.elim hs_ (fun e_ => (fun e_ => (Kd.R_ne HO_qj.out BK145.out (by decide)) e_) e_) (fun e_ => (fun e_ => (Kd.R_ne HO_ql.out BK145.out (by decide)) e_) e_))); have n5_ := zK (blk_kept (zb BK146.out) hkp (fun hs_ => Or.elim hs_ (fun e_ => (fun e_ => (Kd.R_ne HO_qj.out BK146.out (by decide)) e_) e_) (fun e_ => (fun e_ => (Kd.R_ne HO_ql.out BK146.out (by decide)) e_) e_))); have n6_ := zK (blk_kept (zb BK154.out) hkp (fun hs_ => Or.elim hs_ (fun e_ => (fun e_ => (Kd.R_ne HO_qj.out BK154.out (by decide)) e_) e_) (fun e_ => (fun e_ => (Kd.R_ne HO_ql.out BK154.out (by decide)) e_) e_))); have n7_ := zK (blk_kept (zb BK163.out) hkp (fun hs_ => Or.elim hs_ (fun e_ => (fun e_ => (Kd.R_ne HO_qj.out BK163.out (by decide)) e_) e_) (fun e_ => (fun e_ => (Kd.R_ne HO_ql.out BK163.out (by decide)) e_) e_))); have n8_ := zK (hb); clear HO_qg; clear HO_qi; clear HO_qj; clear HO_ql; clear BK145; clear BK146; clear BK154; clear BK163; clear HB; have HO_qg := n0_; have HO_qi := n1_; have HO_qj := n2_; have HO_ql := n3_; have BK145 := n4_; have BK146 := n5_; have BK154 := n6_; have BK163 := n7_; have HB := n8_; clear n0_ n1_ n2_ n3_ n4_ n5_ n6_ n7_ n8_; (try clear hb); (try clear hkp); (try clear hy0); (try clear hy1)) | ((with_reducible refine gate_callee (f := 18) rfl ?_); refine goesL_ (some 76) rfl rfl Try.func18 (by kernel_rfl) rfl #[] rfl zt ?_; (with_reducible refine (tollbarlaw17_awake.calls  false _ A109.out).mono ?_); rintro e w129 ⟨rfl, hb⟩; refine ⟨_, rfl, ?_⟩; have n0_ := zK (zO (zr HO_qg.out) hb); have n1_ := zK (zO (zr HO_qi.out) hb); have n2_ := zK (zO (zr HO_qj.out) hb); have n3_ := zK (zO (zr HO_ql.out) hb); have n4_ := zK (zP (g := gb145) (o := .cells #[.slice A0_0 l0_0.length c0_0, .int .i64 a0_1, .slice A0_2 l0_2.length c0_2] 25 (0, 0)) (zb BK145.out) hb); have n5_ := zK (zP (g := gb146) (o := .cells #[.int .i64 a1_0, .int .i64 a1_1, .int .i64 a1_2] 50 (0, 0)) (zb BK146.out) hb); have n6_ := zK (zP (g := gb154) (o := .cells #[.slice Ao13 t147.length co13, .int .i64 t150, .slice Ao17 t151.length co17] 25 (0, 0)) (zb BK154.out) hb); have n7_ := zK (zP (g := gb163) (o := .cells #[.slice Ao21 t155.length co21, .int .i64 t158, .slice Ao26 t159.length co26] 25 (0, 0)) (zb BK163.out) hb); have n8_ := zK (yF (zl HB.out) hb); clear HO_qg; clear HO_qi; clear HO_qj; clear HO_ql; clear BK145; clear BK146; clear BK154; clear BK163; clear HB; have HO_qg := n0_; have HO_qi := n1_; have HO_qj := n2_; have HO_ql := n3_; have BK145 := n4_; have BK146 := n5_; have BK154 := n6_; have BK163 := n7_; have HB := n8_; clear n0_ n1_ n2_ n3_ n4_ n5_ n6_ n7_ n8_; (try clear hb); (try clear hb2); (try clear hk); (try clear hi)))
        go_ret
        exact ⟨ze, zl HB.out⟩
end Go.Proofs.Ytgkjpffbgnljeaa.QL
/- A tree as a structure of Lean, and its cells. -/
set_option linter.unusedVariables false
namespace Go.Proofs.Ytgkjpffbgnljeaa.Man
open Go.RowKit Go.Proofs.Ytgkjpffbgnljeaa.QT Go.Proofs.YtgkjpffbgnljeaaW.PrintWords Go.Proofs.YtgkjpffbgnljeaaW.PrintLast Go.Proofs.YtgkjpffbgnljeaaW.PrintMore
structure S25 where
 f0 : List S64
 f1 : Int
 f2 : List Int
def k25 : Kd S25 := Kd.iso (Kd.pair (Kd.slice 64 k64) (Kd.pair (Kd.int .i64) (Kd.slice 3 (Kd.int .i64)))) (fun x : S25 => (x.f0, x.f1, x.f2))
theorem k25_open {w : World} {x : S25} {cs : List Value} (h : k25.K w x cs) : ∃ A0 c0 A2 c2, cs = [.slice A0 x.f0.length c0, .int .i64 x.f1, .slice A2 x.f2.length c2] ∧ x.f0.length ≤ c0 ∧ k64.C w A0 x.f0.length x.f0 ∧ x.f2.length ≤ c2 ∧ (Kd.int .i64).C w A2 x.f2.length x.f2 := by
 obtain ⟨_, _, rfl, ⟨A0, c0, rfl, l0, g0⟩, ⟨_, _, rfl, rfl, ⟨A2, c2, rfl, l2, g2⟩⟩⟩ := h
 exact ⟨A0, c0, A2, c2, rfl, l0, g0, l2, g2⟩
end Go.Proofs.Ytgkjpffbgnljeaa.Man
/- How the parameters of the law TreeDeletes are read. -/
set_option linter.unusedVariables false
namespace Go.Proofs.Ytgkjpffbgnljeaa.OpsTreeDeletes
open Go.RowKit Go.Proofs.YtgkjpffbgnljeaaW.PrintWords Go.Proofs.YtgkjpffbgnljeaaW.PrintLast Go.Proofs.YtgkjpffbgnljeaaW.PrintMore Go.Proofs.Ytgkjpffbgnljeaa.Op Go.Proofs.Ytgkjpffbgnljeaa.QL Go.Proofs.Ytgkjpffbgnljeaa.Man Go.Proofs.Ytgkjpffbgnljeaa.QT Go.Proofs.Ytgkjpffbgnljeaa.QA Go.Proofs.Ytgkjpffbgnljeaa.Man
theorem op3 : Opens Try.prog 3 (Kd.int .i64) (fun n => (Lit.int .i64 n).wf = true) (fun _ => 1) := opens_int Try.underlying3
def I27 (s : S27) : Prop := (fun n : Int => (Lit.int .i64 n).wf = true) s.f0 ∧ (fun n : Int => (Lit.int .i64 n).wf = true) s.f1
def B27 (s : S27) : Nat := ((fun _ : Int => 1) s.f0 + ((fun _ : Int => 1) s.f1)) + 1
theorem op27 : Opens Try.prog 27 k27 I27 B27 := opens_struct Try.underlying27 (by kernel_rfl) (fun s : S27 => (s.f0, s.f1)) (fun p => ⟨p.1, p.2⟩) (fun _ => rfl) (opens_cons (by first | rfl | kernel_rfl) (by kernel_rfl) op3 (opens_last (by first | rfl | kernel_rfl) (by kernel_rfl) op3))
def I50 (s : S50) : Prop := I27 s.f0 ∧ (fun n : Int => (Lit.int .i64 n).wf = true) s.f1
def B50 (s : S50) : Nat := (B27 s.f0 + ((fun _ : Int => 1) s.f1)) + 1
theorem op50 : Opens Try.prog 50 k50 I50 B50 := opens_struct Try.underlying50 (by kernel_rfl) (fun s : S50 => (s.f0, s.f1)) (fun p => ⟨p.1, p.2⟩) (fun _ => rfl) (opens_cons (by first | rfl | kernel_rfl) (by kernel_rfl) op27 (opens_last (by first | rfl | kernel_rfl) (by kernel_rfl) op3))
def I64 (s : S64) : Prop := I50 s.f0 ∧ (fun n : Int => (Lit.int .i64 n).wf = true) s.f1 ∧ (fun n : Int => (Lit.int .i64 n).wf = true) s.f2 ∧ (fun n : Int => (Lit.int .i64 n).wf = true) s.f3 ∧ (fun n : Int => (Lit.int .i64 n).wf = true) s.f4
def B64 (s : S64) : Nat := (B50 s.f0 + ((fun _ : Int => 1) s.f1 + ((fun _ : Int => 1) s.f2 + ((fun _ : Int => 1) s.f3 + ((fun _ : Int => 1) s.f4))))) + 1
theorem op64 : Opens Try.prog 64 k64 I64 B64 := opens_struct Try.underlying64 (by kernel_rfl) (fun s : S64 => (s.f0, s.f1, s.f2, s.f3, s.f4)) (fun p => ⟨p.1, p.2.1, p.2.2.1, p.2.2.2.1, p.2.2.2.2⟩) (fun _ => rfl) (opens_cons (by first | rfl | kernel_rfl) (by kernel_rfl) op50 (opens_cons (by first | rfl | kernel_rfl) (by kernel_rfl) op3 (opens_cons (by first | rfl | kernel_rfl) (by kernel_rfl) op3 (opens_cons (by first | rfl | kernel_rfl) (by kernel_rfl) op3 (opens_last (by first | rfl | kernel_rfl) (by kernel_rfl) op3)))))
theorem op22 : Opens Try.prog 22 (Kd.slice 64 k64) (fun xs : List S64 => (∀ x ∈ xs, I64 x) ∧ xs.length * 56 ≤ 140737488351232) (fun xs : List S64 => (xs.map B64).sum + 1) := opens_slice Try.underlying22 (m := 56) (by kernel_rfl) op64 (by kernel_rfl)
theorem op23 : Opens Try.prog 23 (Kd.slice 3 (Kd.int .i64)) (fun xs : List Int => (∀ x ∈ xs, (fun n : Int => (Lit.int .i64 n).wf = true) x) ∧ xs.length * 8 ≤ 140737488351232) (fun xs : List Int => (xs.map (fun _ : Int => 1)).sum + 1) := opens_slice Try.underlying23 (m := 8) (by kernel_rfl) op3 (by kernel_rfl)
def I25 (s : S25) : Prop := (fun xs : List S64 => (∀ x ∈ xs, I64 x) ∧ xs.length * 56 ≤ 140737488351232) s.f0 ∧ (fun n : Int => (Lit.int .i64 n).wf = true) s.f1 ∧ (fun xs : List Int => (∀ x ∈ xs, (fun n : Int => (Lit.int .i64 n).wf = true) x) ∧ xs.length * 8 ≤ 140737488351232) s.f2
def B25 (s : S25) : Nat := ((fun xs : List S64 => (xs.map B64).sum + 1) s.f0 + ((fun _ : Int => 1) s.f1 + ((fun xs : List Int => (xs.map (fun _ : Int => 1)).sum + 1) s.f2))) + 1
theorem op25 : Opens Try.prog 25 k25 I25 B25 := opens_struct Try.underlying25 (by kernel_rfl) (fun s : S25 => (s.f0, s.f1, s.f2)) (fun p => ⟨p.1, p.2.1, p.2.2⟩) (fun _ => rfl) (opens_cons (by first | rfl | kernel_rfl) (by kernel_rfl) op22 (opens_cons (by first | rfl | kernel_rfl) (by kernel_rfl) op3 (opens_last (by first | rfl | kernel_rfl) (by kernel_rfl) op23)))
end Go.Proofs.Ytgkjpffbgnljeaa.OpsTreeDeletes
/- tollbarref17.hung: what it answers, plain. -/
set_option linter.unusedVariables false
set_option linter.unusedSimpArgs false
namespace Go.Proofs.Ytgkjpffbgnljeaa.Man
open Go.RowKit Go.Proofs.Ytgkjpffbgnljeaa.QT Go.Proofs.Ytgkjpffbgnljeaa.QA Go.Proofs.Ytgkjpffbgnljeaa.TreeM Go.Proofs.YtgkjpffbgnljeaaW.PrintWords Go.Proofs.YtgkjpffbgnljeaaW.PrintLast Go.Proofs.YtgkjpffbgnljeaaW.PrintMore
def seenB (nn : Nat) (S : Nat → Bool) : List Bool := (List.range nn).map S
theorem seenB_length (nn : Nat) (S : Nat → Bool) : (seenB nn S).length = nn := by simp [seenB]
theorem seenB_rd {nn : Nat} (S : Nat → Bool) {p : Nat} (hp : p < nn) : rdOf false (seenB nn S) (p : Int) = S p := by
 unfold rdOf seenB
 rw [Int.toNat_natCast, List.getD, List.getElem?_map, List.getElem?_range hp]
 rfl
theorem seenB_set {nn : Nat} (S : Nat → Bool) (p : Nat) : (seenB nn S).set p true = seenB nn (plus S p) := by
 apply List.ext_getElem?
 intro j
 unfold seenB plus
 rw [List.getElem?_set, List.getElem?_map, List.getElem?_map]
 by_cases hj : j < nn
 ·rw [List.getElem?_range hj]
  by_cases e : p = j
  ·subst e; simp [hj]
  ·simp [e, Ne.symm e]
 ·have e2 : (List.range nn)[j]? = none := List.getElem?_eq_none (by simp; omega)
  rw [e2]
  by_cases e : p = j
  ·subst e; simp [hj]
  ·simp [e]
theorem hung_j1 (k : Nat) (x2 : List Bool) (ls rs : List It) (lh lm rh rm : Int) (c : Bool) (y0 y1 y2 y3 y4 y5 y6 : Int) (h1 : ls.length ≤ 1000) (h2 : rs.length ≤ 1000) (hl : 0 ≤ lh ∧ lh ≤ 1000) (hr : 0 ≤ rh ∧ rh ≤ 1000) :
  tollbarref17_hung.j1 (k + 3) x2 ls lh lm rs rh rm c y0 y1 y2 y3 y4 y5 y6 = some (if c = false ∧ y5 = 1 + max lh rh ∧ y6 = max y1 (max lm rm) then (ls ++ ⟨⟨y0, y1⟩, y2⟩ :: rs, 1 + max lh rh, max y1 (max lm rm), true, x2) else ([], 0, 0, false, x2)) := by
 have j3 : ∀ (h m : Int), 0 ≤ h ∧ h ≤ 1000 → tollbarref17_hung.j3 (k + 1) x2 ls rs h m y0 y1 y2 y3 y4 y5 y6 = some (if y5 = 1 + h ∧ y6 = max y1 m then (ls ++ ⟨⟨y0, y1⟩, y2⟩ :: rs, 1 + h, max y1 m, true, x2) else ([], 0, 0, false, x2)) := by
  intro h m hh
  have hw : wrap64 (h + 1) = 1 + h := by unfold wrap64; omega
  rw [tollbarref17_hung.j3, hw]
  have e1 : ([] : List It).length + ls.length < 5864062014805 := by simp; omega
  have e2 : (([] : List It) ++ ls).length < 5864062014805 := by simp; omega
  have e3 : (([] ++ ls) ++ [(⟨⟨y0, y1⟩, y2⟩ : It)]).length + rs.length < 5864062014805 := by simp; omega
  simp only [Option.bind_some, if_pos e1, if_pos e2, if_pos e3]
  by_cases g1 : y1 > m
  ·rw [if_pos g1, Int.max_eq_left (by omega)]
   by_cases g2 : y5 = 1 + h
   ·rw [if_pos g2]
    by_cases g3 : y6 = y1
    ·rw [if_pos g3, if_pos ⟨g2, g3⟩]; simp
    ·rw [if_neg g3, if_neg (fun g => g3 g.2)]
   ·rw [if_neg g2, if_neg (fun g => g2 g.1)]
  ·rw [if_neg g1, Int.max_eq_right (by omega)]
   by_cases g2 : y5 = 1 + h
   ·rw [if_pos g2]
    by_cases g3 : y6 = m
    ·rw [if_pos g3, if_pos ⟨g2, g3⟩]; simp
    ·rw [if_neg g3, if_neg (fun g => g3 g.2)]
   ·rw [if_neg g2, if_neg (fun g => g2 g.1)]
 have j2 : ∀ (h : Int), 0 ≤ h ∧ h ≤ 1000 → tollbarref17_hung.j2 (k + 2) x2 ls rs rm h lm y0 y1 y2 y3 y4 y5 y6 = some (if y5 = 1 + h ∧ y6 = max y1 (max lm rm) then (ls ++ ⟨⟨y0, y1⟩, y2⟩ :: rs, 1 + h, max y1 (max lm rm), true, x2) else ([], 0, 0, false, x2)) := by
  intro h hh
  rw [tollbarref17_hung.j2]
  by_cases g : rm > lm
  ·rw [if_pos g, j3 h rm hh, show max lm rm = rm from Int.max_eq_right (by omega)]
  ·rw [if_neg g, j3 h lm hh, show max lm rm = lm from Int.max_eq_left (by omega)]
 rw [tollbarref17_hung.j1]
 cases c with
 | true => simp
 | false =>
  rw [if_neg (by decide)]
  by_cases g : rh > lh
  ·rw [if_pos g, j2 rh hr, show max lh rh = rh from Int.max_eq_right (by omega)]; simp
  ·rw [if_neg g, j2 lh hl, show max lh rh = lh from Int.max_eq_left (by omega)]; simp
def HungIs (ns : List Nd) (S : Nat → Bool) (i : Int) (o : List It × Int × Int × Bool × List Bool) : Prop :=
 (∃ t, Good (cellN ns) ns.length S i t ∧ o = ((items t).map toI, (hgt t : Int), most t, true, seenB ns.length (plusT S t))) ∨
 ((∀ t, ¬ Good (cellN ns) ns.length S i t) ∧ ∃ S' : Nat → Bool, (∀ k, S k = true → S' k = true) ∧ o = ([], 0, 0, false, seenB ns.length S'))
theorem plus_le {S : Nat → Bool} {p : Nat} : ∀ k, S k = true → plus S p k = true := fun k h => by unfold plus; rw [h]; rfl
theorem plusT_le {S : Nat → Bool} {t : T} : ∀ k, S k = true → plusT S t k = true := fun k h => by unfold plusT; rw [h]; rfl
theorem Good.len {a : Cells} {nn : Nat} {S : Nat → Bool} {i : Int} {t : T} (h : Good a nn S i t) : (items t).length ≤ nn := by rw [items_places]; exact places_le h.within h.nodup
theorem hung_f (ns : List Nd) (fr : List Int) (root : Int) (hn : ns.length ≤ 32) : ∀ (m : Nat) (S : Nat → Bool) (i : Int) (k : Nat), unseen ns.length S ≤ m → 6 * m + 6 ≤ k →
  ∃ o, tollbarref17_hung.f k ns root fr i (seenB ns.length S) = some o ∧ HungIs ns S i o := by
 intro m
 induction m with
 | zero =>
  intro S i k hm hk
  obtain ⟨k, rfl⟩ : ∃ j, k = j + 2 := ⟨k - 2, by omega⟩
  rw [tollbarref17_hung.f]
  by_cases h1 : i = -1
  ·subst h1
   exact ⟨_, if_pos rfl, .inl ⟨.nil, good_nil _ _ _, by rw [plusT_nil]; rfl⟩⟩
  rw [if_neg h1]
  have bad : (∀ p : Nat, i = (p : Int) → p < ns.length → S p = true) → ∀ t, ¬ Good (cellN ns) ns.length S i t := by
   intro hb t h
   rcases h.range with e | ⟨p, e, hp, hS⟩
   ·exact h1 e
   ·rw [hb p e hp] at hS; cases hS
  have j0 : tollbarref17_hung.j0 (k + 1) i (seenB ns.length S) true ns root fr = some ([], 0, 0, false, seenB ns.length S) := by rw [tollbarref17_hung.j0, if_pos rfl]
  by_cases h2 : i < 0
  ·rw [if_pos h2, j0]
   exact ⟨_, rfl, .inr ⟨bad (fun p e _ => by omega), S, fun _ h => h, rfl⟩⟩
  rw [if_neg h2]
  by_cases h3 : i ≥ (ns.length : Int)
  ·rw [if_pos h3, j0]
   exact ⟨_, rfl, .inr ⟨bad (fun p e _ => by omega), S, fun _ h => h, rfl⟩⟩
  rw [if_neg h3, if_pos (by omega), if_pos (by rw [seenB_length]; omega)]
  obtain ⟨p, rfl⟩ : ∃ p : Nat, i = (p : Int) := ⟨i.toNat, by omega⟩
  have hp : p < ns.length := by omega
  rw [seenB_rd S hp]
  cases hS : S p with
  | true =>
   rw [j0]
   exact ⟨_, rfl, .inr ⟨bad (fun q e _ => by rw [← (show p = q by omega)]; exact hS), S, fun _ h => h, rfl⟩⟩
  | false => exact absurd (unseen_plus hp hS) (by omega)
 | succ m ih =>
  intro S i k hm hk
  obtain ⟨k, rfl⟩ : ∃ j, k = j + 3 + 2 := ⟨k - 5, by omega⟩
  rw [tollbarref17_hung.f]
  by_cases h1 : i = -1
  ·subst h1
   exact ⟨_, if_pos rfl, .inl ⟨.nil, good_nil _ _ _, by rw [plusT_nil]; rfl⟩⟩
  rw [if_neg h1]
  have bad : (∀ p : Nat, i = (p : Int) → p < ns.length → S p = true) → ∀ t, ¬ Good (cellN ns) ns.length S i t := by
   intro hb t h
   rcases h.range with e | ⟨p, e, hp, hS⟩
   ·exact h1 e
   ·rw [hb p e hp] at hS; cases hS
  have j0 : tollbarref17_hung.j0 (k + 3 + 1) i (seenB ns.length S) true ns root fr = some ([], 0, 0, false, seenB ns.length S) := by rw [tollbarref17_hung.j0, if_pos rfl]
  by_cases h2 : i < 0
  ·rw [if_pos h2, j0]
   exact ⟨_, rfl, .inr ⟨bad (fun p e _ => by omega), S, fun _ h => h, rfl⟩⟩
  rw [if_neg h2]
  by_cases h3 : i ≥ (ns.length : Int)
  ·rw [if_pos h3, j0]
   exact ⟨_, rfl, .inr ⟨bad (fun p e _ => by omega), S, fun _ h => h, rfl⟩⟩
  rw [if_neg h3, if_pos (by omega), if_pos (by rw [seenB_length]; omega)]
  obtain ⟨p, rfl⟩ : ∃ p : Nat, i = (p : Int) := ⟨i.toNat, by omega⟩
  have hp : p < ns.length := by omega
  rw [seenB_rd S hp]
  cases hS : S p with
  | true =>
   rw [j0]
   exact ⟨_, rfl, .inr ⟨bad (fun q e _ => by rw [← (show p = q by omega)]; exact hS), S, fun _ h => h, rfl⟩⟩
  | false =>
   clear bad j0 h1 h2 h3
   have hlt := unseen_plus hp hS
   have hrd : rd_T64 ns (p : Int) = ns.getD p z64 := by unfold rd_T64; rw [Int.toNat_natCast]
   have c0 := cellN_at ns p (k := 0) (by omega)
   have c1 := cellN_at ns p (k := 1) (by omega)
   have c2 := cellN_at ns p (k := 2) (by omega)
   have c3 := cellN_at ns p (k := 3) (by omega)
   have c4 := cellN_at ns p (k := 4) (by omega)
   have c5 := cellN_at ns p (k := 5) (by omega)
   have c6 := cellN_at ns p (k := 6) (by omega)
   rw [Nat.add_zero] at c0
   simp only [fieldN] at c0 c1 c2 c3 c4 c5 c6
   rw [tollbarref17_hung.j0, if_neg (by decide), if_pos (by omega), if_pos (by rw [seenB_length]; omega), if_pos (by omega), hrd, Int.toNat_natCast, seenB_set, ← c0, ← c1, ← c2, ← c3, ← c4, ← c5, ← c6]
   obtain ⟨oL, eL, hL⟩ := ih (plus S p) (cellN ns (p * 7 + 3)) (k + 3) (by omega) (by omega)
   rw [eL]
   simp only [Option.bind_some]
   obtain ⟨S2, e2, hle2⟩ : ∃ S2, oL.2.2.2.2 = seenB ns.length S2 ∧ ∀ k, plus S p k = true → S2 k = true := by
    rcases hL with ⟨l, _, e⟩ | ⟨_, S', h', e⟩
    ·exact ⟨_, by rw [e], plusT_le⟩
    ·exact ⟨S', by rw [e], h'⟩
   have hle3 := unseen_le (nn := ns.length) hle2
   obtain ⟨oR, eR, hR⟩ := ih S2 (cellN ns (p * 7 + 4)) (k + 3) (by omega) (by omega)
   rw [e2, eR]
   simp only [Option.bind_some]
   have hle4 : ∀ k, S k = true → S2 k = true := fun k h => hle2 k (plus_le k h)
   have nogo : ∀ S', (∀ k, S k = true → S' k = true) → oR.2.2.2.2 = seenB ns.length S' → (∀ t, ¬ Good (cellN ns) ns.length S (p : Int) t) → (oL.1.length ≤ 1000 ∧ 0 ≤ oL.2.1 ∧ oL.2.1 ≤ 1000) → (oR.1.length ≤ 1000 ∧ 0 ≤ oR.2.1 ∧ oR.2.1 ≤ 1000) → ∃ o, tollbarref17_hung.j1 (k + 3) oR.2.2.2.2 oL.1 oL.2.1 oL.2.2.1 oR.1 oR.2.1 oR.2.2.1 true (cellN ns (p * 7)) (cellN ns (p * 7 + 1)) (cellN ns (p * 7 + 2)) (cellN ns (p * 7 + 3)) (cellN ns (p * 7 + 4)) (cellN ns (p * 7 + 5)) (cellN ns (p * 7 + 6)) = some o ∧ HungIs ns S (p : Int) o := by
    intro S' hS' eS' hno hbl hbr
    rw [hung_j1 k _ _ _ _ _ _ _ _ _ _ _ _ _ _ _ hbl.1 hbr.1 hbl.2 hbr.2, if_neg (fun g => by cases g.1)]
    exact ⟨_, rfl, .inr ⟨hno, S', hS', by rw [eS']⟩⟩
   rcases hL with ⟨l, gl, rfl⟩ | ⟨nl, S', h', rfl⟩
   ·have e2' : plusT (plus S p) l = S2 ∨ True := .inr trivial
    have ll := gl.len
    have lh := gl.low
    have hbl : ((items l).map toI).length ≤ 1000 ∧ (0 : Int) ≤ (hgt l : Int) ∧ (hgt l : Int) ≤ 1000 := ⟨by simp; omega, by omega, by omega⟩
    rw [if_pos rfl]
    have eS2 : ∀ q, q < ns.length → S2 q = plusT (plus S p) l q := fun q hq => by
     have := congrArg (fun xs => rdOf false xs (q : Int)) e2
     simp only [seenB_rd _ hq] at this
     exact this.symm
    have conv : ∀ r, Good (cellN ns) ns.length S2 (cellN ns (p * 7 + 4)) r ↔ Good (cellN ns) ns.length (plusT (plus S p) l) (cellN ns (p * 7 + 4)) r := fun r =>
     ⟨fun h => ⟨h.hang, h.within, h.nodup, fun q hq => by rw [← eS2 q (h.within q hq)]; exact h.off q hq, h.bal, h.may⟩, fun h => ⟨h.hang, h.within, h.nodup, fun q hq => by rw [eS2 q (h.within q hq)]; exact h.off q hq, h.bal, h.may⟩⟩
    rcases hR with ⟨r, gr, rfl⟩ | ⟨nr, S'', h'', rfl⟩
    ·have lr := gr.len
     have rh := gr.low
     have hbr : ((items r).map toI).length ≤ 1000 ∧ (0 : Int) ≤ (hgt r : Int) ∧ (hgt r : Int) ≤ 1000 := ⟨by simp; omega, by omega, by omega⟩
     have gr' := (conv r).1 gr
     have only : ∀ t, Good (cellN ns) ns.length S (p : Int) t → t = .node p ⟨cellN ns (p * 7), cellN ns (p * 7 + 1), cellN ns (p * 7 + 2)⟩ l r := by
      intro t ht
      obtain ⟨y, l', r', rfl, _, _, g1, g2⟩ := ht.parts
      have el := g1.one gl
      subst el
      have er := g2.one gr'
      subst er
      obtain ⟨i0, i1, i2⟩ := ht.hang.2.1
      rw [i0, i1, i2]
     rw [if_pos rfl, refItemMay_f]
     simp only [Option.bind_some]
     have hwl : wrap64 ((hgt l : Int) - hgt r) = (hgt l : Int) - hgt r := by unfold wrap64; omega
     have hwr : wrap64 ((hgt r : Int) - hgt l) = (hgt r : Int) - hgt l := by unfold wrap64; omega
     have hSl : ∀ k, S k = true → plusT S2 r k = true := fun k h => plusT_le k (hle4 k h)
     by_cases hmay : itmayF ⟨cellN ns (p * 7), cellN ns (p * 7 + 1), cellN ns (p * 7 + 2)⟩ = true
     ·rw [if_pos hmay, hwl, hwr]
      have hj : ∀ c, c = decide ((hgt l : Int) - hgt r > 1 ∨ (hgt r : Int) - hgt l > 1) → ∃ o, tollbarref17_hung.j1 (k + 3) (seenB ns.length (plusT S2 r)) ((items l).map toI) (hgt l) (most l) ((items r).map toI) (hgt r) (most r) c (cellN ns (p * 7)) (cellN ns (p * 7 + 1)) (cellN ns (p * 7 + 2)) (cellN ns (p * 7 + 3)) (cellN ns (p * 7 + 4)) (cellN ns (p * 7 + 5)) (cellN ns (p * 7 + 6)) = some o ∧ HungIs ns S (p : Int) o := by
       intro c hc
       rw [hung_j1 k _ _ _ _ _ _ _ _ _ _ _ _ _ _ _ hbl.1 hbr.1 hbl.2 hbr.2]
       by_cases hall : c = false ∧ cellN ns (p * 7 + 5) = 1 + max (hgt l : Int) (hgt r) ∧ cellN ns (p * 7 + 6) = max (cellN ns (p * 7 + 1)) (max (most l) (most r))
       ·rw [if_pos hall]
        have hb : ¬ ((hgt l : Int) - hgt r > 1 ∨ (hgt r : Int) - hgt l > 1) := by
         rw [hc] at hall
         exact of_decide_eq_false hall.1
        have gn := good_node (y := ⟨cellN ns (p * 7), cellN ns (p * 7 + 1), cellN ns (p * 7 + 2)⟩) hp hS ⟨rfl, rfl, rfl⟩ gl gr' hmay hall.2.1 hall.2.2 (by omega) (by omega)
        refine ⟨_, rfl, .inl ⟨_, gn, ?_⟩⟩
        have es : seenB ns.length (plusT S2 r) = seenB ns.length (plusT S (.node p ⟨cellN ns (p * 7), cellN ns (p * 7 + 1), cellN ns (p * 7 + 2)⟩ l r)) := by
         rw [← plusT_node]
         unfold seenB
         apply List.map_congr_left
         intro q hq
         unfold plusT at eS2 ⊢
         rw [eS2 q (List.mem_range.1 hq)]
        rw [es]
        simp only [items, hgt, most, List.map_append, List.map_cons]
        congr 2
        omega
       ·rw [if_neg hall]
        refine ⟨_, rfl, .inr ⟨fun t ht => hall ?_, _, hSl, rfl⟩⟩
        have et := only t ht
        subst et
        obtain ⟨_, _, _, _, g5, g6⟩ := ht.hang
        have gb := ht.bal
        simp only [bal] at gb
        refine ⟨?_, ?_, ?_⟩
        ·rw [hc]; exact decide_eq_false (by omega)
        ·rw [g5]; simp only [hgt]; omega
        ·rw [g6]; rfl
      by_cases hc1 : (hgt l : Int) - hgt r > 1
      ·rw [if_pos hc1]; exact hj true (by simp [hc1])
      ·rw [if_neg hc1]; exact hj _ (by simp [hc1])
     ·rw [if_neg hmay]
      exact nogo (plusT S2 r) hSl rfl (fun t ht => hmay (by have et := only t ht; subst et; exact ht.may _ (by simp [items]))) hbl hbr
    ·rw [if_neg (by simp)]
     exact nogo S'' (fun k h => h'' k (hle4 k h)) rfl (fun t ht => by
      obtain ⟨y, l', r', rfl, _, _, g1, g2⟩ := ht.parts
      have el := g1.one gl
      subst el
      exact nr r' ((conv r').2 g2)) hbl ⟨by simp, by simp, by simp⟩
   ·rw [if_neg (by simp)]
    have hno : ∀ t, ¬ Good (cellN ns) ns.length S (p : Int) t := fun t ht => by
     obtain ⟨y, l', r', rfl, _, _, g1, g2⟩ := ht.parts
     exact nl l' g1
    rcases hR with ⟨r, gr, rfl⟩ | ⟨nr, S'', h'', rfl⟩
    ·have lr := gr.len
     have rh := gr.low
     exact nogo (plusT S2 r) (fun k h => plusT_le k (hle4 k h)) rfl hno ⟨by simp, by simp, by simp⟩ ⟨by simp; omega, by simp, by simp; omega⟩
    ·exact nogo S'' (fun k h => h'' k (hle4 k h)) rfl hno ⟨by simp, by simp, by simp⟩ ⟨by simp, by simp, by simp⟩
end Go.Proofs.Ytgkjpffbgnljeaa.Man
/- tollbarref17.All: what it answers, plain. -/
set_option linter.unusedVariables false
set_option linter.unusedSimpArgs false
namespace Go.Proofs.Ytgkjpffbgnljeaa.Man
open Go.RowKit Go.Proofs.Ytgkjpffbgnljeaa.QT Go.Proofs.Ytgkjpffbgnljeaa.QA Go.Proofs.Ytgkjpffbgnljeaa.TreeM Go.Proofs.YtgkjpffbgnljeaaW.PrintWords Go.Proofs.YtgkjpffbgnljeaaW.PrintLast Go.Proofs.YtgkjpffbgnljeaaW.PrintMore
theorem rdN_cells (ns : List Nd) (p : Nat) : rd_T64 ns (p : Int) = nodeN (cellN ns) p := by unfold rd_T64; rw [Int.toNat_natCast, nodeN_cellN]
theorem all_l0 (ns : List Nd) (fr : List Int) (root : Int) (xs : List It) (kk : Nat) (hl : fr.length ≤ 1000) : ∀ (n j : Nat) (S : Nat → Bool), n + j = fr.length →
  tollbarref17_All.l0 (n + 1 + kk) (seenB ns.length S) xs (j : Int) ns root fr = (match freeF (cellN ns) ns.length S (fr.drop j) with | none => some ([], false) | some S' => tollbarref17_All.l1 kk (seenB ns.length S') xs 0) := by
 intro n
 induction n with
 | zero =>
  intro j S hj
  rw [show 0 + 1 + kk = kk + 1 by omega, tollbarref17_All.l0, if_neg (by omega), List.drop_eq_nil_of_le (by omega)]
  rfl
 | succ n ih =>
  intro j S hj
  have hw : wrap64 ((j : Int) + 1) = ((j + 1 : Nat) : Int) := by unfold wrap64; omega
  have hjl : j < fr.length := by omega
  have hd : fr.drop j = fr[j] :: fr.drop (j + 1) := List.drop_eq_getElem_cons hjl
  have hrd : rd fr (j : Int) = fr[j] := by unfold rd; rw [Int.toNat_natCast, List.getD, List.getElem?_eq_getElem hjl]; rfl
  rw [show n + 1 + 1 + kk = (n + 1 + kk) + 1 by omega, tollbarref17_All.l0, if_pos (by omega), if_pos (by omega), hrd, hd, hw]
  generalize fr[j] = x
  show _ = match (if freeOk (cellN ns) ns.length S x = true then freeF (cellN ns) ns.length (plus S x.toNat) (fr.drop (j + 1)) else none) with | none => some ([], false) | some S' => tollbarref17_All.l1 kk (seenB ns.length S') xs 0
  by_cases h0 : x < 0
  ·rw [if_pos h0, if_neg (fun g => by have := (freeOk_iff.1 g).1; omega)]
  rw [if_neg h0]
  by_cases h1 : x ≥ (ns.length : Int)
  ·rw [if_pos h1, if_neg (fun g => by have := (freeOk_iff.1 g).2.1; omega)]
  obtain ⟨p, rfl⟩ : ∃ p : Nat, x = (p : Int) := ⟨x.toNat, by omega⟩
  have hp : p < ns.length := by omega
  rw [if_neg h1, if_pos (by omega), if_pos (by rw [seenB_length]; omega), seenB_rd S hp, Int.toNat_natCast]
  cases hS : S p with
  | true => rw [if_pos rfl, if_neg (fun g => by have := (freeOk_iff.1 g).2.2.1; rw [Int.toNat_natCast, hS] at this; cases this)]
  | false =>
   rw [if_neg (by decide), if_pos (by omega), rdN_cells, seenB_set]
   by_cases hz : ∀ k, k < 7 → cellN ns (p * 7 + k) = 0
   ·have z0 := hz 0 (by omega)
    have z1 := hz 1 (by omega)
    have z2 := hz 2 (by omega)
    have z3 := hz 3 (by omega)
    have z4 := hz 4 (by omega)
    have z5 := hz 5 (by omega)
    have z6 := hz 6 (by omega)
    rw [Nat.add_zero] at z0
    rw [if_pos (freeOk_iff.2 ⟨by omega, by omega, by rw [Int.toNat_natCast]; exact hS, by rw [Int.toNat_natCast]; exact hz⟩), if_neg (by simp [nodeN, z0, z1, z2, z3, z4, z5, z6])]
    exact ih (j + 1) (plus S p) (by omega)
   ·have hnf : ¬ freeOk (cellN ns) ns.length S (p : Int) = true := fun g => hz (by have := (freeOk_iff.1 g).2.2.2; rw [Int.toNat_natCast] at this; exact this)
    rw [if_neg hnf]
    refine if_pos ?_
    refine Classical.byContradiction (fun hn => hz (fun k hk => ?_))
    simp [nodeN] at hn
    obtain ⟨⟨⟨h0, h1⟩, h2⟩, h3, h4, h5, h6⟩ := hn
    rcases k with _ | _ | _ | _ | _ | _ | _ | k
    ·rw [Nat.add_zero]; exact h0
    ·exact h1
    ·exact h2
    ·exact h3
    ·exact h4
    ·exact h5
    ·exact h6
    ·omega
open Classical in
theorem all_l1 (nn : Nat) (S : Nat → Bool) (xs : List It) (kk : Nat) (hl : nn ≤ 1000) : ∀ (n j : Nat), n + j = nn →
  tollbarref17_All.l1 (n + 1 + kk) (seenB nn S) xs (j : Int) = (if ∀ p, j ≤ p → p < nn → S p = true then tollbarref17_All.l2 kk xs 1 else some ([], false)) := by
 intro n
 induction n with
 | zero =>
  intro j hj
  rw [show 0 + 1 + kk = kk + 1 by omega, tollbarref17_All.l1, if_neg (by rw [seenB_length]; omega), if_pos (fun p _ _ => by omega)]
 | succ n ih =>
  intro j hj
  have hw : wrap64 ((j : Int) + 1) = ((j + 1 : Nat) : Int) := by unfold wrap64; omega
  rw [show n + 1 + 1 + kk = (n + 1 + kk) + 1 by omega, tollbarref17_All.l1, if_pos (by rw [seenB_length]; omega), if_pos (by omega), seenB_rd S (by omega), hw]
  cases hS : S j with
  | true =>
   rw [if_pos rfl, ih (j + 1) (by omega)]
   by_cases h : ∀ p, j + 1 ≤ p → p < nn → S p = true
   ·rw [if_pos h, if_pos (fun p hp1 hp2 => by
     by_cases e : p = j
     ·rw [e]; exact hS
     ·exact h p (by omega) hp2)]
   ·rw [if_neg h, if_neg (fun g => h (fun p hp1 hp2 => g p (by omega) hp2))]
  | false => rw [if_neg (by decide), if_neg (fun g => by have := g j (Nat.le_refl _) (by omega); rw [hS] at this; cases this)]
theorem rdI_get (ys : List Itm) (j : Nat) (hj : j < ys.length) : rd_T50 (ys.map toI) (j : Int) = toI ys[j] := by
 unfold rd_T50
 rw [Int.toNat_natCast, List.getD, List.getElem?_map, List.getElem?_eq_getElem hj]
 rfl
theorem all_l2 (ys : List Itm) (kk : Nat) (hl : ys.length ≤ 1000) : ∀ (n j : Nat), n + (j + 1) = ys.length ∨ (n = 0 ∧ ys.length ≤ j + 1) → Row (ys.take (j + 1)) →
  tollbarref17_All.l2 (n + 1 + kk) (ys.map toI) ((j + 1 : Nat) : Int) = (if Row ys then some (ys.map toI, true) else some ([], false)) := by
 intro n
 induction n with
 | zero =>
  intro j hj hr
  have hle : ys.length ≤ j + 1 := by omega
  rw [List.take_of_length_le hle] at hr
  rw [show 0 + 1 + kk = kk + 1 by omega, tollbarref17_All.l2, if_neg (by simp; omega), if_pos hr]
 | succ n ih =>
  intro j hj hr
  have hjl : j + 1 < ys.length := by omega
  have hw : wrap64 (((j + 1 : Nat) : Int) - 1) = (j : Int) := by unfold wrap64; omega
  have hw2 : wrap64 (((j + 1 : Nat) : Int) + 1) = ((j + 1 + 1 : Nat) : Int) := by unfold wrap64; omega
  rw [show n + 1 + 1 + kk = (n + 1 + kk) + 1 by omega, tollbarref17_All.l2, if_pos (by simp; omega), hw, hw2, if_pos (by omega), if_pos (by simp; omega), if_pos (by omega), rdI_get ys j (by omega), rdI_get ys (j + 1) hjl]
  have hls := less_f ys[j] ys[j + 1]
  simp only [toI] at hls ⊢
  rw [hls]
  simp only [Option.bind_some]
  by_cases h : lt ys[j] ys[j + 1]
  ·rw [if_pos (decide_eq_true h)]
   exact ih (j + 1) (by omega) (row_snoc hjl hr h)
  ·rw [if_neg (by simp [h]), if_neg (row_not hjl h)]
noncomputable def allF (ns : List Nd) (root : Int) (fr : List Int) : List It × Bool := if mayT (cellN ns) ns.length root fr = true then ((items (treeOf (cellN ns) ns.length root fr)).map toI, true) else ([], false)
theorem allF_yes {ns : List Nd} {root : Int} {fr : List Int} {t : T} (h : IsT (cellN ns) ns.length root fr t) : allF ns root fr = ((items t).map toI, true) := by unfold allF; rw [if_pos (mayT_true.2 ⟨t, h⟩), treeOf_is h]
theorem allF_no {ns : List Nd} {root : Int} {fr : List Int} (h : ∀ t, ¬ IsT (cellN ns) ns.length root fr t) : allF ns root fr = ([], false) := by unfold allF; rw [if_neg (by rw [mayT_false.2 h]; decide)]
theorem all_f (ns : List Nd) (fr : List Int) (root : Int) (k : Nat) (hk : 400 ≤ k) : tollbarref17_All.f k ns root fr = some (allF ns root fr) := by
 obtain ⟨k, rfl⟩ : ∃ j, k = j + 1 := ⟨k - 1, by omega⟩
 unfold tollbarref17_All.f
 have j0 : tollbarref17_All.j0 (k + 1) true ns root fr = some ([], false) := by rw [tollbarref17_All.j0, if_pos rfl]
 by_cases h1 : (ns.length : Int) > 32
 ·rw [if_pos h1, j0, allF_no (fun t h => by have := h.size; omega)]
 rw [if_neg h1]
 by_cases h2 : (fr.length : Int) > (ns.length : Int)
 ·rw [decide_eq_true h2, j0, allF_no (fun t h => by have := h.count; omega)]
 have hn : ns.length ≤ 32 := by omega
 have hrep : List.replicate ((ns.length : Int) : Int).toNat false = seenB ns.length (fun _ => false) := by
  rw [Int.toNat_natCast]
  unfold seenB
  apply List.ext_getElem?
  intro j
  rw [List.getElem?_map]
  by_cases hj : j < ns.length
  ·rw [List.getElem?_range hj, List.getElem?_replicate, if_pos hj]; rfl
  ·rw [List.getElem?_eq_none (by simp; omega), List.getElem?_eq_none (by simp; omega)]; rfl
 rw [decide_eq_false h2, tollbarref17_All.j0, if_neg (by decide), if_pos (by omega), if_pos (by omega), hrep]
 have hu : unseen ns.length (fun _ => false) ≤ 32 := by
  unfold unseen
  refine Nat.le_trans List.countP_le_length ?_
  simp
  omega
 obtain ⟨o, eo, hO⟩ := hung_f ns fr root hn 32 (fun _ => false) root k hu (by omega)
 rw [eo]
 simp only [Option.bind_some]
 rcases hO with ⟨t, gt, rfl⟩ | ⟨hno, S', _, rfl⟩
 ·have ht := gt.len
  obtain ⟨kk, rfl⟩ : ∃ kk, k = fr.length + 1 + kk := ⟨k - fr.length - 1, by omega⟩
  rw [if_pos rfl]
  have a0 := all_l0 ns fr root ((items t).map toI) kk (by omega) fr.length 0 (plusT (fun _ => false) t) (by omega)
  rw [List.drop_zero] at a0
  refine Eq.trans a0 ?_
  cases hf : freeF (cellN ns) ns.length (plusT (fun _ => false) t) fr with
  | none => rw [allF_no (fun s hs => by
    have e := hs.good.one gt
    subst e
    obtain ⟨S', e1, _⟩ := hs.free
    rw [hf] at e1; cases e1)]
  | some S' =>
   obtain ⟨k2, rfl⟩ : ∃ k2, kk = ns.length + 1 + k2 := ⟨kk - ns.length - 1, by omega⟩
   show tollbarref17_All.l1 _ _ _ _ = _
   refine Eq.trans (all_l1 ns.length S' _ k2 (by omega) ns.length 0 (by omega)) ?_
   by_cases hall : ∀ p, 0 ≤ p → p < ns.length → S' p = true
   ·rw [if_pos hall]
    obtain ⟨k3, rfl⟩ : ∃ k3, k2 = ((items t).length - 1) + 1 + k3 := ⟨k2 - ((items t).length - 1) - 1, by omega⟩
    refine Eq.trans (all_l2 (items t) k3 (by omega) ((items t).length - 1) 0 (by omega) (by cases items t with
     | nil => exact List.Pairwise.nil
     | cons x ys => simp)) ?_
    by_cases hrow : Row (items t)
    ·rw [if_pos hrow, allF_yes ⟨hn, gt, ⟨S', hf, fun p hp => hall p (Nat.zero_le _) hp⟩, hrow⟩]
    ·rw [if_neg hrow, allF_no (fun s hs => by
      have e := hs.good.one gt
      subst e
      exact hrow hs.row)]
   ·rw [if_neg hall, allF_no (fun s hs => by
     have e := hs.good.one gt
     subst e
     obtain ⟨S2, e1, e2⟩ := hs.free
     rw [hf] at e1
     injection e1 with e1
     subst e1
     exact hall (fun p _ hp => e2 p hp))]
 ·rw [if_neg (by simp), allF_no (fun t h => hno t h.good)]
end Go.Proofs.Ytgkjpffbgnljeaa.Man
/- tollbarref17.There, With, Without, InsertError; SameItems, SameInts, SameTree, CopyTree: what they answer, plain. -/
set_option linter.unusedVariables false
set_option linter.unusedSimpArgs false
namespace Go.Proofs.Ytgkjpffbgnljeaa.Man
open Go.RowKit Go.Proofs.Ytgkjpffbgnljeaa.QT Go.Proofs.Ytgkjpffbgnljeaa.QA Go.Proofs.Ytgkjpffbgnljeaa.TreeM Go.Proofs.YtgkjpffbgnljeaaW.PrintWords Go.Proofs.YtgkjpffbgnljeaaW.PrintLast Go.Proofs.YtgkjpffbgnljeaaW.PrintMore
theorem itm_eq {x y : Itm} : x = y ↔ x.fr = y.fr ∧ x.to_ = y.to_ ∧ x.id = y.id := by
 obtain ⟨a, b, c⟩ := x
 obtain ⟨d, e, f⟩ := y
 simp
theorem wrapN (j : Nat) (h : j ≤ 100000000000000) : wrap64 ((j : Int) + 1) = ((j + 1 : Nat) : Int) := by unfold wrap64; omega
theorem there_l0 (ys : List Itm) (x : Itm) (kk : Nat) (hl : ys.length ≤ 100000000000000) : ∀ (n j : Nat), n + j = ys.length →
  tollbarref17_There.l0 (n + 1 + kk) (ys.map toI) (j : Int) x.fr x.to_ x.id = some (decide (x ∈ ys.drop j)) := by
 intro n
 induction n with
 | zero =>
  intro j hj
  rw [show 0 + 1 + kk = kk + 1 by omega, tollbarref17_There.l0, if_neg (by simp; omega), List.drop_eq_nil_of_le (by omega)]
  simp
 | succ n ih =>
  intro j hj
  have hjl : j < ys.length := by omega
  have hd : ys.drop j = ys[j] :: ys.drop (j + 1) := List.drop_eq_getElem_cons hjl
  rw [show n + 1 + 1 + kk = (n + 1 + kk) + 1 by omega, tollbarref17_There.l0, if_pos (by simp; omega), if_pos (by omega), rdI_get ys j hjl, hd, wrapN j (by omega), ih (j + 1) (by omega)]
  by_cases h : x = ys[j]
  ·rw [if_pos (by rw [h]; simp [toI])]
   simp [← h]
  ·rw [if_neg (by
    intro g
    simp [toI] at g
    exact h (itm_eq.2 ⟨g.1.1.symm, g.1.2.symm, g.2.symm⟩))]
   have e : (x ∈ ys[j] :: ys.drop (j + 1)) ↔ x ∈ ys.drop (j + 1) := by rw [List.mem_cons]; exact ⟨fun g => g.resolve_left h, Or.inr⟩
   rw [decide_eq_decide.2 e]
theorem there_f (ys : List Itm) (x : Itm) (k : Nat) (hl : ys.length ≤ 1000) (hk : 1001 ≤ k) : tollbarref17_There.f k (ys.map toI) x.fr x.to_ x.id = some (decide (x ∈ ys)) := by
 obtain ⟨kk, rfl⟩ : ∃ kk, k = ys.length + 1 + kk := ⟨k - ys.length - 1, by omega⟩
 exact there_l0 ys x kk (by omega) ys.length 0 (by omega)
theorem without_l0 (ys : List Itm) (x : Itm) (kk : Nat) (hl : ys.length ≤ 1000) : ∀ (n j : Nat) (out : List It), n + j = ys.length → out.length + n ≤ 4000 →
  tollbarref17_Without.l0 (n + 1 + kk) (ys.map toI) out (j : Int) x.fr x.to_ x.id = some (out ++ (sans (ys.drop j) x).map toI) := by
 intro n
 induction n with
 | zero =>
  intro j out hj ho
  rw [show 0 + 1 + kk = kk + 1 by omega, tollbarref17_Without.l0, if_neg (by simp; omega), List.drop_eq_nil_of_le (by omega)]
  simp [sans]
 | succ n ih =>
  intro j out hj ho
  have hjl : j < ys.length := by omega
  have hd : ys.drop j = ys[j] :: ys.drop (j + 1) := List.drop_eq_getElem_cons hjl
  rw [show n + 1 + 1 + kk = (n + 1 + kk) + 1 by omega, tollbarref17_Without.l0, if_pos (by simp; omega), if_pos (by omega), rdI_get ys j hjl, hd, wrapN j (by omega)]
  by_cases h : ys[j] = x
  ·rw [if_neg (by rw [h]; simp [toI]), h, sans_cons_eq]
   exact ih (j + 1) out (by omega) (by omega)
  ·rw [if_pos (by
    refine Classical.byContradiction (fun g => h ?_)
    simp [toI] at g
    exact itm_eq.2 ⟨g.1.1, g.1.2, g.2⟩), sans_cons_ne h, if_pos (by omega)]
   have := ih (j + 1) (out ++ [toI ys[j]]) (by omega) (by simp; omega)
   refine Eq.trans this ?_
   simp
theorem without_f (ys : List Itm) (x : Itm) (k : Nat) (hl : ys.length ≤ 1000) (hk : 1001 ≤ k) : tollbarref17_Without.f k (ys.map toI) x.fr x.to_ x.id = some ((sans ys x).map toI) := by
 obtain ⟨kk, rfl⟩ : ∃ kk, k = ys.length + 1 + kk := ⟨k - ys.length - 1, by omega⟩
 exact without_l0 ys x kk hl ys.length 0 [] (by omega) (by simp; omega)
theorem sameInts_l0 (xs : List Int) (kk : Nat) (hl : xs.length ≤ 100000000000000) : ∀ (n j : Nat), n + j = xs.length → tollbarref19_SameInts.l0 (n + 1 + kk) xs xs (j : Int) = some true := by
 intro n
 induction n with
 | zero => intro j hj; rw [show 0 + 1 + kk = kk + 1 by omega, tollbarref19_SameInts.l0, if_neg (by omega)]
 | succ n ih =>
  intro j hj
  rw [show n + 1 + 1 + kk = (n + 1 + kk) + 1 by omega, tollbarref19_SameInts.l0, if_pos (by omega), if_pos (by omega), if_pos (by omega), if_pos rfl, wrapN j (by omega), ih (j + 1) (by omega)]
theorem sameInts_f (xs : List Int) (k : Nat) (hl : xs.length ≤ 100000000000000) (hk : xs.length + 1 ≤ k) : tollbarlaw0_SameInts.f k xs xs = some true := by
 obtain ⟨kk, rfl⟩ : ∃ kk, k = xs.length + 1 + kk := ⟨k - xs.length - 1, by omega⟩
 have h := sameInts_l0 xs kk hl xs.length 0 (by omega)
 unfold tollbarlaw0_SameInts.f tollbarref19_SameInts.f
 rw [if_pos rfl]
 show Option.bind (tollbarref19_SameInts.l0 _ xs xs ((0 : Nat) : Int)) _ = _
 rw [h]
 rfl
theorem sameItems_l0 (xs : List It) (kk : Nat) (hl : xs.length ≤ 100000000000000) : ∀ (n j : Nat), n + j = xs.length → tollbarlaw0_SameItems.l0 (n + 1 + kk) xs xs (j : Int) = some true := by
 intro n
 induction n with
 | zero => intro j hj; rw [show 0 + 1 + kk = kk + 1 by omega, tollbarlaw0_SameItems.l0, if_neg (by omega)]
 | succ n ih =>
  intro j hj
  rw [show n + 1 + 1 + kk = (n + 1 + kk) + 1 by omega, tollbarlaw0_SameItems.l0, if_pos (by omega), if_pos (by omega), if_pos (by omega), if_neg (by simp), wrapN j (by omega), ih (j + 1) (by omega)]
theorem sameItems_f (xs : List It) (k : Nat) (hl : xs.length ≤ 100000000000000) (hk : xs.length + 1 ≤ k) : tollbarlaw0_SameItems.f k xs xs = some true := by
 obtain ⟨kk, rfl⟩ : ∃ kk, k = xs.length + 1 + kk := ⟨k - xs.length - 1, by omega⟩
 unfold tollbarlaw0_SameItems.f
 rw [if_pos rfl]
 exact sameItems_l0 xs kk hl xs.length 0 (by omega)
theorem sameTree_l0 (ns : List Nd) (root : Int) (fr : List Int) (kk : Nat) (hl : ns.length ≤ 100000000000000) : ∀ (n j : Nat), n + j = ns.length → tollbarlaw0_SameTree.l0 (n + 1 + kk) (j : Int) ns root fr ns root fr = some true := by
 intro n
 induction n with
 | zero => intro j hj; rw [show 0 + 1 + kk = kk + 1 by omega, tollbarlaw0_SameTree.l0, if_neg (by omega)]
 | succ n ih =>
  intro j hj
  rw [show n + 1 + 1 + kk = (n + 1 + kk) + 1 by omega, tollbarlaw0_SameTree.l0, if_pos (by omega), if_pos (by omega), if_pos (by omega), if_neg (by simp), wrapN j (by omega), ih (j + 1) (by omega)]
theorem sameTree_f (ns : List Nd) (root : Int) (fr : List Int) (k : Nat) (hl : ns.length ≤ 100000000000000) (hf : fr.length ≤ 100000000000000) (hk : ns.length + 2 ≤ k) (hk2 : fr.length + 1 ≤ k) : tollbarlaw0_SameTree.f k ns root fr ns root fr = some true := by
 unfold tollbarlaw0_SameTree.f
 rw [if_pos rfl, if_pos rfl, sameInts_f fr k hf hk2]
 simp only [Option.bind_some]
 obtain ⟨kk, rfl⟩ : ∃ kk, k = ns.length + 1 + kk + 1 := ⟨k - ns.length - 2, by omega⟩
 rw [tollbarlaw0_SameTree.j0, if_neg (by decide)]
 exact sameTree_l0 ns root fr kk hl ns.length 0 (by omega)
theorem copyTree_f (ns : List Nd) (root : Int) (fr : List Int) (h1 : ns.length < 2513169434916) (h2 : fr.length < 17592186044416) : tollbarlaw0_CopyTree.f ns root fr = some (ns, root, fr) := by
 unfold tollbarlaw0_CopyTree.f tollbarlaw0_CopyInts.f
 simp only [Option.bind_some]
 rw [if_pos (by simpa using h1), if_pos (by simpa using h2)]
 rfl
end Go.Proofs.Ytgkjpffbgnljeaa.Man
/- SpoilTree ends. -/
set_option linter.unusedVariables false
set_option linter.unusedSimpArgs false
namespace Go.Proofs.Ytgkjpffbgnljeaa.Man
open Go.RowKit Go.Proofs.Ytgkjpffbgnljeaa.QT Go.Proofs.Ytgkjpffbgnljeaa.QA Go.Proofs.Ytgkjpffbgnljeaa.TreeM Go.Proofs.YtgkjpffbgnljeaaW.PrintWords Go.Proofs.YtgkjpffbgnljeaaW.PrintLast Go.Proofs.YtgkjpffbgnljeaaW.PrintMore
theorem spoilInts_l0 : ∀ (n j k : Nat) (xs : List Int), n + j = xs.length → xs.length ≤ 100000000000000 → n + 1 ≤ k → ∃ r, QL.tollbarlaw0_SpoilInts.l0 k xs (j : Int) = some r := by
 intro n
 induction n with
 | zero =>
  intro j k xs hj hl hk
  obtain ⟨k, rfl⟩ : ∃ i, k = i + 1 := ⟨k - 1, by omega⟩
  rw [QL.tollbarlaw0_SpoilInts.l0, if_neg (by omega)]
  exact ⟨_, rfl⟩
 | succ n ih =>
  intro j k xs hj hl hk
  obtain ⟨k, rfl⟩ : ∃ i, k = i + 1 := ⟨k - 1, by omega⟩
  rw [QL.tollbarlaw0_SpoilInts.l0, if_pos (by omega), if_pos (by omega), wrapN j (by omega)]
  exact ih (j + 1) k _ (by rw [List.length_set]; omega) (by rw [List.length_set]; omega) (by omega)
theorem spoilTree_l0 (root : Int) (fr : List Int) : ∀ (n j k : Nat) (xs : List Nd), n + j = xs.length → xs.length ≤ 100000000000000 → n + 1 ≤ k → ∃ r, QL.tollbarlaw0_SpoilTree.l0 k (j : Int) xs root fr = some r := by
 intro n
 induction n with
 | zero =>
  intro j k xs hj hl hk
  obtain ⟨k, rfl⟩ : ∃ i, k = i + 1 := ⟨k - 1, by omega⟩
  rw [QL.tollbarlaw0_SpoilTree.l0, if_neg (by omega)]
  exact ⟨_, rfl⟩
 | succ n ih =>
  intro j k xs hj hl hk
  obtain ⟨k, rfl⟩ : ∃ i, k = i + 1 := ⟨k - 1, by omega⟩
  rw [QL.tollbarlaw0_SpoilTree.l0, if_pos (by omega), if_pos (by omega), wrapN j (by omega)]
  exact ih (j + 1) k _ (by rw [List.length_set]; omega) (by rw [List.length_set]; omega) (by omega)
theorem spoilTree_f (ns : List Nd) (root : Int) (fr : List Int) (k : Nat) (h1 : ns.length ≤ 1000) (h2 : fr.length ≤ 1000) (hk : 2000 ≤ k) : ∃ r, QL.tollbarlaw0_SpoilTree.f k ns root fr = some r := by
 unfold QL.tollbarlaw0_SpoilTree.f QL.tollbarlaw0_SpoilInts.f
 obtain ⟨r1, e1⟩ := spoilInts_l0 fr.length 0 k fr (by omega) (by omega) (by omega)
 have e1' : QL.tollbarlaw0_SpoilInts.l0 k fr 0 = some r1 := e1
 rw [e1']
 simp only [Option.bind_some]
 exact spoilTree_l0 root r1 ns.length 0 k ns (by omega) (by omega) (by omega)
end Go.Proofs.Ytgkjpffbgnljeaa.Man
/- The law TreeDeletes, plain. -/
set_option linter.unusedVariables false
set_option linter.unusedSimpArgs false
namespace Go.Proofs.Ytgkjpffbgnljeaa.Man
open Go.RowKit Go.Proofs.Ytgkjpffbgnljeaa.QT Go.Proofs.Ytgkjpffbgnljeaa.QA Go.Proofs.Ytgkjpffbgnljeaa.TreeM Go.Proofs.YtgkjpffbgnljeaaW.PrintWords Go.Proofs.YtgkjpffbgnljeaaW.PrintLast Go.Proofs.YtgkjpffbgnljeaaW.PrintMore
theorem treeDeletes_f (ns : List Nd) (root : Int) (fr : List Int) (x : Itm) (h1 : ns.length < 2513169434916) (h2 : fr.length < 17592186044416) : ∃ k, QL.tollbarlaw17_TreeDeletes.f k ns root fr x.fr x.to_ x.id = some true := by
 refine ⟨ns.length + fr.length + 5000 + 2, ?_⟩
 generalize hk : ns.length + fr.length + 5000 = k
 unfold QL.tollbarlaw17_TreeDeletes.f tree_Delete.f
 rw [copyTree_f ns root fr h1 h2]
 simp only [Option.bind_some]
 rw [if_pos h2]
 simp only [Option.bind_some]
 rw [all_f ns fr root _ (by omega)]
 simp only [Option.bind_some]
 by_cases hm : mayT (cellN ns) ns.length root fr = true
 ·obtain ⟨t, ht⟩ := mayT_true.1 hm
  have hi := ht.items_le
  rw [allF_yes ht, if_pos rfl, there_f (items t) x _ (by omega) (by omega)]
  simp only [Option.bind_some]
  by_cases hin : x ∈ items t
  ·obtain ⟨n', r', f', e1, ht'⟩ := del_step ht hin
   have hz := ht'.size
   have hzf := ht'.free_le
   have hi' := ht'.items_le
   obtain ⟨rr, er⟩ := spoilTree_f n' r' f' k (by omega) (by omega) (by omega)
   rw [e1, decide_eq_true hin, QL.tollbarlaw17_TreeDeletes.j0, if_neg (by decide), all_f n' f' r' _ (by omega), allF_yes ht', items_drop t x ht.row hin]
   simp only [Option.bind_some, tollbarlaw0_Num.f]
   rw [if_pos trivial, if_pos trivial, without_f (items t) x _ (by omega) (by omega)]
   simp only [Option.bind_some]
   rw [items_drop t x ht.row hin] at hi'
   rw [sameItems_f _ _ (by simp; omega) (by simp; omega)]
   simp only [Option.bind_some, Bool.not_true]
   rw [QL.tollbarlaw17_TreeDeletes.j1, if_neg (by decide), er]
   simp only [Option.bind_some, tollbarlaw17_awake.f, if_true]
   rw [sameTree_f ns root fr _ (by omega) (by omega) (by omega) (by omega)]
   rfl
  ·rw [delF_none ht hin, decide_eq_false hin, QL.tollbarlaw17_TreeDeletes.j0, if_pos (show (!false) = true from rfl), if_pos rfl]
   simp only [Option.bind_some, tollbarlaw0_Num.f, tollbarlaw17_awake.f, if_true]
   rw [if_pos (by simp), sameTree_f ns root fr _ (by omega) (by omega) (by omega) (by omega)]
   rfl
 ·have hf : mayT (cellN ns) ns.length root fr = false := by simpa using hm
  rw [allF_no (mayT_false.1 hf), if_neg (by simp), delF_no hf, QL.tollbarlaw17_TreeDeletes.j0, if_pos rfl, if_neg (by simp)]
  simp only [Option.bind_some, tollbarlaw0_Num.f, tollbarlaw17_awake.f, if_true]
  rw [if_pos (by simp), sameTree_f ns root fr _ (by omega) (by omega) (by omega) (by omega)]
  rfl
end Go.Proofs.Ytgkjpffbgnljeaa.Man
/- The plain law TreeDeletes, as its row asks for it. -/
set_option linter.unusedVariables false
namespace Go.Proofs.Ytgkjpffbgnljeaa.Pure
open Go.RowKit Go.Proofs.Ytgkjpffbgnljeaa.QT Go.Proofs.Ytgkjpffbgnljeaa.QL Go.Proofs.Ytgkjpffbgnljeaa.Man Go.Proofs.Ytgkjpffbgnljeaa.OpsTreeDeletes
theorem TreeDeletes (x0 : S25) (h0 : I25 x0) (x1 : S50) (h1 : I50 x1) : ∃ k, tollbarlaw17_TreeDeletes.f k x0.f0 x0.f1 x0.f2 x1.f0.f0 x1.f0.f1 x1.f1 = some true := by
 obtain ⟨⟨_, h1⟩, _, ⟨_, h2⟩⟩ := h0
 have h1' : x0.f0.length < 2513169434916 := by omega
 have h2' : x0.f2.length < 17592186044416 := by omega
 exact treeDeletes_f x0.f0 x0.f1 x0.f2 (ofI x1) h1' h2'
end Go.Proofs.Ytgkjpffbgnljeaa.Pure
