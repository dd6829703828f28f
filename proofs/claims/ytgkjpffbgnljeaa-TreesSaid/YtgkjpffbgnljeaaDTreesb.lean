/- Texts of this claim laid together: QL4, QL5, StrT, OpsLTrees, TreePa, TreePb, TreePc, SpanM, TreePe, TreePf, PureTt. -/
import Derived.Test.YtgkjpffbgnljeaaCax
import Derived.Test.YtgkjpffbgnljeaaDTreesa
import Derived.Test.YtgkjpffbgnljeaaCaw
import Derived.Test.YtgkjpffbgnljeaaCbd
import Derived.Test.YtgkjpffbgnljeaaCav
import Derived.Test.YtgkjpffbgnljeaaCba
import Derived.Below
import Derived.Deep.Draws
import Derived.Deep.AppendLies
import Derived.Maps.AppendAt
import Derived.OwnWalk
import Derived.Laws.BytesArg
import Derived.Laws.MakeOwn
import Derived.Laws.OwnMore
import Derived.Deep.OwnRows
import Derived.Tactics
import Derived.Lib.ConvBytes
import Derived.Laws.Slices
import Derived.WalkKit
import Derived.KernelRfl
import Derived.RowKit3
import Derived.Deep.LoopGhost
import Derived.Deep.QuietTactic
import Derived.BigQuiet
import Derived.WideLaws
import Derived.Deep.DeepCutAuto
import Derived.Deep.CutBlock
import Derived.Deep.RegionHeld3
import Derived.Laws.Rows
import Derived.Lib.AppendStr
import Derived.ArgAppend
import Derived.Laws.IdiomCopy
import Derived.OrdersHeld
import Derived.Laws.BitsLemmas
import Derived.RowKit
-- written by this session's program mprint.py: functions of the Go program, and their contracts
namespace Go.Proofs.Ytgkjpffbgnljeaa.QL
open Go.RowKit Go.Proofs.Ytgkjpffbgnljeaa.Au Go.Proofs.Ytgkjpffbgnljeaa.QT Go.Proofs.Ytgkjpffbgnljeaa.Man Go.Proofs.Ytgkjpffbgnljeaa.QA Go.Proofs.YtgkjpffbgnljeaaW.PrintWords Go.Proofs.YtgkjpffbgnljeaaW.PrintLast Go.Proofs.YtgkjpffbgnljeaaW.PrintMore
attribute [local go_sem] max2_int min2_int max_two min_two max_three min_three max_four min_four
set_option linter.unusedVariables false
set_option linter.unusedSimpArgs false
def tollbarref17_Meets.l0 : Nat → List (S50) → List (S50) → Int → Int → Int → Option ((List (S50)))
 | 0, _, _, _, _, _ => none
 | k + 1, x0, x5, x6, xqa, xqb => if x6 < (x0.length : Int) then (if 0 ≤ x6 then ((tollbarref1_Meets.f ((rd_T50 x0 x6).f0.f0) ((rd_T50 x0 x6).f0.f1) xqa xqb).bind fun t197 => (if t197 = true then (if x5.length < 5864062014805 then (tollbarref17_Meets.l0 k x0 (x5 ++ [(⟨(⟨(rd_T50 x0 x6).f0.f0, (rd_T50 x0 x6).f0.f1⟩ : S27), (rd_T50 x0 x6).f1⟩ : S50)]) (wrap64 (x6 + 1)) xqa xqb) else (none)) else (tollbarref17_Meets.l0 k x0 x5 (wrap64 (x6 + 1)) xqa xqb))) else (none)) else (some x5)
def tollbarref17_Meets.f (k : Nat) (l0 : List (S50)) (a1_0 : Int) (a1_1 : Int) : Option ((List (S50))) := tollbarref17_Meets.l0 k l0 ([] : List (S50)) 0 a1_0 a1_1
set_option maxHeartbeats 8000000 in
set_option maxRecDepth 100000 in
theorem tollbarref17_Meets.calls (k : Nat) (A0 : Option Addr) (c0 : Nat) (l0 : List (S50)) (a1_0 : Int) (a1_1 : Int) (r : List (S50)) (w : World) (hr0 : Kd.C k50 w A0 l0.length l0) (hc0 : l0.length ≤ c0) (h : tollbarref17_Meets.f k l0 a1_0 a1_1 = some r) :
  Calls Try.prog 23 #[.slice A0 l0.length c0, .agg #[.int .i64 a1_0, .int .i64 a1_1]] w fun e w' => ∃ v0_ : Value, e = .returned (v0_) ∧ Kd.R k50 50 w' w.heap.size (fun _ => True) v0_ r ∧ Below w.heap.size w w' := by
 have hu27 := Try.underlying27
 have hu50 := Try.underlying50
 have HR0 := zK hr0
 have HC0 := zK hc0
 clear hr0 hc0
 have HB := zK (Below.refl w.heap.size w)
 have H : (tollbarref17_Meets.l0 k l0 ([] : List (S50)) 0 a1_0 a1_1) = some r := h
 clear h
 have H' := zK H
 clear H
 go_enter Try.func23, Try.ntmps23
 go_wp2_with (first | ((with_reducible refine gate_dst (N := 3) rfl ?_); refine box_event ?hg (N := 3) ?hd (cs := #[.int .i64 a1_0, .int .i64 a1_1]) (t := 27) ?hr ?_; (case hd => rfl); (case hg => rfl); (case hr => first | (go_simp; done) | (go_simp; rfl)); intro gb195 hg w3 hbox hb; have n0_ := zK (yF (zl HB.out) hb); have n1_ := zK (hbox); have n2_ := zK ((by rw [hg]; exact (yG (zl HB.out)) : w.heap.size ≤ gb195)); have n3_ := zK ((by rw [hg]; exact (yG (zl HB.out)) : w.heap.size ≤ gb195)); clear HB; have HB := n0_; have BK195 := n1_; have GW195 := n2_; have GE195 := n3_; clear n0_ n1_ n2_ n3_; clear hb hbox hg))
 go_loopg [5, 6] k (fun kq v5 v6 w' => ∃ (x5_1 : List (S50)) (x6_1 : Int), v6 = .int .i64 x6_1 ∧ Aside0 (tollbarref17_Meets.l0 kq l0 x5_1 x6_1 a1_0 a1_1 = some r) ∧ Aside0 (kq ≤ k) ∧ Aside0 (Kd.R k50 50 w' w.heap.size (fun _ => True) v5 x5_1) ∧ Aside0 (w'.heap[gb195]? = some (.cells #[.int .i64 a1_0, .int .i64 a1_1] 27 (0, 0))) ∧ Aside0 (Below w.heap.size w w'))
 case atStart => exact ⟨(([] : List (S50))), (0), zz, H', ⟨Nat.le_refl _⟩, ⟨by first | exact Kd.R_nil _ _ _ _ _ | exact Kd.N_nil _ _ _ _ _ | exact Kd.V_nil _ _ _ _ _ | exact Kd.Q_nil _ _ _ _ _ | exact Kd.S_nil _ _ _ _ _⟩, ⟨by (with_reducible repeat (first | refine zD ?_ _ | refine zE ?_ | refine zF ?_ _)); exact BK195.out⟩, ⟨by repeat (first | (with_reducible first | exact HB.out | apply zG | apply zH | apply zI | refine zL ?_ GE195.out) | exact HB.out)⟩⟩
 case round =>
  clear H'
  try clear c2
  try clear p2
  obtain ⟨x5_1, x6_1, rfl, HA, HK1, HO_5, BK195, HB⟩ := hrel
  cases gk with
  | zero => exact absurd HA.out (by simp [tollbarref17_Meets.l0])
  | succ k1 =>
   have H := HA.out
   clear HA
   simp only [tollbarref17_Meets.l0] at H
   by_cases c4 : x6_1 < (l0.length : Int)
   ·rw [if_pos c4] at H
    have c4b0 : decide (x6_1 < (l0.length : Int)) = true := decide_eq_true c4
    clear c4
    by_cases c5 : 0 ≤ x6_1
    ·rw [if_pos c5] at H
     have c5b0 : decide (0 ≤ x6_1) = true := decide_eq_true c5
     clear c5
     replace H := yH.mp H
     obtain ⟨t197, A60, H⟩ := H
     replace H : (if t197 = true then (if x5_1.length < 5864062014805 then (tollbarref17_Meets.l0 k1 l0 (x5_1 ++ [(⟨(⟨(rd_T50 l0 x6_1).f0.f0, (rd_T50 l0 x6_1).f0.f1⟩ : S27), (rd_T50 l0 x6_1).f1⟩ : S50)]) (wrap64 (x6_1 + 1)) a1_0 a1_1) else (none)) else (tollbarref17_Meets.l0 k1 l0 x5_1 (wrap64 (x6_1 + 1)) a1_0 a1_1)) = some r := H
     have A6 := zK A60
     clear A60
     by_cases c7 : t197 = true
     ·subst c7
      have H1 : (if x5_1.length < 5864062014805 then (tollbarref17_Meets.l0 k1 l0 (x5_1 ++ [(⟨(⟨(rd_T50 l0 x6_1).f0.f0, (rd_T50 l0 x6_1).f0.f1⟩ : S27), (rd_T50 l0 x6_1).f1⟩ : S50)]) (wrap64 (x6_1 + 1)) a1_0 a1_1) else (none)) = some r := by rw [if_pos rfl] at H; exact H
      clear H
      have H := H1
      clear H1
      by_cases c8 : x5_1.length < 5864062014805
      ·rw [if_pos c8] at H
       have LMc8 := zK c8
       clear c8
       obtain ⟨y199, hy199⟩ : ∃ y_ : List (S50), y_ = (x5_1 ++ [(⟨(⟨(rd_T50 l0 x6_1).f0.f0, (rd_T50 l0 x6_1).f0.f1⟩ : S27), (rd_T50 l0 x6_1).f1⟩ : S50)]) := ⟨_, rfl⟩
       replace H : (tollbarref17_Meets.l0 k1 l0 y199 (wrap64 (x6_1 + 1)) a1_0 a1_1) = some r := by first | (rw [hy199]; with_reducible exact H) | (have H2_ := (Option.bind_some _ _).symm.trans H; rw [hy199]; with_reducible exact H2_) | (have H2_ := (Option.bind_some _ _).symm.trans H; with_reducible exact H2_) | with_reducible exact H | (rw [hy199]; exact H) | exact H
       have Ny199 := zK hy199
       clear hy199
       have H' := zK H
       clear H
       try go_wp2
       have n0_ := zK (zC HO_5.out)
       have n1_ := zK (zE BK195.out)
       have n2_ := zK (zI HB.out)
       clear HO_5
       clear BK195
       clear HB
       have HO_5 := n0_
       have BK195 := n1_
       have HB := n2_
       clear n0_ n1_ n2_
       have p196 : 0 ≤ (x6_1 : Int) := of_decide_eq_true (by first | (with_reducible assumption) | assumption)
       have q196 : x6_1 < (l0.length : Int) := of_decide_eq_true (by first | (with_reducible assumption) | assumption)
       obtain ⟨ad196, e196, hx196_0, hx196_1, hx196_2⟩ := at_T50 HR0.out x6_1 p196 q196
       have hw196_2 := hx196_2
       have hw196_1 := hx196_1
       have hw196_0 := hx196_0
       cases e196
       replace hx196_0 := (HB.out.cell (zJ w _ hx196_0)).trans hx196_0
       replace hx196_1 := (HB.out.cell (zJ w _ hx196_1)).trans hx196_1
       replace hx196_2 := (HB.out.cell (zJ w _ hx196_2)).trans hx196_2
       replace p196 := eq_true p196
       replace q196 := eq_true q196
       refine start_ (n := 7) (S := fun w' => w'.cell? ⟨gb195, 0, none⟩ = some (.int .i64 a1_0) ∧ w'.cell? ⟨gb195, 1, none⟩ = some (.int .i64 a1_1) ∧ w'.cell? (ad196.add ((x6_1).toNat * 3)) = some (.int .i64 ((rd_T50 l0 x6_1).f0.f0)) ∧ w'.cell? ⟨(ad196.add ((x6_1).toNat * 3)).block, (ad196.add ((x6_1).toNat * 3)).off + 1, none⟩ = some (.int .i64 ((rd_T50 l0 x6_1).f0.f1)) ∧ w'.cell? ⟨(ad196.add ((x6_1).toNat * 3)).block, (ad196.add ((x6_1).toNat * 3)).off + 2, none⟩ = some (.int .i64 ((rd_T50 l0 x6_1).f1))) (ds := []) #[false, false, false, false, false, false, false] (by kernel_rfl) rfl rfl ⟨(zQ BK195.out 0).trans rfl, (zQ BK195.out 1).trans rfl, ((HB.out.cell (zJ w _ hw196_0)).trans hw196_0), ((HB.out.cell (zJ w _ hw196_1)).trans hw196_1), ((HB.out.cell (zJ w _ hw196_2)).trans hw196_2)⟩ (fun hHeld => ?_)
       generalize wr.drew = w9 at HO_5 BK195 HB hx196_0 hx196_1 hx196_2 hHeld ⊢
       refine pure_ (i := 0) (N := some 13) (v := ?_) (a' := ?_) #[true, false, false, false, false, false, false] rfl rfl (by kernel_rfl) (fun _ _ _ h => h) (Or.inl ⟨by rfl, ?_⟩) ?_ ?_
       rotate_left
       ·intro w'
        go_simp
        with_reducible rfl
       rotate_left
       ·simp only [Act.put, zY, zZ, yA, i64_w, i32_w]
        rfl
       refine pure_ (i := 1) (N := some 14) (v := ?_) (a' := ?_) #[true, true, false, false, false, false, false] rfl rfl (by kernel_rfl) (fun _ _ _ h => h) (Or.inl ⟨by rfl, ?_⟩) ?_ ?_
       rotate_left
       ·intro w'
        go_simp
        with_reducible rfl
       rotate_left
       ·simp only [Act.put, zY, zZ, yA, i64_w, i32_w]
        rfl
       refine pure_ (i := 2) (N := some 15) (v := ?_) (a' := ?_) #[true, true, true, false, false, false, false] rfl rfl (by kernel_rfl) (fun _ _ _ h => h) (Or.inl ⟨by rfl, ?_⟩) ?_ ?_
       rotate_left
       ·intro w'
        go_simp
        with_reducible rfl
       rotate_left
       ·simp only [Act.put, zY, zZ, yA, i64_w, i32_w]
        rfl
       refine pure_ (i := 3) (N := some 16) (v := ?_) (a' := ?_) #[true, true, true, true, false, false, false] rfl rfl (by kernel_rfl) (fun _ _ _ h => h) (Or.inl ⟨by rfl, ?_⟩) ?_ ?_
       rotate_left
       ·intro w'
        go_simp
        with_reducible rfl
       rotate_left
       ·simp only [Act.put, zY, zZ, yA, i64_w, i32_w]
        rfl
       refine take_ (i := 4) (N := some 17) (v := ?_) (a' := ?_) #[true, true, true, true, true, false, false] rfl rfl (by kernel_rfl) (fun _ _ _ h => h) (Or.inl ⟨by rfl, ?_⟩) hHeld ?_ ?_
       rotate_left
       ·rintro w' ⟨s0, s1, s2, s3, s4⟩
        go_simp
        with_reducible rfl
       rotate_left
       ·simp only [Act.put, zY, zZ, yA, i64_w, i32_w]
        rfl
       refine take_ (i := 5) (N := some 18) (v := ?_) (a' := ?_) #[true, true, true, true, true, true, false] rfl rfl (by kernel_rfl) (fun _ _ _ h => h) (Or.inl ⟨by rfl, ?_⟩) hHeld ?_ ?_
       rotate_left
       ·rintro w' ⟨s0, s1, s2, s3, s4⟩
        go_simp
        with_reducible rfl
       rotate_left
       ·simp only [Act.put, zY, zZ, yA, i64_w, i32_w]
        rfl
       refine one_ (i := 6) (N := some 19) #[true, true, true, true, true, true, true] rfl rfl (by kernel_rfl) (by decide) (fun K hK => ?_)
       refine goes_ Try.func56 (by kernel_rfl) rfl #[.agg #[.int .i64 ((rd_T50 l0 x6_1).f0.f0), .int .i64 ((rd_T50 l0 x6_1).f0.f1)], .agg #[.int .i64 a1_0, .int .i64 a1_1]] (by rfl) rfl rfl zt ?_
       with_reducible refine (tollbarref1_Meets.calls ((rd_T50 l0 x6_1).f0.f0) ((rd_T50 l0 x6_1).f0.f1) a1_0 a1_1 true _ A6.out).mono ?_
       rintro e w10 ⟨rfl, hb⟩
       refine ⟨_, rfl, ?_⟩
       have n0_ := zK (zO (zr HO_5.out) hb)
       have n1_ := zK (zP (g := gb195) (o := .cells #[.int .i64 a1_0, .int .i64 a1_1] 27 (0, 0)) (zb BK195.out) hb)
       have n2_ := zK (yF (zl HB.out) hb)
       clear HO_5
       clear BK195
       clear HB
       have HO_5 := n0_
       have BK195 := n1_
       have HB := n2_
       clear n0_ n1_ n2_
       (try clear hb)
       (try clear hb2)
       (try clear hk)
       (try clear hi)
       refine hK.out _ _ ⟨(zQ BK195.out 0).trans rfl, (zQ BK195.out 1).trans rfl, ((HB.out.cell (zJ w _ hw196_0)).trans hw196_0), ((HB.out.cell (zJ w _ hw196_1)).trans hw196_1), ((HB.out.cell (zJ w _ hw196_2)).trans hw196_2)⟩ (fun hHeld => ?_)
       clear hK K
       refine norm_ (a' := ?_) ?_ ?_
       rotate_left
       ·show Act.put _ (some 19) _ = _
        simp only [Act.put, zY, zZ, yA, i64_w, i32_w]
        rfl
       refine done_ (by kernel_rfl) ?_
       have p198 : 0 ≤ (x6_1 : Int) := of_decide_eq_true (by first | (with_reducible assumption) | assumption)
       have q198 : x6_1 < (l0.length : Int) := of_decide_eq_true (by first | (with_reducible assumption) | assumption)
       obtain ⟨ad198, e198, hx198_0, hx198_1, hx198_2⟩ := at_T50 HR0.out x6_1 p198 q198
       obtain rfl : ad196 = ad198 := (by injection e198)
       replace hx198_0 := (HB.out.cell (zJ w _ hx198_0)).trans hx198_0
       replace hx198_1 := (HB.out.cell (zJ w _ hx198_1)).trans hx198_1
       replace hx198_2 := (HB.out.cell (zJ w _ hx198_2)).trans hx198_2
       replace p198 := eq_true p198
       replace q198 := eq_true q198
       try go_wp2_with (first | ((with_reducible refine gate_builtin (b := .append) (xs := #[.tmp 20, .tmp 25]) rfl ?_); at_builtin; refine Kd.R_append k50 (w0 := w) w.heap.size rfl (.tmp 20) (.tmp 25) 29 50 (.agg #[(.int .i64 0), (.int .i64 0), (.int .i64 0)]) 24 rfl Try.underlying29 info50 rfl (by decide) (by omega) u5 x5_1 (⟨(⟨(rd_T50 l0 x6_1).f0.f0, (rd_T50 l0 x6_1).f0.f1⟩ : S27), (rd_T50 l0 x6_1).f1⟩ : S50) [.int .i64 ((rd_T50 l0 x6_1).f0.f0), .int .i64 ((rd_T50 l0 x6_1).f0.f1), .int .i64 ((rd_T50 l0 x6_1).f1)] (fun _ => True) (fun _ => False) rfl rfl ?aP (fun _ hk => hk.elim) ?aF ?aO ?aB ?aS ?aL ?_; (case aP => exact k50_mkM _ _ _ (⟨(⟨(rd_T50 l0 x6_1).f0.f0, (rd_T50 l0 x6_1).f0.f1⟩ : S27), (rd_T50 l0 x6_1).f1⟩ : S50)); (case aB => exact (zl HB.out)); (case aF => exact (fun _ _ => trivial)); (case aO => exact (zr HO_5.out)); (case aS => exact (yG (zl HB.out))); (case aL => have := LMc8.out; omega); intro v200 w11 ho hb hg hat; rw [← Ny199.out] at ho; have n0_ := zK (blk_grown (g := gb195) (o := .cells #[.int .i64 a1_0, .int .i64 a1_1] 27 (0, 0)) (zb BK195.out) hg (Kd.R_ne HO_5.out BK195.out (by decide))); have n1_ := zK (hb); have n2_ := zK (ho); clear BK195; clear HB; clear HO_5; have BK195 := n0_; have HB := n1_; have HO201 := n2_; clear n0_ n1_ n2_; clear ho hb hg hat))
       go_roundg k1
       case measure => have := HK1.out; omega
       case rel => exact ⟨(y199), (wrap64 (x6_1 + 1)), zz, H', ⟨by have := HK1.out; omega⟩, ⟨by (with_reducible repeat (first | apply zA | apply zB | apply zC)); exact HO201.out⟩, ⟨by (with_reducible repeat (first | refine zD ?_ _ | refine zE ?_ | refine zF ?_ _)); exact BK195.out⟩, ⟨by repeat (first | (with_reducible first | exact HB.out | apply zG | apply zH | apply zI | refine zL ?_ GE195.out) | exact HB.out)⟩⟩
      ·rw [if_neg c8] at H
       exact absurd H (by simp)
     ·replace c7 := Bool.eq_false_iff.mpr c7
      subst c7
      have H1 : (tollbarref17_Meets.l0 k1 l0 x5_1 (wrap64 (x6_1 + 1)) a1_0 a1_1) = some r := by rw [if_neg (show ¬ (false = true) by decide)] at H; exact H
      clear H
      have H := H1
      clear H1
      have H' := zK H
      clear H
      try go_wp2
      have n0_ := zK (zC HO_5.out)
      have n1_ := zK (zE BK195.out)
      have n2_ := zK (zI HB.out)
      clear HO_5
      clear BK195
      clear HB
      have HO_5 := n0_
      have BK195 := n1_
      have HB := n2_
      clear n0_ n1_ n2_
      have p196 : 0 ≤ (x6_1 : Int) := of_decide_eq_true (by first | (with_reducible assumption) | assumption)
      have q196 : x6_1 < (l0.length : Int) := of_decide_eq_true (by first | (with_reducible assumption) | assumption)
      obtain ⟨ad196, e196, hx196_0, hx196_1, hx196_2⟩ := at_T50 HR0.out x6_1 p196 q196
      have hw196_2 := hx196_2
      have hw196_1 := hx196_1
      have hw196_0 := hx196_0
      cases e196
      replace hx196_0 := (HB.out.cell (zJ w _ hx196_0)).trans hx196_0
      replace hx196_1 := (HB.out.cell (zJ w _ hx196_1)).trans hx196_1
      replace hx196_2 := (HB.out.cell (zJ w _ hx196_2)).trans hx196_2
      replace p196 := eq_true p196
      replace q196 := eq_true q196
      refine start_ (n := 7) (S := fun w' => w'.cell? ⟨gb195, 0, none⟩ = some (.int .i64 a1_0) ∧ w'.cell? ⟨gb195, 1, none⟩ = some (.int .i64 a1_1) ∧ w'.cell? (ad196.add ((x6_1).toNat * 3)) = some (.int .i64 ((rd_T50 l0 x6_1).f0.f0)) ∧ w'.cell? ⟨(ad196.add ((x6_1).toNat * 3)).block, (ad196.add ((x6_1).toNat * 3)).off + 1, none⟩ = some (.int .i64 ((rd_T50 l0 x6_1).f0.f1)) ∧ w'.cell? ⟨(ad196.add ((x6_1).toNat * 3)).block, (ad196.add ((x6_1).toNat * 3)).off + 2, none⟩ = some (.int .i64 ((rd_T50 l0 x6_1).f1))) (ds := []) #[false, false, false, false, false, false, false] (by kernel_rfl) rfl rfl ⟨(zQ BK195.out 0).trans rfl, (zQ BK195.out 1).trans rfl, ((HB.out.cell (zJ w _ hw196_0)).trans hw196_0), ((HB.out.cell (zJ w _ hw196_1)).trans hw196_1), ((HB.out.cell (zJ w _ hw196_2)).trans hw196_2)⟩ (fun hHeld => ?_)
      generalize wr.drew = w12 at HO_5 BK195 HB hx196_0 hx196_1 hx196_2 hHeld ⊢
      refine pure_ (i := 0) (N := some 13) (v := ?_) (a' := ?_) #[true, false, false, false, false, false, false] rfl rfl (by kernel_rfl) (fun _ _ _ h => h) (Or.inl ⟨by rfl, ?_⟩) ?_ ?_
      rotate_left
      ·intro w'
       go_simp
       with_reducible rfl
      rotate_left
      ·simp only [Act.put, zY, zZ, yA, i64_w, i32_w]
       rfl
      refine pure_ (i := 1) (N := some 14) (v := ?_) (a' := ?_) #[true, true, false, false, false, false, false] rfl rfl (by kernel_rfl) (fun _ _ _ h => h) (Or.inl ⟨by rfl, ?_⟩) ?_ ?_
      rotate_left
      ·intro w'
       go_simp
       with_reducible rfl
      rotate_left
      ·simp only [Act.put, zY, zZ, yA, i64_w, i32_w]
       rfl
      refine pure_ (i := 2) (N := some 15) (v := ?_) (a' := ?_) #[true, true, true, false, false, false, false] rfl rfl (by kernel_rfl) (fun _ _ _ h => h) (Or.inl ⟨by rfl, ?_⟩) ?_ ?_
      rotate_left
      ·intro w'
       go_simp
       with_reducible rfl
      rotate_left
      ·simp only [Act.put, zY, zZ, yA, i64_w, i32_w]
       rfl
      refine pure_ (i := 3) (N := some 16) (v := ?_) (a' := ?_) #[true, true, true, true, false, false, false] rfl rfl (by kernel_rfl) (fun _ _ _ h => h) (Or.inl ⟨by rfl, ?_⟩) ?_ ?_
      rotate_left
      ·intro w'
       go_simp
       with_reducible rfl
      rotate_left
      ·simp only [Act.put, zY, zZ, yA, i64_w, i32_w]
       rfl
      refine take_ (i := 4) (N := some 17) (v := ?_) (a' := ?_) #[true, true, true, true, true, false, false] rfl rfl (by kernel_rfl) (fun _ _ _ h => h) (Or.inl ⟨by rfl, ?_⟩) hHeld ?_ ?_
      rotate_left
      ·rintro w' ⟨s0, s1, s2, s3, s4⟩
       go_simp
       with_reducible rfl
      rotate_left
      ·simp only [Act.put, zY, zZ, yA, i64_w, i32_w]
       rfl
      refine take_ (i := 5) (N := some 18) (v := ?_) (a' := ?_) #[true, true, true, true, true, true, false] rfl rfl (by kernel_rfl) (fun _ _ _ h => h) (Or.inl ⟨by rfl, ?_⟩) hHeld ?_ ?_
      rotate_left
      ·rintro w' ⟨s0, s1, s2, s3, s4⟩
       go_simp
       with_reducible rfl
      rotate_left
      ·simp only [Act.put, zY, zZ, yA, i64_w, i32_w]
       rfl
      refine one_ (i := 6) (N := some 19) #[true, true, true, true, true, true, true] rfl rfl (by kernel_rfl) (by decide) (fun K hK => ?_)
      refine goes_ Try.func56 (by kernel_rfl) rfl #[.agg #[.int .i64 ((rd_T50 l0 x6_1).f0.f0), .int .i64 ((rd_T50 l0 x6_1).f0.f1)], .agg #[.int .i64 a1_0, .int .i64 a1_1]] (by rfl) rfl rfl zt ?_
      with_reducible refine (tollbarref1_Meets.calls ((rd_T50 l0 x6_1).f0.f0) ((rd_T50 l0 x6_1).f0.f1) a1_0 a1_1 false _ A6.out).mono ?_
      rintro e w13 ⟨rfl, hb⟩
      refine ⟨_, rfl, ?_⟩
      have n0_ := zK (zO (zr HO_5.out) hb)
      have n1_ := zK (zP (g := gb195) (o := .cells #[.int .i64 a1_0, .int .i64 a1_1] 27 (0, 0)) (zb BK195.out) hb)
      have n2_ := zK (yF (zl HB.out) hb)
      clear HO_5
      clear BK195
      clear HB
      have HO_5 := n0_
      have BK195 := n1_
      have HB := n2_
      clear n0_ n1_ n2_
      (try clear hb)
      (try clear hb2)
      (try clear hk)
      (try clear hi)
      refine hK.out _ _ ⟨(zQ BK195.out 0).trans rfl, (zQ BK195.out 1).trans rfl, ((HB.out.cell (zJ w _ hw196_0)).trans hw196_0), ((HB.out.cell (zJ w _ hw196_1)).trans hw196_1), ((HB.out.cell (zJ w _ hw196_2)).trans hw196_2)⟩ (fun hHeld => ?_)
      clear hK K
      refine norm_ (a' := ?_) ?_ ?_
      rotate_left
      ·show Act.put _ (some 19) _ = _
       simp only [Act.put, zY, zZ, yA, i64_w, i32_w]
       rfl
      refine done_ (by kernel_rfl) ?_
      try go_wp2
      go_roundg k1
      case measure => have := HK1.out; omega
      case rel => exact ⟨(x5_1), (wrap64 (x6_1 + 1)), zz, H', ⟨by have := HK1.out; omega⟩, ⟨by (with_reducible repeat (first | apply zA | apply zB | apply zC)); exact HO_5.out⟩, ⟨by (with_reducible repeat (first | refine zD ?_ _ | refine zE ?_ | refine zF ?_ _)); exact BK195.out⟩, ⟨by repeat (first | (with_reducible first | exact HB.out | apply zG | apply zH | apply zI | refine zL ?_ GE195.out) | exact HB.out)⟩⟩
    ·rw [if_neg c5] at H
     exact absurd H (by simp)
   ·rw [if_neg c4] at H
    have c4b0 : decide (x6_1 < (l0.length : Int)) = false := decide_eq_false c4
    clear c4
    obtain rfl := Option.some.inj H
    go_wp2
    go_ret
    exact ⟨_, by first | rfl | (simp [errW_none, errW_some] <;> rfl) | (simp [*, errW_none, errW_some] <;> rfl), by (with_reducible repeat (first | apply zA | apply zB | apply zC)); exact HO_5.out, zl HB.out⟩
end Go.Proofs.Ytgkjpffbgnljeaa.QL
-- written by this session's program mprint.py: functions of the Go program, and their contracts
namespace Go.Proofs.Ytgkjpffbgnljeaa.QL
open Go.RowKit Go.Proofs.Ytgkjpffbgnljeaa.Au Go.Proofs.Ytgkjpffbgnljeaa.QT Go.Proofs.Ytgkjpffbgnljeaa.Man Go.Proofs.Ytgkjpffbgnljeaa.QA Go.Proofs.YtgkjpffbgnljeaaW.PrintWords Go.Proofs.YtgkjpffbgnljeaaW.PrintLast Go.Proofs.YtgkjpffbgnljeaaW.PrintMore
attribute [local go_sem] max2_int min2_int max_two min_two max_three min_three max_four min_four
set_option linter.unusedVariables false
set_option linter.unusedSimpArgs false
mutual
noncomputable def tollbarlaw17_Trees.j0 : Nat → List (S50) → Bool → List (S50) → Int → List (S50) → Int → List Int → Int → Bool → List (S64) → Int → List Int → Int → Int → List (S64) → Int → List Int → Option (Bool)
 | 0, _, _, _, _, _, _, _, _, _, _, _, _, _, _, _, _, _ => none
 | k + 1, x6, x7, x8, x9, x10, x11, x12, x13, x47, xqa, xqb, xqc, xqd, xqe, xqf, xqg, xqh => if x47 = true then (some false) else (if x7 = true then ((tollbarlaw0_Num.f x9).bind fun t234 => (if t234 = 0 then ((tollbarlaw0_SameItems.f k x8 x6).bind fun t235 => (tollbarlaw17_Trees.j1 k x6 x8 x10 x11 x12 x13 (!t235) xqa xqb xqc xqd xqe xqf xqg xqh)) else (tollbarlaw17_Trees.j1 k x6 x8 x10 x11 x12 x13 true xqa xqb xqc xqd xqe xqf xqg xqh))) else ((tollbarlaw17_awake.f).bind fun t230 => (if t230 = true then ((tollbarlaw0_Num.f x9).bind fun t231 => (if t231 = 1700 then ((tollbarlaw0_Num.f x11).bind fun t232 => (if t232 = 1700 then ((tollbarlaw0_Num.f x13).bind fun t233 => (if t233 = 1700 then (if (x8.length : Int) = 0 then (if (x10.length : Int) = 0 then (some ((x12.length : Int) == 0)) else (some false)) else (some false)) else (some false))) else (some false))) else (some false))) else (some false))))
noncomputable def tollbarlaw17_Trees.j1 : Nat → List (S50) → List (S50) → List (S50) → Int → List Int → Int → Bool → List (S64) → Int → List Int → Int → Int → List (S64) → Int → List Int → Option (Bool)
 | 0, _, _, _, _, _, _, _, _, _, _, _, _, _, _, _ => none
 | k + 1, x6, x8, x10, x11, x12, x13, x89, xqa, xqb, xqc, xqd, xqe, xqf, xqg, xqh => if x89 = true then (some false) else ((tollbarlaw0_SpoilItems.f k x8).bind fun t236 => ((tollbarref1_SpanMay.f xqd xqe).bind fun t237 => (if t237 = true then ((tollbarlaw0_Num.f x11).bind fun t242 => (if t242 = 0 then ((tollbarlaw0_Num.f x13).bind fun t243 => (if t243 = 0 then ((tollbarref17_Meets.f k x6 xqd xqe).bind fun t244 => ((tollbarlaw0_SameItems.f k x10 t244).bind fun t247 => (if t247 = true then ((tollbarref17_Points.f k x6 xqd xqe).bind fun t248 => ((tollbarlaw0_SameInts.f k x12 t248).bind fun t251 => (tollbarlaw17_Trees.j2 k x10 (!t251) xqa xqb xqc xqf xqg xqh))) else (tollbarlaw17_Trees.j2 k x10 true xqa xqb xqc xqf xqg xqh)))) else (tollbarlaw17_Trees.j2 k x10 true xqa xqb xqc xqf xqg xqh))) else (tollbarlaw17_Trees.j2 k x10 true xqa xqb xqc xqf xqg xqh))) else ((tollbarlaw17_awake.f).bind fun t238 => (if t238 = true then ((tollbarlaw0_Num.f x11).bind fun t239 => (if t239 = 1700 then ((tollbarlaw0_Num.f x13).bind fun t240 => (if t240 = 1700 then (if (x10.length : Int) = 0 then (if (x12.length : Int) = 0 then ((tollbarlaw0_SameTree.f k xqf xqg xqh xqa xqb xqc).bind fun t241 => (some t241)) else (some false)) else (some false)) else (some false))) else (some false))) else (some false))))))
noncomputable def tollbarlaw17_Trees.j2 : Nat → List (S50) → Bool → List (S64) → Int → List Int → List (S64) → Int → List Int → Option (Bool)
 | 0, _, _, _, _, _, _, _, _ => none
 | k + 1, x10, x144, xqa, xqb, xqc, xqf, xqg, xqh => if x144 = true then (some false) else ((tollbarlaw0_SpoilItems.f k x10).bind fun t252 => ((tollbarlaw17_awake.f).bind fun t253 => (if t253 = true then ((tollbarlaw0_SameTree.f k xqf xqg xqh xqa xqb xqc).bind fun t254 => (some t254)) else (some false))))
end
noncomputable def tollbarlaw17_Trees.f (k : Nat) (l0_0 : List (S64)) (a0_1 : Int) (l0_2 : List Int) (a1_0 : Int) (a1_1 : Int) : Option (Bool) := (tollbarlaw0_CopyTree.f l0_0 a0_1 l0_2).bind fun bt204 => ((tollbarref17_All.f k l0_0 a0_1 l0_2).bind fun bt212 => ((tree_Items.f bt204.1 bt204.2.1 bt204.2.2).bind fun bt216 => ((tree_Meets.f bt204.1 bt204.2.1 bt204.2.2 a1_0 a1_1).bind fun bt220 => ((tree_Points.f bt204.1 bt204.2.1 bt204.2.2 a1_0 a1_1).bind fun bt224 => ((tree_May.f bt204.1 bt204.2.1 bt204.2.2).bind fun t228 => (if (t228 != bt212.2) = true then (tollbarlaw17_Trees.j0 k bt212.1 bt212.2 bt216.1 bt216.2 bt220.1 bt220.2 bt224.1 bt224.2 true l0_0 a0_1 l0_2 a1_0 a1_1 bt204.1 bt204.2.1 bt204.2.2) else ((tollbarlaw0_SameTree.f k bt204.1 bt204.2.1 bt204.2.2 l0_0 a0_1 l0_2).bind fun t229 => (tollbarlaw17_Trees.j0 k bt212.1 bt212.2 bt216.1 bt216.2 bt220.1 bt220.2 bt224.1 bt224.2 (!t229) l0_0 a0_1 l0_2 a1_0 a1_1 bt204.1 bt204.2.1 bt204.2.2))))))))
set_option maxHeartbeats 8000000 in
set_option maxRecDepth 100000 in
theorem tollbarlaw17_Trees.calls (k : Nat) (A0_0 : Option Addr) (c0_0 : Nat) (l0_0 : List (S64)) (a0_1 : Int) (A0_2 : Option Addr) (c0_2 : Nat) (l0_2 : List Int) (a1_0 : Int) (a1_1 : Int) (r : Bool) (w : World) (hr0_0 : Kd.C k64 w A0_0 l0_0.length l0_0) (hc0_0 : l0_0.length ≤ c0_0) (hr0_2 : Kd.C (Kd.int .i64) w A0_2 l0_2.length l0_2) (hc0_2 : l0_2.length ≤ c0_2) (h : tollbarlaw17_Trees.f k l0_0 a0_1 l0_2 a1_0 a1_1 = some r) :
  Calls Try.prog 3 #[.agg #[.slice A0_0 l0_0.length c0_0, .int .i64 a0_1, .slice A0_2 l0_2.length c0_2], .agg #[.int .i64 a1_0, .int .i64 a1_1]] w fun e w' => e = .returned (.bool r) ∧ Below w.heap.size w w' := by
 have hu25 := Try.underlying25
 have hu27 := Try.underlying27
 have HR0_0 := zK hr0_0
 have HC0_0 := zK hc0_0
 clear hr0_0 hc0_0
 have HR0_2 := zK hr0_2
 have HC0_2 := zK hc0_2
 clear hr0_2 hc0_2
 have HB := zK (Below.refl w.heap.size w)
 have H : ((tollbarlaw0_CopyTree.f l0_0 a0_1 l0_2).bind fun bt204 => ((tollbarref17_All.f k l0_0 a0_1 l0_2).bind fun bt212 => ((tree_Items.f bt204.1 bt204.2.1 bt204.2.2).bind fun bt216 => ((tree_Meets.f bt204.1 bt204.2.1 bt204.2.2 a1_0 a1_1).bind fun bt220 => ((tree_Points.f bt204.1 bt204.2.1 bt204.2.2 a1_0 a1_1).bind fun bt224 => ((tree_May.f bt204.1 bt204.2.1 bt204.2.2).bind fun t228 => (if (t228 != bt212.2) = true then (tollbarlaw17_Trees.j0 k bt212.1 bt212.2 bt216.1 bt216.2 bt220.1 bt220.2 bt224.1 bt224.2 true l0_0 a0_1 l0_2 a1_0 a1_1 bt204.1 bt204.2.1 bt204.2.2) else ((tollbarlaw0_SameTree.f k bt204.1 bt204.2.1 bt204.2.2 l0_0 a0_1 l0_2).bind fun t229 => (tollbarlaw17_Trees.j0 k bt212.1 bt212.2 bt216.1 bt216.2 bt220.1 bt220.2 bt224.1 bt224.2 (!t229) l0_0 a0_1 l0_2 a1_0 a1_1 bt204.1 bt204.2.1 bt204.2.2))))))))) = some r := h
 clear h
 replace H := yH.mp H
 obtain ⟨⟨t204, t207, t208⟩, A30, H⟩ := H
 replace H : ((tollbarref17_All.f k l0_0 a0_1 l0_2).bind fun bt212 => ((tree_Items.f t204 t207 t208).bind fun bt216 => ((tree_Meets.f t204 t207 t208 a1_0 a1_1).bind fun bt220 => ((tree_Points.f t204 t207 t208 a1_0 a1_1).bind fun bt224 => ((tree_May.f t204 t207 t208).bind fun t228 => (if (t228 != bt212.2) = true then (tollbarlaw17_Trees.j0 k bt212.1 bt212.2 bt216.1 bt216.2 bt220.1 bt220.2 bt224.1 bt224.2 true l0_0 a0_1 l0_2 a1_0 a1_1 t204 t207 t208) else ((tollbarlaw0_SameTree.f k t204 t207 t208 l0_0 a0_1 l0_2).bind fun t229 => (tollbarlaw17_Trees.j0 k bt212.1 bt212.2 bt216.1 bt216.2 bt220.1 bt220.2 bt224.1 bt224.2 (!t229) l0_0 a0_1 l0_2 a1_0 a1_1 t204 t207 t208)))))))) = some r := H
 have A3 := zK A30
 clear A30
 replace H := yH.mp H
 obtain ⟨⟨t212, t215⟩, A40, H⟩ := H
 replace H : ((tree_Items.f t204 t207 t208).bind fun bt216 => ((tree_Meets.f t204 t207 t208 a1_0 a1_1).bind fun bt220 => ((tree_Points.f t204 t207 t208 a1_0 a1_1).bind fun bt224 => ((tree_May.f t204 t207 t208).bind fun t228 => (if (t228 != t215) = true then (tollbarlaw17_Trees.j0 k t212 t215 bt216.1 bt216.2 bt220.1 bt220.2 bt224.1 bt224.2 true l0_0 a0_1 l0_2 a1_0 a1_1 t204 t207 t208) else ((tollbarlaw0_SameTree.f k t204 t207 t208 l0_0 a0_1 l0_2).bind fun t229 => (tollbarlaw17_Trees.j0 k t212 t215 bt216.1 bt216.2 bt220.1 bt220.2 bt224.1 bt224.2 (!t229) l0_0 a0_1 l0_2 a1_0 a1_1 t204 t207 t208))))))) = some r := H
 have A4 := zK A40
 clear A40
 replace H := yH.mp H
 obtain ⟨⟨t216, t219⟩, A50, H⟩ := H
 replace H : ((tree_Meets.f t204 t207 t208 a1_0 a1_1).bind fun bt220 => ((tree_Points.f t204 t207 t208 a1_0 a1_1).bind fun bt224 => ((tree_May.f t204 t207 t208).bind fun t228 => (if (t228 != t215) = true then (tollbarlaw17_Trees.j0 k t212 t215 t216 t219 bt220.1 bt220.2 bt224.1 bt224.2 true l0_0 a0_1 l0_2 a1_0 a1_1 t204 t207 t208) else ((tollbarlaw0_SameTree.f k t204 t207 t208 l0_0 a0_1 l0_2).bind fun t229 => (tollbarlaw17_Trees.j0 k t212 t215 t216 t219 bt220.1 bt220.2 bt224.1 bt224.2 (!t229) l0_0 a0_1 l0_2 a1_0 a1_1 t204 t207 t208)))))) = some r := H
 have A5 := zK A50
 clear A50
 replace H := yH.mp H
 obtain ⟨⟨t220, t223⟩, A60, H⟩ := H
 replace H : ((tree_Points.f t204 t207 t208 a1_0 a1_1).bind fun bt224 => ((tree_May.f t204 t207 t208).bind fun t228 => (if (t228 != t215) = true then (tollbarlaw17_Trees.j0 k t212 t215 t216 t219 t220 t223 bt224.1 bt224.2 true l0_0 a0_1 l0_2 a1_0 a1_1 t204 t207 t208) else ((tollbarlaw0_SameTree.f k t204 t207 t208 l0_0 a0_1 l0_2).bind fun t229 => (tollbarlaw17_Trees.j0 k t212 t215 t216 t219 t220 t223 bt224.1 bt224.2 (!t229) l0_0 a0_1 l0_2 a1_0 a1_1 t204 t207 t208))))) = some r := H
 have A6 := zK A60
 clear A60
 replace H := yH.mp H
 obtain ⟨⟨t224, t227⟩, A70, H⟩ := H
 replace H : ((tree_May.f t204 t207 t208).bind fun t228 => (if (t228 != t215) = true then (tollbarlaw17_Trees.j0 k t212 t215 t216 t219 t220 t223 t224 t227 true l0_0 a0_1 l0_2 a1_0 a1_1 t204 t207 t208) else ((tollbarlaw0_SameTree.f k t204 t207 t208 l0_0 a0_1 l0_2).bind fun t229 => (tollbarlaw17_Trees.j0 k t212 t215 t216 t219 t220 t223 t224 t227 (!t229) l0_0 a0_1 l0_2 a1_0 a1_1 t204 t207 t208)))) = some r := H
 have A7 := zK A70
 clear A70
 have HC8 := zK H
 clear H
 go_enter Try.func3, Try.ntmps3
 go_upto_region 6 with (first | ((with_reducible refine gate_dst (N := 2) rfl ?_); (try (refine gate_guard (by rfl) ?_; dsimp only)); refine box_event ?hg (N := 2) ?hd (cs := #[.slice A0_0 l0_0.length c0_0, .int .i64 a0_1, .slice A0_2 l0_2.length c0_2]) (t := 25) ?hr ?_; (case hd => rfl); (case hg => rfl); (case hr => first | (go_simp; done) | (go_simp; rfl)); intro gb202 hg w9 hbox hb; have n0_ := zK (yF (zl HB.out) hb); have n1_ := zK (hbox); have n2_ := zK ((by rw [hg]; exact (yG (zl HB.out)) : w.heap.size ≤ gb202)); have n3_ := zK ((by rw [hg]; exact (yG (zl HB.out)) : w.heap.size ≤ gb202)); clear HB; have HB := n0_; have BK202 := n1_; have GW202 := n2_; have GE202 := n3_; clear n0_ n1_ n2_ n3_; clear hb hbox hg) | ((with_reducible refine gate_dst (N := 3) rfl ?_); (try (refine gate_guard (by rfl) ?_; dsimp only)); refine box_event ?hg (N := 3) ?hd (cs := #[.int .i64 a1_0, .int .i64 a1_1]) (t := 27) ?hr ?_; (case hd => rfl); (case hg => rfl); (case hr => first | (go_simp; done) | (go_simp; rfl)); intro gb203 hg w10 hbox hb; have n0_ := zK (zP (g := gb202) (o := .cells #[.slice A0_0 l0_0.length c0_0, .int .i64 a0_1, .slice A0_2 l0_2.length c0_2] 25 (0, 0)) (zb BK202.out) hb); have n1_ := zK (yF (zl HB.out) hb); have n2_ := zK (hbox); have n3_ := zK ((by rw [hg]; exact (yG (zl HB.out)) : w.heap.size ≤ gb203)); have n4_ := zK ((by rw [hg]; exact (yG (zl HB.out)) : w.heap.size ≤ gb203)); have n5_ := zK ((by rw [hg]; exact zN (blk_lt (g := gb202) (o := .cells #[.slice A0_0 l0_0.length c0_0, .int .i64 a0_1, .slice A0_2 l0_2.length c0_2] 25 (0, 0)) (zb BK202.out)) : gb202 ≠ gb203)); have n6_ := zK ((by rw [hg]; exact Nat.ne_of_gt (blk_lt (g := gb202) (o := .cells #[.slice A0_0 l0_0.length c0_0, .int .i64 a0_1, .slice A0_2 l0_2.length c0_2] 25 (0, 0)) (zb BK202.out)) : gb203 ≠ gb202)); clear BK202; clear HB; have BK202 := n0_; have HB := n1_; have BK203 := n2_; have GW203 := n3_; have GE203 := n4_; have NB202_203 := n5_; have NB203_202 := n6_; clear n0_ n1_ n2_ n3_ n4_ n5_ n6_; clear hb hbox hg; have hnb11 := NB202_203.out; have hnc11 := NB203_202.out; have hcz12_0 : w10.cell? ⟨gb202, 0, none⟩ = some (.slice A0_0 l0_0.length c0_0) := (zQ BK202.out 0).trans rfl; have hcz12_1 : w10.cell? ⟨gb202, 1, none⟩ = some (.int .i64 a0_1) := (zQ BK202.out 1).trans rfl; have hcz12_2 : w10.cell? ⟨gb202, 2, none⟩ = some (.slice A0_2 l0_2.length c0_2) := (zQ BK202.out 2).trans rfl; have hfz12_0 := zR BK202.out 0; have hfz12_1 := zR BK202.out 1; have hfz12_2 := zR BK202.out 2) | ((with_reducible refine gate_callee (f := 11) rfl ?_); refine goesL_ (some 15) rfl rfl Try.func11 (by kernel_rfl) rfl #[.agg #[.slice A0_0 l0_0.length c0_0, .int .i64 a0_1, .slice A0_2 l0_2.length c0_2]] rfl zt ?_; (with_reducible refine (tollbarlaw0_CopyTree.calls _ _ l0_0 a0_1 _ _ l0_2 t204 t207 t208 _ ?side1 ?side2 ?side3 ?side4 A3.out).mono ?_); (case side1 => repeat (first | exact (yD HR0_0.out HB.out) | (with_reducible refine zS ?_ _) | (with_reducible refine zT ?_ _) | (with_reducible refine zU ?_))); (case side2 => exact HC0_0.out); (case side3 => repeat (first | exact (yD HR0_2.out HB.out) | (with_reducible refine zS ?_ _) | (with_reducible refine zT ?_ _) | (with_reducible refine zU ?_))); (case side4 => exact HC0_2.out); rintro e w13 ⟨v205, v209, rfl, ho0, ho1, hb⟩; refine ⟨_, rfl, ?_⟩; have n0_ := zK (zV ho0 (yG (zl HB.out))); have n1_ := zK (zV ho1 (yG (zl HB.out))); have n2_ := zK (zP (g := gb202) (o := .cells #[.slice A0_0 l0_0.length c0_0, .int .i64 a0_1, .slice A0_2 l0_2.length c0_2] 25 (0, 0)) (zb BK202.out) hb); have n3_ := zK (zP (g := gb203) (o := .cells #[.int .i64 a1_0, .int .i64 a1_1] 27 (0, 0)) (zb BK203.out) hb); have n4_ := zK (yF (zl HB.out) hb); clear BK202; clear BK203; clear HB; have HO206 := n0_; have HO210 := n1_; have BK202 := n2_; have BK203 := n3_; have HB := n4_; clear n0_ n1_ n2_ n3_ n4_; (try clear hb); (try clear hb2); (try clear hk); (try clear hi); (try clear ho0); (try clear ho1)) | ((with_reducible refine gate_dst (N := 5) rfl ?_); (try (refine gate_guard (by rfl) ?_; dsimp only)); refine box_event ?hg (N := 5) ?hd (cs := #[.slice none 0 0, .int .i64 0, .slice none 0 0]) (t := 25) ?hr ?_; (case hd => rfl); (case hg => rfl); (case hr => first | (go_simp; done) | (go_simp; rfl)); intro gb211 hg w14 hbox hb; have n0_ := zK (zO (zr HO206.out) hb); have n1_ := zK (zO (zr HO210.out) hb); have n2_ := zK (zP (g := gb202) (o := .cells #[.slice A0_0 l0_0.length c0_0, .int .i64 a0_1, .slice A0_2 l0_2.length c0_2] 25 (0, 0)) (zb BK202.out) hb); have n3_ := zK (zP (g := gb203) (o := .cells #[.int .i64 a1_0, .int .i64 a1_1] 27 (0, 0)) (zb BK203.out) hb); have n4_ := zK (yF (zl HB.out) hb); have n5_ := zK (hbox); have n6_ := zK ((by rw [hg]; exact (yG (zl HB.out)) : w.heap.size ≤ gb211)); have n7_ := zK ((by rw [hg]; exact (yG (zl HB.out)) : w.heap.size ≤ gb211)); have n8_ := zK ((by rw [hg]; exact zN (blk_lt (g := gb202) (o := .cells #[.slice A0_0 l0_0.length c0_0, .int .i64 a0_1, .slice A0_2 l0_2.length c0_2] 25 (0, 0)) (zb BK202.out)) : gb202 ≠ gb211)); have n9_ := zK ((by rw [hg]; exact Nat.ne_of_gt (blk_lt (g := gb202) (o := .cells #[.slice A0_0 l0_0.length c0_0, .int .i64 a0_1, .slice A0_2 l0_2.length c0_2] 25 (0, 0)) (zb BK202.out)) : gb211 ≠ gb202)); have n10_ := zK ((by rw [hg]; exact zN (blk_lt (g := gb203) (o := .cells #[.int .i64 a1_0, .int .i64 a1_1] 27 (0, 0)) (zb BK203.out)) : gb203 ≠ gb211)); have n11_ := zK ((by rw [hg]; exact Nat.ne_of_gt (blk_lt (g := gb203) (o := .cells #[.int .i64 a1_0, .int .i64 a1_1] 27 (0, 0)) (zb BK203.out)) : gb211 ≠ gb203)); clear HO206; clear HO210; clear BK202; clear BK203; clear HB; have HO206 := n0_; have HO210 := n1_; have BK202 := n2_; have BK203 := n3_; have HB := n4_; have BK211 := n5_; have GW211 := n6_; have GE211 := n7_; have NB202_211 := n8_; have NB211_202 := n9_; have NB203_211 := n10_; have NB211_203 := n11_; clear n0_ n1_ n2_ n3_ n4_ n5_ n6_ n7_ n8_ n9_ n10_ n11_; clear hb hbox hg; obtain ⟨Ao15, co15, eo15⟩ := yE HO206.out; subst eo15; have hnb16 := NB211_202.out; have hnc16 := NB202_211.out; have hnb17 := NB211_203.out; have hnc17 := NB203_211.out; have hcz18_0 : w14.cell? ⟨gb211, 0, none⟩ = some (.slice none 0 0) := (zQ BK211.out 0).trans rfl; have hcz18_1 : w14.cell? ⟨gb211, 1, none⟩ = some (.int .i64 0) := (zQ BK211.out 1).trans rfl; have hcz18_2 : w14.cell? ⟨gb211, 2, none⟩ = some (.slice none 0 0) := (zQ BK211.out 2).trans rfl; have hfz18_0 := zR BK211.out 0; have hfz18_1 := zR BK211.out 1; have hfz18_2 := zR BK211.out 2; obtain ⟨Ao19, co19, eo19⟩ := yE HO210.out; subst eo19; have hcz20_0 : w14.cell? ⟨gb202, 0, none⟩ = some (.slice A0_0 l0_0.length c0_0) := (zQ BK202.out 0).trans rfl; have hcz20_1 : w14.cell? ⟨gb202, 1, none⟩ = some (.int .i64 a0_1) := (zQ BK202.out 1).trans rfl; have hcz20_2 : w14.cell? ⟨gb202, 2, none⟩ = some (.slice A0_2 l0_2.length c0_2) := (zQ BK202.out 2).trans rfl; have hfz20_0 := zR BK202.out 0; have hfz20_1 := zR BK202.out 1; have hfz20_2 := zR BK202.out 2) | ((with_reducible refine gate_callee (f := 12) rfl ?_); refine goesL_ (some 18) rfl rfl Try.func12 (by kernel_rfl) rfl #[.agg #[.slice A0_0 l0_0.length c0_0, .int .i64 a0_1, .slice A0_2 l0_2.length c0_2]] rfl zt ?_; (with_reducible refine (tollbarref17_All.calls k _ _ l0_0 a0_1 _ _ l0_2 t212 t215 _ ?side1 ?side2 ?side3 ?side4 A4.out).mono ?_); (case side1 => exact yD HR0_0.out (zl HB.out)); (case side2 => exact HC0_0.out); (case side3 => exact yD HR0_2.out (zl HB.out)); (case side4 => exact HC0_2.out); rintro e w21 ⟨v213, rfl, ho0, hb⟩; refine ⟨_, rfl, ?_⟩; have n0_ := zK (zO (by (with_reducible repeat (first | apply zA | apply zB | apply zC)); exact (Kd.R_mono (Kd.R_far (p := ⟨gb211, 2, none⟩) (Kd.R_far (p := ⟨gb211, 1, none⟩) (Kd.R_far (p := ⟨gb211, 0, none⟩) (Kd.R_types HO206.out BK211.out (by decide)) (fun _ hk => hk.2) (.slice Ao15 t204.length co15)) (fun _ hk => hk.2) (.int .i64 t207)) (fun _ hk => hk.2) (.slice Ao19 t208.length co19)) (fun _ h_ => h_.1))) hb); have n1_ := zK (zO (by (with_reducible repeat (first | apply zA | apply zB | apply zC)); exact (Kd.R_mono (Kd.R_far (p := ⟨gb211, 2, none⟩) (Kd.R_far (p := ⟨gb211, 1, none⟩) (Kd.R_far (p := ⟨gb211, 0, none⟩) (Kd.R_types HO210.out BK211.out (by decide)) (fun _ hk => hk.2) (.slice Ao15 t204.length co15)) (fun _ hk => hk.2) (.int .i64 t207)) (fun _ hk => hk.2) (.slice Ao19 t208.length co19)) (fun _ h_ => h_.1))) hb); have n2_ := zK (zV ho0 (yG (zl HB.out))); have n3_ := zK (zP (g := gb202) (o := .cells #[.slice A0_0 l0_0.length c0_0, .int .i64 a0_1, .slice A0_2 l0_2.length c0_2] 25 (0, 0)) (by (with_reducible repeat (first | refine zD ?_ _ | refine zE ?_ | refine zF ?_ _)); refine blk_far ?_ NB202_211.out _; (with_reducible repeat (first | refine zD ?_ _ | refine zE ?_ | refine zF ?_ _)); refine blk_far ?_ NB202_211.out _; (with_reducible repeat (first | refine zD ?_ _ | refine zE ?_ | refine zF ?_ _)); refine blk_far ?_ NB202_211.out _; (with_reducible repeat (first | refine zD ?_ _ | refine zE ?_ | refine zF ?_ _)); exact BK202.out) hb); have n4_ := zK (zP (g := gb203) (o := .cells #[.int .i64 a1_0, .int .i64 a1_1] 27 (0, 0)) (by (with_reducible repeat (first | refine zD ?_ _ | refine zE ?_ | refine zF ?_ _)); refine blk_far ?_ NB203_211.out _; (with_reducible repeat (first | refine zD ?_ _ | refine zE ?_ | refine zF ?_ _)); refine blk_far ?_ NB203_211.out _; (with_reducible repeat (first | refine zD ?_ _ | refine zE ?_ | refine zF ?_ _)); refine blk_far ?_ NB203_211.out _; (with_reducible repeat (first | refine zD ?_ _ | refine zE ?_ | refine zF ?_ _)); exact BK203.out) hb); have n5_ := zK (zP (g := gb211) (o := .cells #[.slice Ao15 t204.length co15, .int .i64 t207, .slice Ao19 t208.length co19] 25 (0, 0)) (by (with_reducible repeat (first | refine zD ?_ _ | refine zE ?_ | refine zF ?_ _)); refine blk_put (cs := #[.slice Ao15 t204.length co15, .int .i64 t207, .slice none 0 0]) ?_ 2 _ rfl; (with_reducible repeat (first | refine zD ?_ _ | refine zE ?_ | refine zF ?_ _)); refine blk_put (cs := #[.slice Ao15 t204.length co15, .int .i64 0, .slice none 0 0]) ?_ 1 _ rfl; (with_reducible repeat (first | refine zD ?_ _ | refine zE ?_ | refine zF ?_ _)); refine blk_put (cs := #[.slice none 0 0, .int .i64 0, .slice none 0 0]) ?_ 0 _ rfl; (with_reducible repeat (first | refine zD ?_ _ | refine zE ?_ | refine zF ?_ _)); exact BK211.out) hb); have n6_ := zK (yF (zl HB.out) hb); clear HO206; clear HO210; clear BK202; clear BK203; clear BK211; clear HB; have HO206 := n0_; have HO210 := n1_; have HO214 := n2_; have BK202 := n3_; have BK203 := n4_; have BK211 := n5_; have HB := n6_; clear n0_ n1_ n2_ n3_ n4_ n5_ n6_; (try clear hb); (try clear hb2); (try clear hk); (try clear hi); (try clear ho0); have hcz22_0 : w21.cell? ⟨gb211, 0, none⟩ = some (.slice Ao15 t204.length co15) := (zQ BK211.out 0).trans rfl; have hcz22_1 : w21.cell? ⟨gb211, 1, none⟩ = some (.int .i64 t207) := (zQ BK211.out 1).trans rfl; have hcz22_2 : w21.cell? ⟨gb211, 2, none⟩ = some (.slice Ao19 t208.length co19) := (zQ BK211.out 2).trans rfl; have hfz22_0 := zR BK211.out 0; have hfz22_1 := zR BK211.out 1; have hfz22_2 := zR BK211.out 2) | ((with_reducible refine gate_callee (f := 13) rfl ?_); refine goesL_ (some 23) rfl rfl Try.func13 (by kernel_rfl) rfl #[.agg #[.slice Ao15 t204.length co15, .int .i64 t207, .slice Ao19 t208.length co19]] rfl zt ?_; (with_reducible refine (tree_Items.calls _ _ t204 t207 _ _ t208 t216 t219 _ ?side1 ?side2 ?side3 ?side4 A5.out).mono ?_); (case side1 => exact zc (zX HO206.out).2.2); (case side2 => exact (zX HO206.out).2.1); (case side3 => exact zc (zX HO210.out).2.2); (case side4 => exact (zX HO210.out).2.1); rintro e w23 ⟨v217, rfl, ho0, hb⟩; refine ⟨_, rfl, ?_⟩; have n0_ := zK (zO (zr HO206.out) hb); have n1_ := zK (zO (zr HO210.out) hb); have n2_ := zK (yC (zr HO214.out) (Kd.R_base ho0) hb); have n3_ := zK (zV (zW ho0 (yB (zr HO214.out))) (yG (zl HB.out))); have n4_ := zK (zP (g := gb202) (o := .cells #[.slice A0_0 l0_0.length c0_0, .int .i64 a0_1, .slice A0_2 l0_2.length c0_2] 25 (0, 0)) (zb BK202.out) hb); have n5_ := zK (zP (g := gb203) (o := .cells #[.int .i64 a1_0, .int .i64 a1_1] 27 (0, 0)) (zb BK203.out) hb); have n6_ := zK (zP (g := gb211) (o := .cells #[.slice Ao15 t204.length co15, .int .i64 t207, .slice Ao19 t208.length co19] 25 (0, 0)) (zb BK211.out) hb); have n7_ := zK (yF (zl HB.out) hb); clear HO206; clear HO210; clear HO214; clear BK202; clear BK203; clear BK211; clear HB; have HO206 := n0_; have HO210 := n1_; have HO214 := n2_; have HO218 := n3_; have BK202 := n4_; have BK203 := n5_; have BK211 := n6_; have HB := n7_; clear n0_ n1_ n2_ n3_ n4_ n5_ n6_ n7_; (try clear hb); (try clear hb2); (try clear hk); (try clear hi); (try clear ho0); have hcz24_0 : w23.cell? ⟨gb211, 0, none⟩ = some (.slice Ao15 t204.length co15) := (zQ BK211.out 0).trans rfl; have hcz24_1 : w23.cell? ⟨gb211, 1, none⟩ = some (.int .i64 t207) := (zQ BK211.out 1).trans rfl; have hcz24_2 : w23.cell? ⟨gb211, 2, none⟩ = some (.slice Ao19 t208.length co19) := (zQ BK211.out 2).trans rfl; have hfz24_0 := zR BK211.out 0; have hfz24_1 := zR BK211.out 1; have hfz24_2 := zR BK211.out 2; have hcz25_0 : w23.cell? ⟨gb203, 0, none⟩ = some (.int .i64 a1_0) := (zQ BK203.out 0).trans rfl; have hcz25_1 : w23.cell? ⟨gb203, 1, none⟩ = some (.int .i64 a1_1) := (zQ BK203.out 1).trans rfl; have hfz25_0 := zR BK203.out 0; have hfz25_1 := zR BK203.out 1) | ((with_reducible refine gate_callee (f := 14) rfl ?_); refine goesL_ (some 29) rfl rfl Try.func14 (by kernel_rfl) rfl #[.agg #[.slice Ao15 t204.length co15, .int .i64 t207, .slice Ao19 t208.length co19], .agg #[.int .i64 a1_0, .int .i64 a1_1]] rfl zt ?_; (with_reducible refine (tree_Meets.calls _ _ t204 t207 _ _ t208 a1_0 a1_1 t220 t223 _ ?side1 ?side2 ?side3 ?side4 A6.out).mono ?_); (case side1 => exact zc (zX HO206.out).2.2); (case side2 => exact (zX HO206.out).2.1); (case side3 => exact zc (zX HO210.out).2.2); (case side4 => exact (zX HO210.out).2.1); rintro e w26 ⟨v221, rfl, ho0, hb⟩; refine ⟨_, rfl, ?_⟩; have n0_ := zK (zO (zr HO206.out) hb); have n1_ := zK (zO (zr HO210.out) hb); have n2_ := zK (yC (zr HO214.out) (Kd.R_base ho0) hb); have n3_ := zK (yC (zr HO218.out) (Kd.R_base ho0) hb); have n4_ := zK (zV (zW (zW ho0 (yB (zr HO214.out))) (yB (zr HO218.out))) (yG (zl HB.out))); have n5_ := zK (zP (g := gb202) (o := .cells #[.slice A0_0 l0_0.length c0_0, .int .i64 a0_1, .slice A0_2 l0_2.length c0_2] 25 (0, 0)) (zb BK202.out) hb); have n6_ := zK (zP (g := gb203) (o := .cells #[.int .i64 a1_0, .int .i64 a1_1] 27 (0, 0)) (zb BK203.out) hb); have n7_ := zK (zP (g := gb211) (o := .cells #[.slice Ao15 t204.length co15, .int .i64 t207, .slice Ao19 t208.length co19] 25 (0, 0)) (zb BK211.out) hb); have n8_ := zK (yF (zl HB.out) hb); clear HO206; clear HO210; clear HO214; clear HO218; clear BK202; clear BK203; clear BK211; clear HB; have HO206 := n0_; have HO210 := n1_; have HO214 := n2_; have HO218 := n3_; have HO222 := n4_; have BK202 := n5_; have BK203 := n6_; have BK211 := n7_; have HB := n8_; clear n0_ n1_ n2_ n3_ n4_ n5_ n6_ n7_ n8_; (try clear hb); (try clear hb2); (try clear hk); (try clear hi); (try clear ho0); have hcz27_0 : w26.cell? ⟨gb211, 0, none⟩ = some (.slice Ao15 t204.length co15) := (zQ BK211.out 0).trans rfl; have hcz27_1 : w26.cell? ⟨gb211, 1, none⟩ = some (.int .i64 t207) := (zQ BK211.out 1).trans rfl; have hcz27_2 : w26.cell? ⟨gb211, 2, none⟩ = some (.slice Ao19 t208.length co19) := (zQ BK211.out 2).trans rfl; have hfz27_0 := zR BK211.out 0; have hfz27_1 := zR BK211.out 1; have hfz27_2 := zR BK211.out 2; have hcz28_0 : w26.cell? ⟨gb203, 0, none⟩ = some (.int .i64 a1_0) := (zQ BK203.out 0).trans rfl; have hcz28_1 : w26.cell? ⟨gb203, 1, none⟩ = some (.int .i64 a1_1) := (zQ BK203.out 1).trans rfl; have hfz28_0 := zR BK203.out 0; have hfz28_1 := zR BK203.out 1) | ((with_reducible refine gate_callee (f := 15) rfl ?_); refine goesL_ (some 35) rfl rfl Try.func15 (by kernel_rfl) rfl #[.agg #[.slice Ao15 t204.length co15, .int .i64 t207, .slice Ao19 t208.length co19], .agg #[.int .i64 a1_0, .int .i64 a1_1]] rfl zt ?_; (with_reducible refine (tree_Points.calls _ _ t204 t207 _ _ t208 a1_0 a1_1 t224 t227 _ ?side1 ?side2 ?side3 ?side4 A7.out).mono ?_); (case side1 => exact zc (zX HO206.out).2.2); (case side2 => exact (zX HO206.out).2.1); (case side3 => exact zc (zX HO210.out).2.2); (case side4 => exact (zX HO210.out).2.1); rintro e w29 ⟨v225, rfl, ho0, hb⟩; refine ⟨_, rfl, ?_⟩; have n0_ := zK (zO (zr HO206.out) hb); have n1_ := zK (zO (zr HO210.out) hb); have n2_ := zK (zO (zr HO214.out) hb); have n3_ := zK (zO (zr HO218.out) hb); have n4_ := zK (zO (zr HO222.out) hb); have n5_ := zK (Kd.V_lower (Kd.V_mono (ok' := fun k_ => some k_ ≠ (.slice Ao15 t204.length co15 : Value).ownBlock ∧ some k_ ≠ (.slice Ao19 t208.length co19 : Value).ownBlock ∧ some k_ ≠ (v213 : Value).ownBlock ∧ some k_ ≠ (v217 : Value).ownBlock ∧ some k_ ≠ (v221 : Value).ownBlock ∧ k_ ≠ gb202 ∧ k_ ≠ gb203 ∧ k_ ≠ gb211) ho0 (fun k_ hk_ => ⟨(Kd.fresh' (yB (zr HO206.out)) k_ hk_), (Kd.fresh' (yB (zr HO210.out)) k_ hk_), (Kd.fresh' (yB (zr HO214.out)) k_ hk_), (Kd.fresh' (yB (zr HO218.out)) k_ hk_), (Kd.fresh' (yB (zr HO222.out)) k_ hk_), (Kd.freshB (g := gb202) (o := .cells #[.slice A0_0 l0_0.length c0_0, .int .i64 a0_1, .slice A0_2 l0_2.length c0_2] 25 (0, 0)) (zb BK202.out) k_ hk_), (Kd.freshB (g := gb203) (o := .cells #[.int .i64 a1_0, .int .i64 a1_1] 27 (0, 0)) (zb BK203.out) k_ hk_), (Kd.freshB (g := gb211) (o := .cells #[.slice Ao15 t204.length co15, .int .i64 t207, .slice Ao19 t208.length co19] 25 (0, 0)) (zb BK211.out) k_ hk_)⟩)) (yG (zl HB.out))); have n6_ := zK (zP (g := gb202) (o := .cells #[.slice A0_0 l0_0.length c0_0, .int .i64 a0_1, .slice A0_2 l0_2.length c0_2] 25 (0, 0)) (zb BK202.out) hb); have n7_ := zK (zP (g := gb203) (o := .cells #[.int .i64 a1_0, .int .i64 a1_1] 27 (0, 0)) (zb BK203.out) hb); have n8_ := zK (zP (g := gb211) (o := .cells #[.slice Ao15 t204.length co15, .int .i64 t207, .slice Ao19 t208.length co19] 25 (0, 0)) (zb BK211.out) hb); have n9_ := zK (yF (zl HB.out) hb); clear HO206; clear HO210; clear HO214; clear HO218; clear HO222; clear BK202; clear BK203; clear BK211; clear HB; have HO206 := n0_; have HO210 := n1_; have HO214 := n2_; have HO218 := n3_; have HO222 := n4_; have HO226 := n5_; have BK202 := n6_; have BK203 := n7_; have BK211 := n8_; have HB := n9_; clear n0_ n1_ n2_ n3_ n4_ n5_ n6_ n7_ n8_ n9_; (try clear hb); (try clear hb2); (try clear hk); (try clear hi); (try clear ho0)))
 (try simp only [Act.put, zY, zZ, yA])
 go_cut [47] (fun v47 wc => ∃ (kq : Nat) (x47_7 : Bool), v47 = .bool x47_7 ∧ Aside0 (tollbarlaw17_Trees.j0 kq t212 t215 t216 t219 t220 t223 t224 t227 x47_7 l0_0 a0_1 l0_2 a1_0 a1_1 t204 t207 t208 = some r) ∧ Aside0 (kq ≤ k) ∧ Aside0 (Kd.R k50 50 wc w.heap.size (fun k_ => some k_ ≠ (v217 : Value).ownBlock ∧ some k_ ≠ (v221 : Value).ownBlock) v213 t212) ∧ Aside0 (Kd.R k50 50 wc w.heap.size (fun k_ => some k_ ≠ (v213 : Value).ownBlock ∧ some k_ ≠ (v221 : Value).ownBlock) v217 t216) ∧ Aside0 (Kd.R k50 50 wc w.heap.size (fun k_ => some k_ ≠ (v213 : Value).ownBlock ∧ some k_ ≠ (v217 : Value).ownBlock) v221 t220) ∧ Aside0 (Kd.V (Kd.int .i64) 3 wc w.heap.size (fun k_ => some k_ ≠ (v213 : Value).ownBlock ∧ some k_ ≠ (v217 : Value).ownBlock ∧ some k_ ≠ (v221 : Value).ownBlock ∧ some k_ ≠ ((.slice Ao15 t204.length co15) : Value).ownBlock ∧ some k_ ≠ ((.slice Ao19 t208.length co19) : Value).ownBlock ∧ k_ ≠ gb202 ∧ k_ ≠ gb203 ∧ k_ ≠ gb211) v225 t224) ∧ Aside0 (Kd.R k64 64 wc w.heap.size (fun _ => True) (.slice Ao15 t204.length co15) t204) ∧ Aside0 (Kd.R (Kd.int .i64) 3 wc w.heap.size (fun _ => True) (.slice Ao19 t208.length co19) t208) ∧ Aside0 (wc.heap[gb202]? = some (.cells #[(.slice A0_0 l0_0.length c0_0), .int .i64 a0_1, (.slice A0_2 l0_2.length c0_2)] 25 (0, 0))) ∧ Aside0 (wc.heap[gb203]? = some (.cells #[.int .i64 a1_0, .int .i64 a1_1] 27 (0, 0))) ∧ Aside0 (wc.heap[gb211]? = some (.cells #[(.slice Ao15 t204.length co15), .int .i64 t207, (.slice Ao19 t208.length co19)] 25 (0, 0))) ∧ Aside0 (Below w.heap.size w wc))
 case first =>
  have H := HC8.out
  clear HC8
  replace H := yH.mp H
  obtain ⟨t228, A300, H⟩ := H
  replace H : (if (t228 != t215) = true then (tollbarlaw17_Trees.j0 k t212 t215 t216 t219 t220 t223 t224 t227 true l0_0 a0_1 l0_2 a1_0 a1_1 t204 t207 t208) else ((tollbarlaw0_SameTree.f k t204 t207 t208 l0_0 a0_1 l0_2).bind fun t229 => (tollbarlaw17_Trees.j0 k t212 t215 t216 t219 t220 t223 t224 t227 (!t229) l0_0 a0_1 l0_2 a1_0 a1_1 t204 t207 t208))) = some r := H
  have A30 := zK A300
  clear A300
  by_cases c31 : (t228 != t215) = true
  ·rw [if_pos c31] at H
   have c31b0 : (t228 != t215) = true := c31
   (try (have c31b1 : decide (t228 = t215) = false := by simpa using c31))
   (try (have c31b2 : (t228 == t215) = false := by simpa using c31))
   (try (have c31b3 : ¬ (t228 = t215) := by simpa using c31))
   clear c31
   (first | rw [c31b0] | (simp only [i64_w, i32_w]; rw [c31b0]) | skip)
   have H' := zK H
   clear H
   have hnb32 := NB211_202.out
   have hnc32 := NB202_211.out
   have hnb33 := NB211_203.out
   have hnc33 := NB203_211.out
   have hcz34_0 : w29.cell? ⟨gb211, 0, none⟩ = some (.slice Ao15 t204.length co15) := (zQ BK211.out 0).trans rfl
   have hcz34_1 : w29.cell? ⟨gb211, 1, none⟩ = some (.int .i64 t207) := (zQ BK211.out 1).trans rfl
   have hcz34_2 : w29.cell? ⟨gb211, 2, none⟩ = some (.slice Ao19 t208.length co19) := (zQ BK211.out 2).trans rfl
   have hfz34_0 := zR BK211.out 0
   have hfz34_1 := zR BK211.out 1
   have hfz34_2 := zR BK211.out 2
   go_wp2_with (first | ((with_reducible refine gate_callee (f := 16) rfl ?_); refine goesL_ (some 39) rfl rfl Try.func16 (by kernel_rfl) rfl #[.agg #[.slice Ao15 t204.length co15, .int .i64 t207, .slice Ao19 t208.length co19]] rfl zt ?_; (with_reducible refine (tree_May.calls _ _ t204 t207 _ _ t208 t228 _ ?side1 ?side2 ?side3 ?side4 A30.out).mono ?_); (case side1 => exact zc (zX HO206.out).2.2); (case side2 => exact (zX HO206.out).2.1); (case side3 => exact zc (zX HO210.out).2.2); (case side4 => exact (zX HO210.out).2.1); rintro e w35 ⟨rfl, hb⟩; refine ⟨_, rfl, ?_⟩; have n0_ := zK (zO (zr HO206.out) hb); have n1_ := zK (zO (zr HO210.out) hb); have n2_ := zK (zO (zr HO214.out) hb); have n3_ := zK (zO (zr HO218.out) hb); have n4_ := zK (zO (zr HO222.out) hb); have n5_ := zK (Kd.V_below (zv HO226.out) hb); have n6_ := zK (zP (g := gb202) (o := .cells #[.slice A0_0 l0_0.length c0_0, .int .i64 a0_1, .slice A0_2 l0_2.length c0_2] 25 (0, 0)) (zb BK202.out) hb); have n7_ := zK (zP (g := gb203) (o := .cells #[.int .i64 a1_0, .int .i64 a1_1] 27 (0, 0)) (zb BK203.out) hb); have n8_ := zK (zP (g := gb211) (o := .cells #[.slice Ao15 t204.length co15, .int .i64 t207, .slice Ao19 t208.length co19] 25 (0, 0)) (zb BK211.out) hb); have n9_ := zK (yF (zl HB.out) hb); clear HO206; clear HO210; clear HO214; clear HO218; clear HO222; clear HO226; clear BK202; clear BK203; clear BK211; clear HB; have HO206 := n0_; have HO210 := n1_; have HO214 := n2_; have HO218 := n3_; have HO222 := n4_; have HO226 := n5_; have BK202 := n6_; have BK203 := n7_; have BK211 := n8_; have HB := n9_; clear n0_ n1_ n2_ n3_ n4_ n5_ n6_ n7_ n8_ n9_; (try clear hb); (try clear hb2); (try clear hk); (try clear hi)))
   go_meet
   case rel => exact ⟨_, (true), zz, H', ⟨by first | omega | exact Nat.le_refl _⟩, ⟨by (with_reducible repeat (first | apply zA | apply zB | apply zC)); exact Kd.R_mono HO214.out (fun _ hk => ⟨hk.1.2, hk.2⟩)⟩, ⟨by (with_reducible repeat (first | apply zA | apply zB | apply zC)); exact Kd.R_mono HO218.out (fun _ hk => ⟨hk.1.2, hk.2⟩)⟩, ⟨by (with_reducible repeat (first | apply zA | apply zB | apply zC)); exact Kd.R_mono HO222.out (fun _ hk => ⟨hk.1.2, hk.2⟩)⟩, ⟨by (with_reducible repeat (first | apply Kd.V_alloc | apply Kd.V_drewN | apply Kd.V_drew)); exact Kd.V_mono HO226.out (fun _ hk => ⟨hk.2.2.1, ⟨hk.2.2.2.1, ⟨hk.2.2.2.2.1, ⟨hk.1, ⟨hk.2.1, ⟨hk.2.2.2.2.2.1, ⟨hk.2.2.2.2.2.2.1, hk.2.2.2.2.2.2.2⟩⟩⟩⟩⟩⟩⟩)⟩, ⟨by (with_reducible repeat (first | apply zA | apply zB | apply zC)); exact HO206.out⟩, ⟨by (with_reducible repeat (first | apply zA | apply zB | apply zC)); exact HO210.out⟩, ⟨by (with_reducible repeat (first | refine zD ?_ _ | refine zE ?_ | refine zF ?_ _)); exact BK202.out⟩, ⟨by (with_reducible repeat (first | refine zD ?_ _ | refine zE ?_ | refine zF ?_ _)); exact BK203.out⟩, ⟨by (with_reducible repeat (first | refine zD ?_ _ | refine zE ?_ | refine zF ?_ _)); exact BK211.out⟩, ⟨by repeat (first | (with_reducible first | exact HB.out | apply zG | apply zH | apply zI | refine zL ?_ GE202.out | refine zL ?_ GE203.out | refine zL ?_ GE211.out) | exact HB.out)⟩⟩
  ·rw [if_neg c31] at H
   have c31b0 : (t228 != t215) = false := by simpa using c31
   (try (have c31b1 : decide (t228 = t215) = true := by simpa using c31))
   (try (have c31b2 : (t228 == t215) = true := by simpa using c31))
   clear c31
   (first | rw [c31b0] | (simp only [i64_w, i32_w]; rw [c31b0]) | skip)
   replace H := yH.mp H
   obtain ⟨t229, A360, H⟩ := H
   replace H : (tollbarlaw17_Trees.j0 k t212 t215 t216 t219 t220 t223 t224 t227 (!t229) l0_0 a0_1 l0_2 a1_0 a1_1 t204 t207 t208) = some r := H
   have A36 := zK A360
   clear A360
   have H' := zK H
   clear H
   have hnb37 := NB211_202.out
   have hnc37 := NB202_211.out
   have hnb38 := NB211_203.out
   have hnc38 := NB203_211.out
   have hcz39_0 : w29.cell? ⟨gb211, 0, none⟩ = some (.slice Ao15 t204.length co15) := (zQ BK211.out 0).trans rfl
   have hcz39_1 : w29.cell? ⟨gb211, 1, none⟩ = some (.int .i64 t207) := (zQ BK211.out 1).trans rfl
   have hcz39_2 : w29.cell? ⟨gb211, 2, none⟩ = some (.slice Ao19 t208.length co19) := (zQ BK211.out 2).trans rfl
   have hfz39_0 := zR BK211.out 0
   have hfz39_1 := zR BK211.out 1
   have hfz39_2 := zR BK211.out 2
   go_wp2_with (first | ((with_reducible refine gate_callee (f := 16) rfl ?_); refine goesL_ (some 39) rfl rfl Try.func16 (by kernel_rfl) rfl #[.agg #[.slice Ao15 t204.length co15, .int .i64 t207, .slice Ao19 t208.length co19]] rfl zt ?_; (with_reducible refine (tree_May.calls _ _ t204 t207 _ _ t208 t228 _ ?side1 ?side2 ?side3 ?side4 A30.out).mono ?_); (case side1 => exact zc (zX HO206.out).2.2); (case side2 => exact (zX HO206.out).2.1); (case side3 => exact zc (zX HO210.out).2.2); (case side4 => exact (zX HO210.out).2.1); rintro e w40 ⟨rfl, hb⟩; refine ⟨_, rfl, ?_⟩; have n0_ := zK (zO (zr HO206.out) hb); have n1_ := zK (zO (zr HO210.out) hb); have n2_ := zK (zO (zr HO214.out) hb); have n3_ := zK (zO (zr HO218.out) hb); have n4_ := zK (zO (zr HO222.out) hb); have n5_ := zK (Kd.V_below (zv HO226.out) hb); have n6_ := zK (zP (g := gb202) (o := .cells #[.slice A0_0 l0_0.length c0_0, .int .i64 a0_1, .slice A0_2 l0_2.length c0_2] 25 (0, 0)) (zb BK202.out) hb); have n7_ := zK (zP (g := gb203) (o := .cells #[.int .i64 a1_0, .int .i64 a1_1] 27 (0, 0)) (zb BK203.out) hb); have n8_ := zK (zP (g := gb211) (o := .cells #[.slice Ao15 t204.length co15, .int .i64 t207, .slice Ao19 t208.length co19] 25 (0, 0)) (zb BK211.out) hb); have n9_ := zK (yF (zl HB.out) hb); clear HO206; clear HO210; clear HO214; clear HO218; clear HO222; clear HO226; clear BK202; clear BK203; clear BK211; clear HB; have HO206 := n0_; have HO210 := n1_; have HO214 := n2_; have HO218 := n3_; have HO222 := n4_; have HO226 := n5_; have BK202 := n6_; have BK203 := n7_; have BK211 := n8_; have HB := n9_; clear n0_ n1_ n2_ n3_ n4_ n5_ n6_ n7_ n8_ n9_; (try clear hb); (try clear hb2); (try clear hk); (try clear hi); have hcz41_0 : w40.cell? ⟨gb211, 0, none⟩ = some (.slice Ao15 t204.length co15) := (zQ BK211.out 0).trans rfl; have hcz41_1 : w40.cell? ⟨gb211, 1, none⟩ = some (.int .i64 t207) := (zQ BK211.out 1).trans rfl; have hcz41_2 : w40.cell? ⟨gb211, 2, none⟩ = some (.slice Ao19 t208.length co19) := (zQ BK211.out 2).trans rfl; have hfz41_0 := zR BK211.out 0; have hfz41_1 := zR BK211.out 1; have hfz41_2 := zR BK211.out 2; have hnb42 := NB202_203.out; have hnc42 := NB203_202.out; have hcz43_0 : w40.cell? ⟨gb202, 0, none⟩ = some (.slice A0_0 l0_0.length c0_0) := (zQ BK202.out 0).trans rfl; have hcz43_1 : w40.cell? ⟨gb202, 1, none⟩ = some (.int .i64 a0_1) := (zQ BK202.out 1).trans rfl; have hcz43_2 : w40.cell? ⟨gb202, 2, none⟩ = some (.slice A0_2 l0_2.length c0_2) := (zQ BK202.out 2).trans rfl; have hfz43_0 := zR BK202.out 0; have hfz43_1 := zR BK202.out 1; have hfz43_2 := zR BK202.out 2) | (go_at_call 17; (with_reducible refine (tollbarlaw0_SameTree.calls k _ _ t204 t207 _ _ t208 _ _ l0_0 a0_1 _ _ l0_2 t229 _ ?side1 ?side2 ?side3 ?side4 ?side5 ?side6 ?side7 ?side8 A36.out).mono ?_); (case side1 => exact zc (zX HO206.out).2.2); (case side2 => exact (zX HO206.out).2.1); (case side3 => exact zc (zX HO210.out).2.2); (case side4 => exact (zX HO210.out).2.1); (case side5 => repeat (first | exact (yD HR0_0.out HB.out) | (with_reducible refine zS ?_ _) | (with_reducible refine zT ?_ _) | (with_reducible refine zU ?_))); (case side6 => exact HC0_0.out); (case side7 => repeat (first | exact (yD HR0_2.out HB.out) | (with_reducible refine zS ?_ _) | (with_reducible refine zT ?_ _) | (with_reducible refine zU ?_))); (case side8 => exact HC0_2.out); rintro e w44 ⟨rfl, hb⟩; have n0_ := zK (zO (zr HO206.out) hb); have n1_ := zK (zO (zr HO210.out) hb); have n2_ := zK (zO (zr HO214.out) hb); have n3_ := zK (zO (zr HO218.out) hb); have n4_ := zK (zO (zr HO222.out) hb); have n5_ := zK (Kd.V_below (zv HO226.out) hb); have n6_ := zK (zP (g := gb202) (o := .cells #[.slice A0_0 l0_0.length c0_0, .int .i64 a0_1, .slice A0_2 l0_2.length c0_2] 25 (0, 0)) (zb BK202.out) hb); have n7_ := zK (zP (g := gb203) (o := .cells #[.int .i64 a1_0, .int .i64 a1_1] 27 (0, 0)) (zb BK203.out) hb); have n8_ := zK (zP (g := gb211) (o := .cells #[.slice Ao15 t204.length co15, .int .i64 t207, .slice Ao19 t208.length co19] 25 (0, 0)) (zb BK211.out) hb); have n9_ := zK (yF (zl HB.out) hb); clear HO206; clear HO210; clear HO214; clear HO218; clear HO222; clear HO226; clear BK202; clear BK203; clear BK211; clear HB; have HO206 := n0_; have HO210 := n1_; have HO214 := n2_; have HO218 := n3_; have HO222 := n4_; have HO226 := n5_; have BK202 := n6_; have BK203 := n7_; have BK211 := n8_; have HB := n9_; clear n0_ n1_ n2_ n3_ n4_ n5_ n6_ n7_ n8_ n9_; (try clear hb); (try clear hb2); (try clear hk); (try clear hi)))
   go_meet
   case rel => exact ⟨_, (!t229), zz, H', ⟨by first | omega | exact Nat.le_refl _⟩, ⟨by (with_reducible repeat (first | apply zA | apply zB | apply zC)); exact Kd.R_mono HO214.out (fun _ hk => ⟨hk.1.2, hk.2⟩)⟩, ⟨by (with_reducible repeat (first | apply zA | apply zB | apply zC)); exact Kd.R_mono HO218.out (fun _ hk => ⟨hk.1.2, hk.2⟩)⟩, ⟨by (with_reducible repeat (first | apply zA | apply zB | apply zC)); exact Kd.R_mono HO222.out (fun _ hk => ⟨hk.1.2, hk.2⟩)⟩, ⟨by (with_reducible repeat (first | apply Kd.V_alloc | apply Kd.V_drewN | apply Kd.V_drew)); exact Kd.V_mono HO226.out (fun _ hk => ⟨hk.2.2.1, ⟨hk.2.2.2.1, ⟨hk.2.2.2.2.1, ⟨hk.1, ⟨hk.2.1, ⟨hk.2.2.2.2.2.1, ⟨hk.2.2.2.2.2.2.1, hk.2.2.2.2.2.2.2⟩⟩⟩⟩⟩⟩⟩)⟩, ⟨by (with_reducible repeat (first | apply zA | apply zB | apply zC)); exact HO206.out⟩, ⟨by (with_reducible repeat (first | apply zA | apply zB | apply zC)); exact HO210.out⟩, ⟨by (with_reducible repeat (first | refine zD ?_ _ | refine zE ?_ | refine zF ?_ _)); exact BK202.out⟩, ⟨by (with_reducible repeat (first | refine zD ?_ _ | refine zE ?_ | refine zF ?_ _)); exact BK203.out⟩, ⟨by (with_reducible repeat (first | refine zD ?_ _ | refine zE ?_ | refine zF ?_ _)); exact BK211.out⟩, ⟨by repeat (first | (with_reducible first | exact HB.out | apply zG | apply zH | apply zI | refine zL ?_ GE202.out | refine zL ?_ GE203.out | refine zL ?_ GE211.out) | exact HB.out)⟩⟩
 case rest =>
  clear HC8
  try clear c1
  try clear p2
  try clear c3
  try clear c4
  try clear c11
  try clear c12
  try clear c13
  try clear c14
  try clear c15
  try clear c16
  try clear c17
  try clear c31
  try clear c31b0
  try clear c31b1
  try clear c31b2
  try clear c32
  try clear c33
  try clear c37
  try clear c38
  try clear c42
  try clear hcz12_0
  try clear hcz12_1
  try clear hcz12_2
  try clear hcz18_0
  try clear hcz18_1
  try clear hcz18_2
  try clear hcz20_0
  try clear hcz20_1
  try clear hcz20_2
  try clear hcz22_0
  try clear hcz22_1
  try clear hcz22_2
  try clear hcz24_0
  try clear hcz24_1
  try clear hcz24_2
  try clear hcz25_0
  try clear hcz25_1
  try clear hcz27_0
  try clear hcz27_1
  try clear hcz27_2
  try clear hcz28_0
  try clear hcz28_1
  try clear hcz34_0
  try clear hcz34_1
  try clear hcz34_2
  try clear hcz39_0
  try clear hcz39_1
  try clear hcz39_2
  try clear hcz41_0
  try clear hcz41_1
  try clear hcz41_2
  try clear hcz43_0
  try clear hcz43_1
  try clear hcz43_2
  try clear hfz12_0
  try clear hfz12_1
  try clear hfz12_2
  try clear hfz18_0
  try clear hfz18_1
  try clear hfz18_2
  try clear hfz20_0
  try clear hfz20_1
  try clear hfz20_2
  try clear hfz22_0
  try clear hfz22_1
  try clear hfz22_2
  try clear hfz24_0
  try clear hfz24_1
  try clear hfz24_2
  try clear hfz25_0
  try clear hfz25_1
  try clear hfz27_0
  try clear hfz27_1
  try clear hfz27_2
  try clear hfz28_0
  try clear hfz28_1
  try clear hfz34_0
  try clear hfz34_1
  try clear hfz34_2
  try clear hfz39_0
  try clear hfz39_1
  try clear hfz39_2
  try clear hfz41_0
  try clear hfz41_1
  try clear hfz41_2
  try clear hfz43_0
  try clear hfz43_1
  try clear hfz43_2
  obtain ⟨kq, x47_7, rfl, HA, HJ7, HO_6, HO_8, HO_10, HO_12, HO_qf, HO_qh, BK202, BK203, BK211, HB⟩ := hcut
  cases kq with
  | zero => exact absurd HA.out (by simp [tollbarlaw17_Trees.j0])
  | succ kj7 =>
   have H := HA.out
   clear HA
   simp only [tollbarlaw17_Trees.j0] at H
   by_cases c45 : x47_7 = true
   ·subst c45
    have H1 : (some false) = some r := by rw [if_pos rfl] at H; exact H
    clear H
    have H := H1
    clear H1
    obtain rfl := Option.some.inj H
    go_wp2
    go_ret
    exact ⟨ze, zl HB.out⟩
   ·replace c45 := Bool.eq_false_iff.mpr c45
    subst c45
    have H1 : (if t215 = true then ((tollbarlaw0_Num.f t219).bind fun t234 => (if t234 = 0 then ((tollbarlaw0_SameItems.f kj7 t216 t212).bind fun t235 => (tollbarlaw17_Trees.j1 kj7 t212 t216 t220 t223 t224 t227 (!t235) l0_0 a0_1 l0_2 a1_0 a1_1 t204 t207 t208)) else (tollbarlaw17_Trees.j1 kj7 t212 t216 t220 t223 t224 t227 true l0_0 a0_1 l0_2 a1_0 a1_1 t204 t207 t208))) else ((tollbarlaw17_awake.f).bind fun t230 => (if t230 = true then ((tollbarlaw0_Num.f t219).bind fun t231 => (if t231 = 1700 then ((tollbarlaw0_Num.f t223).bind fun t232 => (if t232 = 1700 then ((tollbarlaw0_Num.f t227).bind fun t233 => (if t233 = 1700 then (if (t216.length : Int) = 0 then (if (t220.length : Int) = 0 then (some ((t224.length : Int) == 0)) else (some false)) else (some false)) else (some false))) else (some false))) else (some false))) else (some false)))) = some r := by rw [if_neg (show ¬ (false = true) by decide)] at H; exact H
    clear H
    have H := H1
    clear H1
    by_cases c46 : t215 = true
    ·subst c46
     have H1 : ((tollbarlaw0_Num.f t219).bind fun t234 => (if t234 = 0 then ((tollbarlaw0_SameItems.f kj7 t216 t212).bind fun t235 => (tollbarlaw17_Trees.j1 kj7 t212 t216 t220 t223 t224 t227 (!t235) l0_0 a0_1 l0_2 a1_0 a1_1 t204 t207 t208)) else (tollbarlaw17_Trees.j1 kj7 t212 t216 t220 t223 t224 t227 true l0_0 a0_1 l0_2 a1_0 a1_1 t204 t207 t208))) = some r := by rw [if_pos rfl] at H; exact H
     clear H
     have H := H1
     clear H1
     have HC47 := zK H
     clear H
     go_upto_region 10 with (fail)
     go_cut [89] (fun v89 wc => ∃ (kq : Nat) (x89_46 : Bool), v89 = .bool x89_46 ∧ Aside0 (tollbarlaw17_Trees.j1 kq t212 t216 t220 t223 t224 t227 x89_46 l0_0 a0_1 l0_2 a1_0 a1_1 t204 t207 t208 = some r) ∧ Aside0 (kq ≤ kj7) ∧ Aside0 (Kd.R k50 50 wc w.heap.size (fun k_ => some k_ ≠ (v217 : Value).ownBlock ∧ some k_ ≠ (v221 : Value).ownBlock) v213 t212) ∧ Aside0 (Kd.R k50 50 wc w.heap.size (fun k_ => some k_ ≠ (v213 : Value).ownBlock ∧ some k_ ≠ (v221 : Value).ownBlock) v217 t216) ∧ Aside0 (Kd.R k50 50 wc w.heap.size (fun k_ => some k_ ≠ (v213 : Value).ownBlock ∧ some k_ ≠ (v217 : Value).ownBlock) v221 t220) ∧ Aside0 (Kd.V (Kd.int .i64) 3 wc w.heap.size (fun k_ => some k_ ≠ (v213 : Value).ownBlock ∧ some k_ ≠ (v217 : Value).ownBlock ∧ some k_ ≠ (v221 : Value).ownBlock ∧ some k_ ≠ ((.slice Ao15 t204.length co15) : Value).ownBlock ∧ some k_ ≠ ((.slice Ao19 t208.length co19) : Value).ownBlock ∧ k_ ≠ gb202 ∧ k_ ≠ gb203 ∧ k_ ≠ gb211) v225 t224) ∧ Aside0 (Kd.R k64 64 wc w.heap.size (fun _ => True) (.slice Ao15 t204.length co15) t204) ∧ Aside0 (Kd.R (Kd.int .i64) 3 wc w.heap.size (fun _ => True) (.slice Ao19 t208.length co19) t208) ∧ Aside0 (wc.heap[gb202]? = some (.cells #[(.slice A0_0 l0_0.length c0_0), .int .i64 a0_1, (.slice A0_2 l0_2.length c0_2)] 25 (0, 0))) ∧ Aside0 (wc.heap[gb203]? = some (.cells #[.int .i64 a1_0, .int .i64 a1_1] 27 (0, 0))) ∧ Aside0 (wc.heap[gb211]? = some (.cells #[(.slice Ao15 t204.length co15), .int .i64 t207, (.slice Ao19 t208.length co19)] 25 (0, 0))) ∧ Aside0 (Below w.heap.size w wc))
     case first =>
      have H := HC47.out
      clear HC47
      replace H := yH.mp H
      obtain ⟨t234, A480, H⟩ := H
      replace H : (if t234 = 0 then ((tollbarlaw0_SameItems.f kj7 t216 t212).bind fun t235 => (tollbarlaw17_Trees.j1 kj7 t212 t216 t220 t223 t224 t227 (!t235) l0_0 a0_1 l0_2 a1_0 a1_1 t204 t207 t208)) else (tollbarlaw17_Trees.j1 kj7 t212 t216 t220 t223 t224 t227 true l0_0 a0_1 l0_2 a1_0 a1_1 t204 t207 t208)) = some r := H
      have A48 := zK A480
      clear A480
      by_cases c49 : t234 = 0
      ·rw [if_pos c49] at H
       have c49b0 : (t234 == 0) = true := yI.mpr c49
       have c49b1 : (t234 != 0) = false := yJ.mpr c49
       clear c49
       (first | rw [c49b0] | (simp only [i64_w, i32_w]; rw [c49b0]) | skip)
       replace H := yH.mp H
       obtain ⟨t235, A500, H⟩ := H
       replace H : (tollbarlaw17_Trees.j1 kj7 t212 t216 t220 t223 t224 t227 (!t235) l0_0 a0_1 l0_2 a1_0 a1_1 t204 t207 t208) = some r := H
       have A50 := zK A500
       clear A500
       have H' := zK H
       clear H
       go_wp2_with (first | ((with_reducible refine gate_callee (f := 19) rfl ?_); refine goesL_ (some 82) rfl rfl Try.func19 (by kernel_rfl) rfl #[.int .i64 t219] rfl zt ?_; (with_reducible refine (tollbarlaw0_Num.calls t219 t234 _ A48.out).mono ?_); rintro e w' ⟨rfl, ⟨nd, rfl⟩⟩; refine ⟨_, rfl, ?_⟩; obtain ⟨Ao51, co51, eo51⟩ := yE HO_8.out; subst eo51; obtain ⟨Ao52, co52, eo52⟩ := yE HO_6.out; subst eo52) | (go_at_call 20; (with_reducible refine (tollbarlaw0_SameItems.calls kj7 _ _ t216 _ _ t212 t235 _ ?side1 ?side2 ?side3 ?side4 A50.out).mono ?_); (case side1 => exact zc (zX HO_8.out).2.2); (case side2 => exact (zX HO_8.out).2.1); (case side3 => exact zc (zX HO_6.out).2.2); (case side4 => exact (zX HO_6.out).2.1); rintro e w' ⟨rfl, ⟨nd, rfl⟩⟩))
       go_meet
       case rel => exact ⟨_, (!t235), zz, H', ⟨by have := HJ7.out; first | omega | exact Nat.le_refl _⟩, ⟨by (with_reducible repeat (first | apply zA | apply zB | apply zC)); exact HO_6.out⟩, ⟨by (with_reducible repeat (first | apply zA | apply zB | apply zC)); exact HO_8.out⟩, ⟨by (with_reducible repeat (first | apply zA | apply zB | apply zC)); exact HO_10.out⟩, ⟨by (with_reducible repeat (first | apply Kd.V_alloc | apply Kd.V_drewN | apply Kd.V_drew)); exact HO_12.out⟩, ⟨by (with_reducible repeat (first | apply zA | apply zB | apply zC)); exact HO_qf.out⟩, ⟨by (with_reducible repeat (first | apply zA | apply zB | apply zC)); exact HO_qh.out⟩, ⟨by (with_reducible repeat (first | refine zD ?_ _ | refine zE ?_ | refine zF ?_ _)); exact BK202.out⟩, ⟨by (with_reducible repeat (first | refine zD ?_ _ | refine zE ?_ | refine zF ?_ _)); exact BK203.out⟩, ⟨by (with_reducible repeat (first | refine zD ?_ _ | refine zE ?_ | refine zF ?_ _)); exact BK211.out⟩, ⟨by repeat (first | (with_reducible first | exact HB.out | apply zG | apply zH | apply zI | refine zL ?_ GE202.out | refine zL ?_ GE203.out | refine zL ?_ GE211.out) | exact HB.out)⟩⟩
      ·rw [if_neg c49] at H
       have c49b0 : (t234 == 0) = false := yK.mpr c49
       have c49b1 : (t234 != 0) = true := yL.mpr c49
       (first | rw [c49b0] | (simp only [i64_w, i32_w]; rw [c49b0]) | skip)
       have H' := zK H
       clear H
       go_wp2_with (first | ((with_reducible refine gate_callee (f := 19) rfl ?_); refine goesL_ (some 82) rfl rfl Try.func19 (by kernel_rfl) rfl #[.int .i64 t219] rfl zt ?_; (with_reducible refine (tollbarlaw0_Num.calls t219 t234 _ A48.out).mono ?_); rintro e w' ⟨rfl, ⟨nd, rfl⟩⟩; refine ⟨_, rfl, ?_⟩))
       go_meet
       case rel => exact ⟨_, (true), zz, H', ⟨by have := HJ7.out; first | omega | exact Nat.le_refl _⟩, ⟨by (with_reducible repeat (first | apply zA | apply zB | apply zC)); exact HO_6.out⟩, ⟨by (with_reducible repeat (first | apply zA | apply zB | apply zC)); exact HO_8.out⟩, ⟨by (with_reducible repeat (first | apply zA | apply zB | apply zC)); exact HO_10.out⟩, ⟨by (with_reducible repeat (first | apply Kd.V_alloc | apply Kd.V_drewN | apply Kd.V_drew)); exact HO_12.out⟩, ⟨by (with_reducible repeat (first | apply zA | apply zB | apply zC)); exact HO_qf.out⟩, ⟨by (with_reducible repeat (first | apply zA | apply zB | apply zC)); exact HO_qh.out⟩, ⟨by (with_reducible repeat (first | refine zD ?_ _ | refine zE ?_ | refine zF ?_ _)); exact BK202.out⟩, ⟨by (with_reducible repeat (first | refine zD ?_ _ | refine zE ?_ | refine zF ?_ _)); exact BK203.out⟩, ⟨by (with_reducible repeat (first | refine zD ?_ _ | refine zE ?_ | refine zF ?_ _)); exact BK211.out⟩, ⟨by repeat (first | (with_reducible first | exact HB.out | apply zG | apply zH | apply zI | refine zL ?_ GE202.out | refine zL ?_ GE203.out | refine zL ?_ GE211.out) | exact HB.out)⟩⟩
     case rest =>
      clear HC47
      try clear c1
      try clear p2
      try clear c3
      try clear c4
      try clear c11
      try clear c12
      try clear c13
      try clear c14
      try clear c15
      try clear c16
      try clear c17
      try clear c19
      try clear c31
      try clear c31b0
      try clear c31b1
      try clear c31b2
      try clear c32
      try clear c33
      try clear c37
      try clear c38
      try clear c42
      try clear c45
      try clear c46
      try clear c49
      try clear c49b0
      try clear c49b1
      try clear hcz12_0
      try clear hcz12_1
      try clear hcz12_2
      try clear hcz18_0
      try clear hcz18_1
      try clear hcz18_2
      try clear hcz20_0
      try clear hcz20_1
      try clear hcz20_2
      try clear hcz22_0
      try clear hcz22_1
      try clear hcz22_2
      try clear hcz24_0
      try clear hcz24_1
      try clear hcz24_2
      try clear hcz25_0
      try clear hcz25_1
      try clear hcz27_0
      try clear hcz27_1
      try clear hcz27_2
      try clear hcz28_0
      try clear hcz28_1
      try clear hcz34_0
      try clear hcz34_1
      try clear hcz34_2
      try clear hcz39_0
      try clear hcz39_1
      try clear hcz39_2
      try clear hcz41_0
      try clear hcz41_1
      try clear hcz41_2
      try clear hcz43_0
      try clear hcz43_1
      try clear hcz43_2
      try clear hfz12_0
      try clear hfz12_1
      try clear hfz12_2
      try clear hfz18_0
      try clear hfz18_1
      try clear hfz18_2
      try clear hfz20_0
      try clear hfz20_1
      try clear hfz20_2
      try clear hfz22_0
      try clear hfz22_1
      try clear hfz22_2
      try clear hfz24_0
      try clear hfz24_1
      try clear hfz24_2
      try clear hfz25_0
      try clear hfz25_1
      try clear hfz27_0
      try clear hfz27_1
      try clear hfz27_2
      try clear hfz28_0
      try clear hfz28_1
      try clear hfz34_0
      try clear hfz34_1
      try clear hfz34_2
      try clear hfz39_0
      try clear hfz39_1
      try clear hfz39_2
      try clear hfz41_0
      try clear hfz41_1
      try clear hfz41_2
      try clear hfz43_0
      try clear hfz43_1
      try clear hfz43_2
      try clear p2
      obtain ⟨kq, x89_46, rfl, HA, HJ46, HO_6, HO_8, HO_10, HO_12, HO_qf, HO_qh, BK202, BK203, BK211, HB⟩ := hcut
      cases kq with
      | zero => exact absurd HA.out (by simp [tollbarlaw17_Trees.j1])
      | succ kj46 =>
       have H := HA.out
       clear HA
       simp only [tollbarlaw17_Trees.j1] at H
       by_cases c53 : x89_46 = true
       ·subst c53
        have H1 : (some false) = some r := by rw [if_pos rfl] at H; exact H
        clear H
        have H := H1
        clear H1
        obtain rfl := Option.some.inj H
        go_wp2
        go_ret
        exact ⟨ze, zl HB.out⟩
       ·replace c53 := Bool.eq_false_iff.mpr c53
        subst c53
        have H1 : ((tollbarlaw0_SpoilItems.f kj46 t216).bind fun t236 => ((tollbarref1_SpanMay.f a1_0 a1_1).bind fun t237 => (if t237 = true then ((tollbarlaw0_Num.f t223).bind fun t242 => (if t242 = 0 then ((tollbarlaw0_Num.f t227).bind fun t243 => (if t243 = 0 then ((tollbarref17_Meets.f kj46 t212 a1_0 a1_1).bind fun t244 => ((tollbarlaw0_SameItems.f kj46 t220 t244).bind fun t247 => (if t247 = true then ((tollbarref17_Points.f kj46 t212 a1_0 a1_1).bind fun t248 => ((tollbarlaw0_SameInts.f kj46 t224 t248).bind fun t251 => (tollbarlaw17_Trees.j2 kj46 t220 (!t251) l0_0 a0_1 l0_2 t204 t207 t208))) else (tollbarlaw17_Trees.j2 kj46 t220 true l0_0 a0_1 l0_2 t204 t207 t208)))) else (tollbarlaw17_Trees.j2 kj46 t220 true l0_0 a0_1 l0_2 t204 t207 t208))) else (tollbarlaw17_Trees.j2 kj46 t220 true l0_0 a0_1 l0_2 t204 t207 t208))) else ((tollbarlaw17_awake.f).bind fun t238 => (if t238 = true then ((tollbarlaw0_Num.f t223).bind fun t239 => (if t239 = 1700 then ((tollbarlaw0_Num.f t227).bind fun t240 => (if t240 = 1700 then (if (t220.length : Int) = 0 then (if (t224.length : Int) = 0 then ((tollbarlaw0_SameTree.f kj46 t204 t207 t208 l0_0 a0_1 l0_2).bind fun t241 => (some t241)) else (some false)) else (some false)) else (some false))) else (some false))) else (some false)))))) = some r := by rw [if_neg (show ¬ (false = true) by decide)] at H; exact H
        clear H
        have H := H1
        clear H1
        replace H := yH.mp H
        obtain ⟨t236, A540, H⟩ := H
        replace H : ((tollbarref1_SpanMay.f a1_0 a1_1).bind fun t237 => (if t237 = true then ((tollbarlaw0_Num.f t223).bind fun t242 => (if t242 = 0 then ((tollbarlaw0_Num.f t227).bind fun t243 => (if t243 = 0 then ((tollbarref17_Meets.f kj46 t212 a1_0 a1_1).bind fun t244 => ((tollbarlaw0_SameItems.f kj46 t220 t244).bind fun t247 => (if t247 = true then ((tollbarref17_Points.f kj46 t212 a1_0 a1_1).bind fun t248 => ((tollbarlaw0_SameInts.f kj46 t224 t248).bind fun t251 => (tollbarlaw17_Trees.j2 kj46 t220 (!t251) l0_0 a0_1 l0_2 t204 t207 t208))) else (tollbarlaw17_Trees.j2 kj46 t220 true l0_0 a0_1 l0_2 t204 t207 t208)))) else (tollbarlaw17_Trees.j2 kj46 t220 true l0_0 a0_1 l0_2 t204 t207 t208))) else (tollbarlaw17_Trees.j2 kj46 t220 true l0_0 a0_1 l0_2 t204 t207 t208))) else ((tollbarlaw17_awake.f).bind fun t238 => (if t238 = true then ((tollbarlaw0_Num.f t223).bind fun t239 => (if t239 = 1700 then ((tollbarlaw0_Num.f t227).bind fun t240 => (if t240 = 1700 then (if (t220.length : Int) = 0 then (if (t224.length : Int) = 0 then ((tollbarlaw0_SameTree.f kj46 t204 t207 t208 l0_0 a0_1 l0_2).bind fun t241 => (some t241)) else (some false)) else (some false)) else (some false))) else (some false))) else (some false))))) = some r := H
        have A54 := zK A540
        clear A540
        replace H := yH.mp H
        obtain ⟨t237, A550, H⟩ := H
        replace H : (if t237 = true then ((tollbarlaw0_Num.f t223).bind fun t242 => (if t242 = 0 then ((tollbarlaw0_Num.f t227).bind fun t243 => (if t243 = 0 then ((tollbarref17_Meets.f kj46 t212 a1_0 a1_1).bind fun t244 => ((tollbarlaw0_SameItems.f kj46 t220 t244).bind fun t247 => (if t247 = true then ((tollbarref17_Points.f kj46 t212 a1_0 a1_1).bind fun t248 => ((tollbarlaw0_SameInts.f kj46 t224 t248).bind fun t251 => (tollbarlaw17_Trees.j2 kj46 t220 (!t251) l0_0 a0_1 l0_2 t204 t207 t208))) else (tollbarlaw17_Trees.j2 kj46 t220 true l0_0 a0_1 l0_2 t204 t207 t208)))) else (tollbarlaw17_Trees.j2 kj46 t220 true l0_0 a0_1 l0_2 t204 t207 t208))) else (tollbarlaw17_Trees.j2 kj46 t220 true l0_0 a0_1 l0_2 t204 t207 t208))) else ((tollbarlaw17_awake.f).bind fun t238 => (if t238 = true then ((tollbarlaw0_Num.f t223).bind fun t239 => (if t239 = 1700 then ((tollbarlaw0_Num.f t227).bind fun t240 => (if t240 = 1700 then (if (t220.length : Int) = 0 then (if (t224.length : Int) = 0 then ((tollbarlaw0_SameTree.f kj46 t204 t207 t208 l0_0 a0_1 l0_2).bind fun t241 => (some t241)) else (some false)) else (some false)) else (some false))) else (some false))) else (some false)))) = some r := H
        have A55 := zK A550
        clear A550
        by_cases c56 : t237 = true
        ·subst c56
         have H1 : ((tollbarlaw0_Num.f t223).bind fun t242 => (if t242 = 0 then ((tollbarlaw0_Num.f t227).bind fun t243 => (if t243 = 0 then ((tollbarref17_Meets.f kj46 t212 a1_0 a1_1).bind fun t244 => ((tollbarlaw0_SameItems.f kj46 t220 t244).bind fun t247 => (if t247 = true then ((tollbarref17_Points.f kj46 t212 a1_0 a1_1).bind fun t248 => ((tollbarlaw0_SameInts.f kj46 t224 t248).bind fun t251 => (tollbarlaw17_Trees.j2 kj46 t220 (!t251) l0_0 a0_1 l0_2 t204 t207 t208))) else (tollbarlaw17_Trees.j2 kj46 t220 true l0_0 a0_1 l0_2 t204 t207 t208)))) else (tollbarlaw17_Trees.j2 kj46 t220 true l0_0 a0_1 l0_2 t204 t207 t208))) else (tollbarlaw17_Trees.j2 kj46 t220 true l0_0 a0_1 l0_2 t204 t207 t208))) = some r := by rw [if_pos rfl] at H; exact H
         clear H
         have H := H1
         clear H1
         have HC57 := zK H
         clear H
         obtain ⟨Ao58, co58, eo58⟩ := yE HO_8.out
         subst eo58
         go_upto_region 15 with (first | ((with_reducible refine gate_callee (f := 21) rfl ?_); refine goesL_ (some 91) rfl rfl Try.func21 (by kernel_rfl) rfl #[.slice Ao58 t216.length co58] rfl zt ?_; (with_reducible refine (tollbarlaw0_SpoilItems.calls kj46 (fun k_ => some k_ = (.slice Ao58 t216.length co58 : Value).ownBlock) (.slice Ao58 t216.length co58) t216 t236 w _ ?side1 ?side2 A54.out).mono ?_); (case side1 => repeat (first | (with_reducible first | exact HB.out | apply zG | apply zH | apply zI | refine zL ?_ GE202.out | refine zL ?_ GE203.out | refine zL ?_ GE211.out) | exact HB.out)); (case side2 => exact Kd.R_tight rfl HO_8.out); rintro e w59 ⟨rfl, hy0, hb, hkp⟩; refine ⟨_, rfl, ?_⟩; have n0_ := zK (Kd.R_mono (ok' := fun k_ => some k_ ≠ (.slice Ao58 t216.length co58 : Value).ownBlock ∧ some k_ ≠ (v221 : Value).ownBlock) (Kd.R_keptB (HO_6.out) hkp (fun k_ hk_ hs_ => (hk_.1) hs_)) (fun k_ hk_ => ⟨hk_.1.1, hk_.1.2⟩)); have n1_ := zK (Kd.R_reok rfl hy0 (fun k_ e_ => HO_8.out.1 k_ e_)); have n2_ := zK (Kd.R_mono (ok' := fun k_ => some k_ ≠ (v213 : Value).ownBlock ∧ some k_ ≠ (.slice Ao58 t216.length co58 : Value).ownBlock) (Kd.R_keptB (HO_10.out) hkp (fun k_ hk_ hs_ => (hk_.2) hs_)) (fun k_ hk_ => ⟨hk_.1.1, hk_.1.2⟩)); have n3_ := zK (Kd.V_mono (ok' := fun k_ => some k_ ≠ (v213 : Value).ownBlock ∧ some k_ ≠ (.slice Ao58 t216.length co58 : Value).ownBlock ∧ some k_ ≠ (v221 : Value).ownBlock ∧ some k_ ≠ (.slice Ao15 t204.length co15 : Value).ownBlock ∧ some k_ ≠ (.slice Ao19 t208.length co19 : Value).ownBlock ∧ k_ ≠ gb202 ∧ k_ ≠ gb203 ∧ k_ ≠ gb211) (Kd.V_keptB (HO_12.out) hkp (fun k_ hk_ hs_ => (hk_.2.1) hs_)) (fun k_ hk_ => ⟨hk_.1.1, hk_.1.2.1, hk_.1.2.2.1, hk_.1.2.2.2.1, hk_.1.2.2.2.2.1, hk_.1.2.2.2.2.2.1, hk_.1.2.2.2.2.2.2.1, hk_.1.2.2.2.2.2.2.2⟩)); have n4_ := zK (Kd.R_mono (ok' := fun k_ => True) (Kd.R_keptB ((Kd.R_apart' HO_qf.out (Kd.R_typed HO_8.out) (by decide))) hkp (fun k_ hk_ hs_ => (hk_.2) hs_)) (fun k_ hk_ => trivial)); have n5_ := zK (Kd.R_mono (ok' := fun k_ => True) (Kd.R_keptB ((Kd.R_apart' HO_qh.out (Kd.R_typed HO_8.out) (by decide))) hkp (fun k_ hk_ hs_ => (hk_.2) hs_)) (fun k_ hk_ => trivial)); have n6_ := zK (blk_kept (zb BK202.out) hkp (fun hs_ => (fun e_ => (Kd.R_ne HO_8.out BK202.out (by decide)) e_) hs_)); have n7_ := zK (blk_kept (zb BK203.out) hkp (fun hs_ => (fun e_ => (Kd.R_ne HO_8.out BK203.out (by decide)) e_) hs_)); have n8_ := zK (blk_kept (zb BK211.out) hkp (fun hs_ => (fun e_ => (Kd.R_ne HO_8.out BK211.out (by decide)) e_) hs_)); have n9_ := zK (hb); clear HO_6; clear HO_8; clear HO_10; clear HO_12; clear HO_qf; clear HO_qh; clear BK202; clear BK203; clear BK211; clear HB; have HO_6 := n0_; have HO_8 := n1_; have HO_10 := n2_; have HO_12 := n3_; have HO_qf := n4_; have HO_qh := n5_; have BK202 := n6_; have BK203 := n7_; have BK211 := n8_; have HB := n9_; clear n0_ n1_ n2_ n3_ n4_ n5_ n6_ n7_ n8_ n9_; (try clear hb); (try clear hkp); (try clear hy0); have hnb60 := NB203_202.out; have hnc60 := NB202_203.out; have hnb61 := NB203_211.out; have hnc61 := NB211_203.out; have hcz62_0 : w59.cell? ⟨gb203, 0, none⟩ = some (.int .i64 a1_0) := (zQ BK203.out 0).trans rfl; have hcz62_1 : w59.cell? ⟨gb203, 1, none⟩ = some (.int .i64 a1_1) := (zQ BK203.out 1).trans rfl; have hfz62_0 := zR BK203.out 0; have hfz62_1 := zR BK203.out 1) | ((with_reducible refine gate_callee (f := 22) rfl ?_); refine goesL_ (some 93) rfl rfl Try.func22 (by kernel_rfl) rfl #[.agg #[.int .i64 a1_0, .int .i64 a1_1]] rfl zt ?_; (with_reducible refine (tollbarref1_SpanMay.calls a1_0 a1_1 true _ A55.out).mono ?_); rintro e w63 ⟨rfl, hb⟩; refine ⟨_, rfl, ?_⟩; have n0_ := zK (zO (zr HO_6.out) hb); have n1_ := zK (zO (zr HO_8.out) hb); have n2_ := zK (zO (zr HO_10.out) hb); have n3_ := zK (Kd.V_below (zv HO_12.out) hb); have n4_ := zK (zO (zr HO_qf.out) hb); have n5_ := zK (zO (zr HO_qh.out) hb); have n6_ := zK (zP (g := gb202) (o := .cells #[.slice A0_0 l0_0.length c0_0, .int .i64 a0_1, .slice A0_2 l0_2.length c0_2] 25 (0, 0)) (zb BK202.out) hb); have n7_ := zK (zP (g := gb203) (o := .cells #[.int .i64 a1_0, .int .i64 a1_1] 27 (0, 0)) (zb BK203.out) hb); have n8_ := zK (zP (g := gb211) (o := .cells #[.slice Ao15 t204.length co15, .int .i64 t207, .slice Ao19 t208.length co19] 25 (0, 0)) (zb BK211.out) hb); have n9_ := zK (yF (zl HB.out) hb); clear HO_6; clear HO_8; clear HO_10; clear HO_12; clear HO_qf; clear HO_qh; clear BK202; clear BK203; clear BK211; clear HB; have HO_6 := n0_; have HO_8 := n1_; have HO_10 := n2_; have HO_12 := n3_; have HO_qf := n4_; have HO_qh := n5_; have BK202 := n6_; have BK203 := n7_; have BK211 := n8_; have HB := n9_; clear n0_ n1_ n2_ n3_ n4_ n5_ n6_ n7_ n8_ n9_; (try clear hb); (try clear hb2); (try clear hk); (try clear hi)))
         (try simp only [Act.put, zY, zZ, yA])
         go_cut [144] (fun v144 wc => ∃ (kq : Nat) (x144_56 : Bool), v144 = .bool x144_56 ∧ Aside0 (tollbarlaw17_Trees.j2 kq t220 x144_56 l0_0 a0_1 l0_2 t204 t207 t208 = some r) ∧ Aside0 (kq ≤ kj46) ∧ Aside0 (Kd.R k50 50 wc w.heap.size (fun _ => True) v221 t220) ∧ Aside0 (Kd.R k64 64 wc w.heap.size (fun _ => True) (.slice Ao15 t204.length co15) t204) ∧ Aside0 (Kd.R (Kd.int .i64) 3 wc w.heap.size (fun _ => True) (.slice Ao19 t208.length co19) t208) ∧ Aside0 (wc.heap[gb202]? = some (.cells #[(.slice A0_0 l0_0.length c0_0), .int .i64 a0_1, (.slice A0_2 l0_2.length c0_2)] 25 (0, 0))) ∧ Aside0 (wc.heap[gb203]? = some (.cells #[.int .i64 a1_0, .int .i64 a1_1] 27 (0, 0))) ∧ Aside0 (wc.heap[gb211]? = some (.cells #[(.slice Ao15 t204.length co15), .int .i64 t207, (.slice Ao19 t208.length co19)] 25 (0, 0))) ∧ Aside0 (Below w.heap.size w wc))
         case first =>
          have H := HC57.out
          clear HC57
          replace H := yH.mp H
          obtain ⟨t242, A640, H⟩ := H
          replace H : (if t242 = 0 then ((tollbarlaw0_Num.f t227).bind fun t243 => (if t243 = 0 then ((tollbarref17_Meets.f kj46 t212 a1_0 a1_1).bind fun t244 => ((tollbarlaw0_SameItems.f kj46 t220 t244).bind fun t247 => (if t247 = true then ((tollbarref17_Points.f kj46 t212 a1_0 a1_1).bind fun t248 => ((tollbarlaw0_SameInts.f kj46 t224 t248).bind fun t251 => (tollbarlaw17_Trees.j2 kj46 t220 (!t251) l0_0 a0_1 l0_2 t204 t207 t208))) else (tollbarlaw17_Trees.j2 kj46 t220 true l0_0 a0_1 l0_2 t204 t207 t208)))) else (tollbarlaw17_Trees.j2 kj46 t220 true l0_0 a0_1 l0_2 t204 t207 t208))) else (tollbarlaw17_Trees.j2 kj46 t220 true l0_0 a0_1 l0_2 t204 t207 t208)) = some r := H
          have A64 := zK A640
          clear A640
          by_cases c65 : t242 = 0
          ·rw [if_pos c65] at H
           have c65b0 : (t242 == 0) = true := yI.mpr c65
           have c65b1 : (t242 != 0) = false := yJ.mpr c65
           clear c65
           (first | rw [c65b0] | (simp only [i64_w, i32_w]; rw [c65b0]) | skip)
           replace H := yH.mp H
           obtain ⟨t243, A660, H⟩ := H
           replace H : (if t243 = 0 then ((tollbarref17_Meets.f kj46 t212 a1_0 a1_1).bind fun t244 => ((tollbarlaw0_SameItems.f kj46 t220 t244).bind fun t247 => (if t247 = true then ((tollbarref17_Points.f kj46 t212 a1_0 a1_1).bind fun t248 => ((tollbarlaw0_SameInts.f kj46 t224 t248).bind fun t251 => (tollbarlaw17_Trees.j2 kj46 t220 (!t251) l0_0 a0_1 l0_2 t204 t207 t208))) else (tollbarlaw17_Trees.j2 kj46 t220 true l0_0 a0_1 l0_2 t204 t207 t208)))) else (tollbarlaw17_Trees.j2 kj46 t220 true l0_0 a0_1 l0_2 t204 t207 t208)) = some r := H
           have A66 := zK A660
           clear A660
           by_cases c67 : t243 = 0
           ·rw [if_pos c67] at H
            have c67b0 : (t243 == 0) = true := yI.mpr c67
            have c67b1 : (t243 != 0) = false := yJ.mpr c67
            clear c67
            replace H := yH.mp H
            obtain ⟨t244, A680, H⟩ := H
            replace H : ((tollbarlaw0_SameItems.f kj46 t220 t244).bind fun t247 => (if t247 = true then ((tollbarref17_Points.f kj46 t212 a1_0 a1_1).bind fun t248 => ((tollbarlaw0_SameInts.f kj46 t224 t248).bind fun t251 => (tollbarlaw17_Trees.j2 kj46 t220 (!t251) l0_0 a0_1 l0_2 t204 t207 t208))) else (tollbarlaw17_Trees.j2 kj46 t220 true l0_0 a0_1 l0_2 t204 t207 t208))) = some r := H
            have A68 := zK A680
            clear A680
            replace H := yH.mp H
            obtain ⟨t247, A690, H⟩ := H
            replace H : (if t247 = true then ((tollbarref17_Points.f kj46 t212 a1_0 a1_1).bind fun t248 => ((tollbarlaw0_SameInts.f kj46 t224 t248).bind fun t251 => (tollbarlaw17_Trees.j2 kj46 t220 (!t251) l0_0 a0_1 l0_2 t204 t207 t208))) else (tollbarlaw17_Trees.j2 kj46 t220 true l0_0 a0_1 l0_2 t204 t207 t208)) = some r := H
            have A69 := zK A690
            clear A690
            by_cases c70 : t247 = true
            ·subst c70
             have H1 : ((tollbarref17_Points.f kj46 t212 a1_0 a1_1).bind fun t248 => ((tollbarlaw0_SameInts.f kj46 t224 t248).bind fun t251 => (tollbarlaw17_Trees.j2 kj46 t220 (!t251) l0_0 a0_1 l0_2 t204 t207 t208))) = some r := by rw [if_pos rfl] at H; exact H
             clear H
             have H := H1
             clear H1
             replace H := yH.mp H
             obtain ⟨t248, A710, H⟩ := H
             replace H : ((tollbarlaw0_SameInts.f kj46 t224 t248).bind fun t251 => (tollbarlaw17_Trees.j2 kj46 t220 (!t251) l0_0 a0_1 l0_2 t204 t207 t208)) = some r := H
             have A71 := zK A710
             clear A710
             replace H := yH.mp H
             obtain ⟨t251, A720, H⟩ := H
             replace H : (tollbarlaw17_Trees.j2 kj46 t220 (!t251) l0_0 a0_1 l0_2 t204 t207 t208) = some r := H
             have A72 := zK A720
             clear A720
             have H' := zK H
             clear H
             go_wp2_with (first | ((with_reducible refine gate_callee (f := 19) rfl ?_); refine goesL_ (some 122) rfl rfl Try.func19 (by kernel_rfl) rfl #[.int .i64 t223] rfl zt ?_; (with_reducible refine (tollbarlaw0_Num.calls t223 t242 _ A64.out).mono ?_); rintro e w' ⟨rfl, ⟨nd, rfl⟩⟩; refine ⟨_, rfl, ?_⟩) | (go_at_call 19; (with_reducible refine (tollbarlaw0_Num.calls t227 t243 _ A66.out).mono ?_); rintro e w' ⟨rfl, ⟨nd, rfl⟩⟩; have hnb73 := NB203_202.out; have hnc73 := NB202_203.out; have hnb74 := NB203_211.out; have hnc74 := NB211_203.out; have hcz75_0 : w63.cell? ⟨gb203, 0, none⟩ = some (.int .i64 a1_0) := (zQ BK203.out 0).trans rfl; have hcz75_1 : w63.cell? ⟨gb203, 1, none⟩ = some (.int .i64 a1_1) := (zQ BK203.out 1).trans rfl; have hfz75_0 := zR BK203.out 0; have hfz75_1 := zR BK203.out 1; obtain ⟨Ao76, co76, eo76⟩ := yE HO_6.out; subst eo76) | (go_at_call 23; (with_reducible refine (tollbarref17_Meets.calls kj46 _ _ t212 a1_0 a1_1 t244 _ ?side1 ?side2 A68.out).mono ?_); (case side1 => exact zc (zX HO_6.out).2.2); (case side2 => exact (zX HO_6.out).2.1); rintro e w77 ⟨v245, rfl, ho0, hb⟩; have n0_ := zK (yC (zr HO_6.out) (Kd.R_base ho0) hb); have n1_ := zK (yC (zr HO_8.out) (Kd.R_base ho0) hb); have n2_ := zK (yC (zr HO_10.out) (Kd.R_base ho0) hb); have n3_ := zK (Kd.V_elder' (zv HO_12.out) (Kd.R_base ho0) hb); have n4_ := zK (zO (zr HO_qf.out) hb); have n5_ := zK (zO (zr HO_qh.out) hb); have n6_ := zK (zV (zW (zW (zW ho0 (yB (zr HO_6.out))) (yB (zr HO_8.out))) (yB (zr HO_10.out))) (yG (zl HB.out))); have n7_ := zK (zP (g := gb202) (o := .cells #[.slice A0_0 l0_0.length c0_0, .int .i64 a0_1, .slice A0_2 l0_2.length c0_2] 25 (0, 0)) (zb BK202.out) hb); have n8_ := zK (zP (g := gb203) (o := .cells #[.int .i64 a1_0, .int .i64 a1_1] 27 (0, 0)) (zb BK203.out) hb); have n9_ := zK (zP (g := gb211) (o := .cells #[.slice Ao15 t204.length co15, .int .i64 t207, .slice Ao19 t208.length co19] 25 (0, 0)) (zb BK211.out) hb); have n10_ := zK (yF (zl HB.out) hb); clear HO_6; clear HO_8; clear HO_10; clear HO_12; clear HO_qf; clear HO_qh; clear BK202; clear BK203; clear BK211; clear HB; have HO_6 := n0_; have HO_8 := n1_; have HO_10 := n2_; have HO_12 := n3_; have HO_qf := n4_; have HO_qh := n5_; have HO246 := n6_; have BK202 := n7_; have BK203 := n8_; have BK211 := n9_; have HB := n10_; clear n0_ n1_ n2_ n3_ n4_ n5_ n6_ n7_ n8_ n9_ n10_; (try clear hb); (try clear hb2); (try clear hk); (try clear hi); (try clear ho0); obtain ⟨Ao78, co78, eo78⟩ := yE HO_10.out; subst eo78; obtain ⟨Ao79, co79, eo79⟩ := yE HO246.out; subst eo79) | (go_at_call 20; (with_reducible refine (tollbarlaw0_SameItems.calls kj46 _ _ t220 _ _ t244 true _ ?side1 ?side2 ?side3 ?side4 A69.out).mono ?_); (case side1 => exact zc (zX HO_10.out).2.2); (case side2 => exact (zX HO_10.out).2.1); (case side3 => exact zc (zX HO246.out).2.2); (case side4 => exact (zX HO246.out).2.1); rintro e w' ⟨rfl, ⟨nd, rfl⟩⟩; have hcz80_0 : w77.cell? ⟨gb203, 0, none⟩ = some (.int .i64 a1_0) := (zQ BK203.out 0).trans rfl; have hcz80_1 : w77.cell? ⟨gb203, 1, none⟩ = some (.int .i64 a1_1) := (zQ BK203.out 1).trans rfl; have hfz80_0 := zR BK203.out 0; have hfz80_1 := zR BK203.out 1) | (go_at_call 25; (with_reducible refine (tollbarref17_Points.calls kj46 _ _ t212 a1_0 a1_1 t248 _ ?side1 ?side2 A71.out).mono ?_); (case side1 => exact zc (zX HO_6.out).2.2); (case side2 => exact (zX HO_6.out).2.1); rintro e w81 ⟨v249, rfl, ho0, hb⟩; have n0_ := zK (zO (zr HO_6.out) hb); have n1_ := zK (zO (zr HO_8.out) hb); have n2_ := zK (zO (zr HO_10.out) hb); have n3_ := zK (Kd.V_elder' (zv HO_12.out) (Kd.R_base ho0) hb); have n4_ := zK (zO (zr HO_qf.out) hb); have n5_ := zK (yC (zr HO_qh.out) (Kd.R_base ho0) hb); have n6_ := zK (zO (zr HO246.out) hb); have n7_ := zK (zV (zW ho0 (yB (zr HO_qh.out))) (yG (zl HB.out))); have n8_ := zK (zP (g := gb202) (o := .cells #[.slice A0_0 l0_0.length c0_0, .int .i64 a0_1, .slice A0_2 l0_2.length c0_2] 25 (0, 0)) (zb BK202.out) hb); have n9_ := zK (zP (g := gb203) (o := .cells #[.int .i64 a1_0, .int .i64 a1_1] 27 (0, 0)) (zb BK203.out) hb); have n10_ := zK (zP (g := gb211) (o := .cells #[.slice Ao15 t204.length co15, .int .i64 t207, .slice Ao19 t208.length co19] 25 (0, 0)) (zb BK211.out) hb); have n11_ := zK (yF (zl HB.out) hb); clear HO_6; clear HO_8; clear HO_10; clear HO_12; clear HO_qf; clear HO_qh; clear HO246; clear BK202; clear BK203; clear BK211; clear HB; have HO_6 := n0_; have HO_8 := n1_; have HO_10 := n2_; have HO_12 := n3_; have HO_qf := n4_; have HO_qh := n5_; have HO246 := n6_; have HO250 := n7_; have BK202 := n8_; have BK203 := n9_; have BK211 := n10_; have HB := n11_; clear n0_ n1_ n2_ n3_ n4_ n5_ n6_ n7_ n8_ n9_ n10_ n11_; (try clear hb); (try clear hb2); (try clear hk); (try clear hi); (try clear ho0); obtain ⟨Ao82, co82, eo82⟩ := Kd.V_slice HO_12.out; subst eo82; obtain ⟨Ao83, co83, eo83⟩ := yE HO250.out; subst eo83) | (go_at_call 24; (with_reducible refine (tollbarlaw0_SameInts.calls kj46 _ _ t224 _ _ t248 t251 _ ?side1 ?side2 ?side3 ?side4 A72.out).mono ?_); (case side1 => repeat (first | exact (Kd.V_reads' HO_12.out).2.2 | (with_reducible refine zS ?_ _) | (with_reducible refine zT ?_ _) | (with_reducible refine zU ?_))); (case side2 => exact (Kd.V_reads' HO_12.out).2.1); (case side3 => exact zc (zX HO250.out).2.2); (case side4 => exact (zX HO250.out).2.1); rintro e w' ⟨rfl, ⟨nd, rfl⟩⟩))
             go_meet
             case rel => exact ⟨_, (!t251), zz, H', ⟨by have := HJ7.out; have := HJ46.out; first | omega | exact Nat.le_refl _⟩, ⟨by (with_reducible repeat (first | apply zA | apply zB | apply zC)); exact Kd.R_mono HO_10.out (fun _ hk => trivial)⟩, ⟨by (with_reducible repeat (first | apply zA | apply zB | apply zC)); exact HO_qf.out⟩, ⟨by (with_reducible repeat (first | apply zA | apply zB | apply zC)); exact Kd.R_mono HO_qh.out (fun _ hk => trivial)⟩, ⟨by (with_reducible repeat (first | refine zD ?_ _ | refine zE ?_ | refine zF ?_ _)); exact BK202.out⟩, ⟨by (with_reducible repeat (first | refine zD ?_ _ | refine zE ?_ | refine zF ?_ _)); exact BK203.out⟩, ⟨by (with_reducible repeat (first | refine zD ?_ _ | refine zE ?_ | refine zF ?_ _)); exact BK211.out⟩, ⟨by repeat (first | (with_reducible first | exact HB.out | apply zG | apply zH | apply zI | refine zL ?_ GE202.out | refine zL ?_ GE203.out | refine zL ?_ GE211.out) | exact HB.out)⟩⟩
            ·replace c70 := Bool.eq_false_iff.mpr c70
             subst c70
             have H1 : (tollbarlaw17_Trees.j2 kj46 t220 true l0_0 a0_1 l0_2 t204 t207 t208) = some r := by rw [if_neg (show ¬ (false = true) by decide)] at H; exact H
             clear H
             have H := H1
             clear H1
             have H' := zK H
             clear H
             go_wp2_with (first | ((with_reducible refine gate_callee (f := 19) rfl ?_); refine goesL_ (some 122) rfl rfl Try.func19 (by kernel_rfl) rfl #[.int .i64 t223] rfl zt ?_; (with_reducible refine (tollbarlaw0_Num.calls t223 t242 _ A64.out).mono ?_); rintro e w' ⟨rfl, ⟨nd, rfl⟩⟩; refine ⟨_, rfl, ?_⟩) | (go_at_call 19; (with_reducible refine (tollbarlaw0_Num.calls t227 t243 _ A66.out).mono ?_); rintro e w' ⟨rfl, ⟨nd, rfl⟩⟩; have hnb84 := NB203_202.out; have hnc84 := NB202_203.out; have hnb85 := NB203_211.out; have hnc85 := NB211_203.out; have hcz86_0 : w63.cell? ⟨gb203, 0, none⟩ = some (.int .i64 a1_0) := (zQ BK203.out 0).trans rfl; have hcz86_1 : w63.cell? ⟨gb203, 1, none⟩ = some (.int .i64 a1_1) := (zQ BK203.out 1).trans rfl; have hfz86_0 := zR BK203.out 0; have hfz86_1 := zR BK203.out 1; obtain ⟨Ao87, co87, eo87⟩ := yE HO_6.out; subst eo87) | (go_at_call 23; (with_reducible refine (tollbarref17_Meets.calls kj46 _ _ t212 a1_0 a1_1 t244 _ ?side1 ?side2 A68.out).mono ?_); (case side1 => exact zc (zX HO_6.out).2.2); (case side2 => exact (zX HO_6.out).2.1); rintro e w88 ⟨v245, rfl, ho0, hb⟩; have n0_ := zK (yC (zr HO_6.out) (Kd.R_base ho0) hb); have n1_ := zK (yC (zr HO_8.out) (Kd.R_base ho0) hb); have n2_ := zK (yC (zr HO_10.out) (Kd.R_base ho0) hb); have n3_ := zK (Kd.V_elder' (zv HO_12.out) (Kd.R_base ho0) hb); have n4_ := zK (zO (zr HO_qf.out) hb); have n5_ := zK (zO (zr HO_qh.out) hb); have n6_ := zK (zV (zW (zW (zW ho0 (yB (zr HO_6.out))) (yB (zr HO_8.out))) (yB (zr HO_10.out))) (yG (zl HB.out))); have n7_ := zK (zP (g := gb202) (o := .cells #[.slice A0_0 l0_0.length c0_0, .int .i64 a0_1, .slice A0_2 l0_2.length c0_2] 25 (0, 0)) (zb BK202.out) hb); have n8_ := zK (zP (g := gb203) (o := .cells #[.int .i64 a1_0, .int .i64 a1_1] 27 (0, 0)) (zb BK203.out) hb); have n9_ := zK (zP (g := gb211) (o := .cells #[.slice Ao15 t204.length co15, .int .i64 t207, .slice Ao19 t208.length co19] 25 (0, 0)) (zb BK211.out) hb); have n10_ := zK (yF (zl HB.out) hb); clear HO_6; clear HO_8; clear HO_10; clear HO_12; clear HO_qf; clear HO_qh; clear BK202; clear BK203; clear BK211; clear HB; have HO_6 := n0_; have HO_8 := n1_; have HO_10 := n2_; have HO_12 := n3_; have HO_qf := n4_; have HO_qh := n5_; have HO246 := n6_; have BK202 := n7_; have BK203 := n8_; have BK211 := n9_; have HB := n10_; clear n0_ n1_ n2_ n3_ n4_ n5_ n6_ n7_ n8_ n9_ n10_; (try clear hb); (try clear hb2); (try clear hk); (try clear hi); (try clear ho0); obtain ⟨Ao89, co89, eo89⟩ := yE HO_10.out; subst eo89; obtain ⟨Ao90, co90, eo90⟩ := yE HO246.out; subst eo90) | (go_at_call 20; (with_reducible refine (tollbarlaw0_SameItems.calls kj46 _ _ t220 _ _ t244 false _ ?side1 ?side2 ?side3 ?side4 A69.out).mono ?_); (case side1 => exact zc (zX HO_10.out).2.2); (case side2 => exact (zX HO_10.out).2.1); (case side3 => exact zc (zX HO246.out).2.2); (case side4 => exact (zX HO246.out).2.1); rintro e w' ⟨rfl, ⟨nd, rfl⟩⟩))
             go_meet
             case rel => exact ⟨_, (true), zz, H', ⟨by have := HJ7.out; have := HJ46.out; first | omega | exact Nat.le_refl _⟩, ⟨by (with_reducible repeat (first | apply zA | apply zB | apply zC)); exact Kd.R_mono HO_10.out (fun _ hk => trivial)⟩, ⟨by (with_reducible repeat (first | apply zA | apply zB | apply zC)); exact HO_qf.out⟩, ⟨by (with_reducible repeat (first | apply zA | apply zB | apply zC)); exact HO_qh.out⟩, ⟨by (with_reducible repeat (first | refine zD ?_ _ | refine zE ?_ | refine zF ?_ _)); exact BK202.out⟩, ⟨by (with_reducible repeat (first | refine zD ?_ _ | refine zE ?_ | refine zF ?_ _)); exact BK203.out⟩, ⟨by (with_reducible repeat (first | refine zD ?_ _ | refine zE ?_ | refine zF ?_ _)); exact BK211.out⟩, ⟨by repeat (first | (with_reducible first | exact HB.out | apply zG | apply zH | apply zI | refine zL ?_ GE202.out | refine zL ?_ GE203.out | refine zL ?_ GE211.out) | exact HB.out)⟩⟩
           ·rw [if_neg c67] at H
            have c67b0 : (t243 == 0) = false := yK.mpr c67
            have c67b1 : (t243 != 0) = true := yL.mpr c67
            have H' := zK H
            clear H
            go_wp2_with (first | ((with_reducible refine gate_callee (f := 19) rfl ?_); refine goesL_ (some 122) rfl rfl Try.func19 (by kernel_rfl) rfl #[.int .i64 t223] rfl zt ?_; (with_reducible refine (tollbarlaw0_Num.calls t223 t242 _ A64.out).mono ?_); rintro e w' ⟨rfl, ⟨nd, rfl⟩⟩; refine ⟨_, rfl, ?_⟩) | (go_at_call 19; (with_reducible refine (tollbarlaw0_Num.calls t227 t243 _ A66.out).mono ?_); rintro e w' ⟨rfl, ⟨nd, rfl⟩⟩))
            go_meet
            case rel => exact ⟨_, (true), zz, H', ⟨by have := HJ7.out; have := HJ46.out; first | omega | exact Nat.le_refl _⟩, ⟨by (with_reducible repeat (first | apply zA | apply zB | apply zC)); exact Kd.R_mono HO_10.out (fun _ hk => trivial)⟩, ⟨by (with_reducible repeat (first | apply zA | apply zB | apply zC)); exact HO_qf.out⟩, ⟨by (with_reducible repeat (first | apply zA | apply zB | apply zC)); exact HO_qh.out⟩, ⟨by (with_reducible repeat (first | refine zD ?_ _ | refine zE ?_ | refine zF ?_ _)); exact BK202.out⟩, ⟨by (with_reducible repeat (first | refine zD ?_ _ | refine zE ?_ | refine zF ?_ _)); exact BK203.out⟩, ⟨by (with_reducible repeat (first | refine zD ?_ _ | refine zE ?_ | refine zF ?_ _)); exact BK211.out⟩, ⟨by repeat (first | (with_reducible first | exact HB.out | apply zG | apply zH | apply zI | refine zL ?_ GE202.out | refine zL ?_ GE203.out | refine zL ?_ GE211.out) | exact HB.out)⟩⟩
          ·rw [if_neg c65] at H
           have c65b0 : (t242 == 0) = false := yK.mpr c65
           have c65b1 : (t242 != 0) = true := yL.mpr c65
           (first | rw [c65b0] | (simp only [i64_w, i32_w]; rw [c65b0]) | skip)
           have H' := zK H
           clear H
           go_wp2_with (first | ((with_reducible refine gate_callee (f := 19) rfl ?_); refine goesL_ (some 122) rfl rfl Try.func19 (by kernel_rfl) rfl #[.int .i64 t223] rfl zt ?_; (with_reducible refine (tollbarlaw0_Num.calls t223 t242 _ A64.out).mono ?_); rintro e w' ⟨rfl, ⟨nd, rfl⟩⟩; refine ⟨_, rfl, ?_⟩))
           go_meet
           case rel => exact ⟨_, (true), zz, H', ⟨by have := HJ7.out; have := HJ46.out; first | omega | exact Nat.le_refl _⟩, ⟨by (with_reducible repeat (first | apply zA | apply zB | apply zC)); exact Kd.R_mono HO_10.out (fun _ hk => trivial)⟩, ⟨by (with_reducible repeat (first | apply zA | apply zB | apply zC)); exact HO_qf.out⟩, ⟨by (with_reducible repeat (first | apply zA | apply zB | apply zC)); exact HO_qh.out⟩, ⟨by (with_reducible repeat (first | refine zD ?_ _ | refine zE ?_ | refine zF ?_ _)); exact BK202.out⟩, ⟨by (with_reducible repeat (first | refine zD ?_ _ | refine zE ?_ | refine zF ?_ _)); exact BK203.out⟩, ⟨by (with_reducible repeat (first | refine zD ?_ _ | refine zE ?_ | refine zF ?_ _)); exact BK211.out⟩, ⟨by repeat (first | (with_reducible first | exact HB.out | apply zG | apply zH | apply zI | refine zL ?_ GE202.out | refine zL ?_ GE203.out | refine zL ?_ GE211.out) | exact HB.out)⟩⟩
         case rest =>
          clear HC57
          try clear c1
          try clear c2
          try clear p2
          try clear c3
          try clear c4
          try clear c5
          try clear c6
          try clear c7
          try clear c8
          try clear c11
          try clear c12
          try clear c13
          try clear c14
          try clear c15
          try clear c16
          try clear c17
          try clear c19
          try clear c21
          try clear c22
          try clear c31
          try clear c31b0
          try clear c31b1
          try clear c31b2
          try clear c32
          try clear c33
          try clear c37
          try clear c38
          try clear c42
          try clear c45
          try clear c46
          try clear c49
          try clear c49b0
          try clear c49b1
          try clear c53
          try clear c56
          try clear c60
          try clear c61
          try clear c65
          try clear c65b0
          try clear c65b1
          try clear c67
          try clear c67b0
          try clear c67b1
          try clear c70
          try clear c73
          try clear c74
          try clear c84
          try clear c85
          try clear hcz12_0
          try clear hcz12_1
          try clear hcz12_2
          try clear hcz18_0
          try clear hcz18_1
          try clear hcz18_2
          try clear hcz20_0
          try clear hcz20_1
          try clear hcz20_2
          try clear hcz22_0
          try clear hcz22_1
          try clear hcz22_2
          try clear hcz24_0
          try clear hcz24_1
          try clear hcz24_2
          try clear hcz25_0
          try clear hcz25_1
          try clear hcz27_0
          try clear hcz27_1
          try clear hcz27_2
          try clear hcz28_0
          try clear hcz28_1
          try clear hcz34_0
          try clear hcz34_1
          try clear hcz34_2
          try clear hcz39_0
          try clear hcz39_1
          try clear hcz39_2
          try clear hcz41_0
          try clear hcz41_1
          try clear hcz41_2
          try clear hcz43_0
          try clear hcz43_1
          try clear hcz43_2
          try clear hcz62_0
          try clear hcz62_1
          try clear hcz75_0
          try clear hcz75_1
          try clear hcz80_0
          try clear hcz80_1
          try clear hcz86_0
          try clear hcz86_1
          try clear hfz12_0
          try clear hfz12_1
          try clear hfz12_2
          try clear hfz18_0
          try clear hfz18_1
          try clear hfz18_2
          try clear hfz20_0
          try clear hfz20_1
          try clear hfz20_2
          try clear hfz22_0
          try clear hfz22_1
          try clear hfz22_2
          try clear hfz24_0
          try clear hfz24_1
          try clear hfz24_2
          try clear hfz25_0
          try clear hfz25_1
          try clear hfz27_0
          try clear hfz27_1
          try clear hfz27_2
          try clear hfz28_0
          try clear hfz28_1
          try clear hfz34_0
          try clear hfz34_1
          try clear hfz34_2
          try clear hfz39_0
          try clear hfz39_1
          try clear hfz39_2
          try clear hfz41_0
          try clear hfz41_1
          try clear hfz41_2
          try clear hfz43_0
          try clear hfz43_1
          try clear hfz43_2
          try clear hfz62_0
          try clear hfz62_1
          try clear hfz75_0
          try clear hfz75_1
          try clear hfz80_0
          try clear hfz80_1
          try clear hfz86_0
          try clear hfz86_1
          try clear p2
          obtain ⟨kq, x144_56, rfl, HA, HJ56, HO_10, HO_qf, HO_qh, BK202, BK203, BK211, HB⟩ := hcut
          cases kq with
          | zero => exact absurd HA.out (by simp [tollbarlaw17_Trees.j2])
          | succ kj56 =>
           have H := HA.out
           clear HA
           simp only [tollbarlaw17_Trees.j2] at H
           by_cases c91 : x144_56 = true
           ·subst c91
            have H1 : (some false) = some r := by rw [if_pos rfl] at H; exact H
            clear H
            have H := H1
            clear H1
            obtain rfl := Option.some.inj H
            go_wp2
            go_ret
            exact ⟨ze, zl HB.out⟩
           ·replace c91 := Bool.eq_false_iff.mpr c91
            subst c91
            have H1 : ((tollbarlaw0_SpoilItems.f kj56 t220).bind fun t252 => ((tollbarlaw17_awake.f).bind fun t253 => (if t253 = true then ((tollbarlaw0_SameTree.f kj56 t204 t207 t208 l0_0 a0_1 l0_2).bind fun t254 => (some t254)) else (some false)))) = some r := by rw [if_neg (show ¬ (false = true) by decide)] at H; exact H
            clear H
            have H := H1
            clear H1
            replace H := yH.mp H
            obtain ⟨t252, A920, H⟩ := H
            replace H : ((tollbarlaw17_awake.f).bind fun t253 => (if t253 = true then ((tollbarlaw0_SameTree.f kj56 t204 t207 t208 l0_0 a0_1 l0_2).bind fun t254 => (some t254)) else (some false))) = some r := H
            have A92 := zK A920
            clear A920
            replace H := yH.mp H
            obtain ⟨t253, A930, H⟩ := H
            replace H : (if t253 = true then ((tollbarlaw0_SameTree.f kj56 t204 t207 t208 l0_0 a0_1 l0_2).bind fun t254 => (some t254)) else (some false)) = some r := H
            have A93 := zK A930
            clear A930
            by_cases c94 : t253 = true
            ·subst c94
             have H1 : ((tollbarlaw0_SameTree.f kj56 t204 t207 t208 l0_0 a0_1 l0_2).bind fun t254 => (some t254)) = some r := by rw [if_pos rfl] at H; exact H
             clear H
             have H := H1
             clear H1
             replace H := yH.mp H
             obtain ⟨t254, A950, H⟩ := H
             replace H : (some t254) = some r := H
             have A95 := zK A950
             clear A950
             obtain rfl := Option.some.inj H
             obtain ⟨Ao96, co96, eo96⟩ := yE HO_10.out
             subst eo96
             go_wp2_with (first | ((with_reducible refine gate_callee (f := 21) rfl ?_); refine goesL_ (some 146) rfl rfl Try.func21 (by kernel_rfl) rfl #[.slice Ao96 t220.length co96] rfl zt ?_; (with_reducible refine (tollbarlaw0_SpoilItems.calls kj56 (fun k_ => some k_ = (.slice Ao96 t220.length co96 : Value).ownBlock) (.slice Ao96 t220.length co96) t220 t252 w _ ?side1 ?side2 A92.out).mono ?_); (case side1 => repeat (first | (with_reducible first | exact HB.out | apply zG | apply zH | apply zI | refine zL ?_ GE202.out | refine zL ?_ GE203.out | refine zL ?_ GE211.out) | exact HB.out)); (case side2 => exact Kd.R_tight rfl HO_10.out); rintro e w97 ⟨rfl, hy0, hb, hkp⟩; refine ⟨_, rfl, ?_⟩; have n0_ := zK (Kd.R_reok rfl hy0 (fun k_ e_ => HO_10.out.1 k_ e_)); have n1_ := zK (Kd.R_mono (ok' := fun k_ => True) (Kd.R_keptB ((Kd.R_apart' HO_qf.out (Kd.R_typed HO_10.out) (by decide))) hkp (fun k_ hk_ hs_ => (hk_.2) hs_)) (fun k_ hk_ => trivial)); have n2_ := zK (Kd.R_mono (ok' := fun k_ => True) (Kd.R_keptB ((Kd.R_apart' HO_qh.out (Kd.R_typed HO_10.out) (by decide))) hkp (fun k_ hk_ hs_ => (hk_.2) hs_)) (fun k_ hk_ => trivial)); have n3_ := zK (blk_kept (zb BK202.out) hkp (fun hs_ => (fun e_ => (Kd.R_ne HO_10.out BK202.out (by decide)) e_) hs_)); have n4_ := zK (blk_kept (zb BK203.out) hkp (fun hs_ => (fun e_ => (Kd.R_ne HO_10.out BK203.out (by decide)) e_) hs_)); have n5_ := zK (blk_kept (zb BK211.out) hkp (fun hs_ => (fun e_ => (Kd.R_ne HO_10.out BK211.out (by decide)) e_) hs_)); have n6_ := zK (hb); clear HO_10; clear HO_qf; clear HO_qh; clear BK202; clear BK203; clear BK211; clear HB; have HO_10 := n0_; have HO_qf := n1_; have HO_qh := n2_; have BK202 := n3_; have BK203 := n4_; have BK211 := n5_; have HB := n6_; clear n0_ n1_ n2_ n3_ n4_ n5_ n6_; (try clear hb); (try clear hkp); (try clear hy0)) | ((with_reducible refine gate_callee (f := 18) rfl ?_); refine goesL_ (some 147) rfl rfl Try.func18 (by kernel_rfl) rfl #[] rfl zt ?_; (with_reducible refine (tollbarlaw17_awake.calls  true _ A93.out).mono ?_); rintro e w98 ⟨rfl, hb⟩; refine ⟨_, rfl, ?_⟩; have n0_ := zK (zO (zr HO_10.out) hb); have n1_ := zK (zO (zr HO_qf.out) hb); have n2_ := zK (zO (zr HO_qh.out) hb); have n3_ := zK (zP (g := gb202) (o := .cells #[.slice A0_0 l0_0.length c0_0, .int .i64 a0_1, .slice A0_2 l0_2.length c0_2] 25 (0, 0)) (zb BK202.out) hb); have n4_ := zK (zP (g := gb203) (o := .cells #[.int .i64 a1_0, .int .i64 a1_1] 27 (0, 0)) (zb BK203.out) hb); have n5_ := zK (zP (g := gb211) (o := .cells #[.slice Ao15 t204.length co15, .int .i64 t207, .slice Ao19 t208.length co19] 25 (0, 0)) (zb BK211.out) hb); have n6_ := zK (yF (zl HB.out) hb); clear HO_10; clear HO_qf; clear HO_qh; clear BK202; clear BK203; clear BK211; clear HB; have HO_10 := n0_; have HO_qf := n1_; have HO_qh := n2_; have BK202 := n3_; have BK203 := n4_; have BK211 := n5_; have HB := n6_; clear n0_ n1_ n2_ n3_ n4_ n5_ n6_; (try clear hb); (try clear hb2); (try clear hk); (try clear hi); have hnb99 := NB211_202.out; have hnc99 := NB202_211.out; have hnb100 := NB211_203.out; have hnc100 := NB203_211.out; have hcz101_0 : w98.cell? ⟨gb211, 0, none⟩ = some (.slice Ao15 t204.length co15) := (zQ BK211.out 0).trans rfl; have hcz101_1 : w98.cell? ⟨gb211, 1, none⟩ = some (.int .i64 t207) := (zQ BK211.out 1).trans rfl; have hcz101_2 : w98.cell? ⟨gb211, 2, none⟩ = some (.slice Ao19 t208.length co19) := (zQ BK211.out 2).trans rfl; have hfz101_0 := zR BK211.out 0; have hfz101_1 := zR BK211.out 1; have hfz101_2 := zR BK211.out 2; have hnb102 := NB202_203.out; have hnc102 := NB203_202.out; have hcz103_0 : w98.cell? ⟨gb202, 0, none⟩ = some (.slice A0_0 l0_0.length c0_0) := (zQ BK202.out 0).trans rfl; have hcz103_1 : w98.cell? ⟨gb202, 1, none⟩ = some (.int .i64 a0_1) := (zQ BK202.out 1).trans rfl; have hcz103_2 : w98.cell? ⟨gb202, 2, none⟩ = some (.slice A0_2 l0_2.length c0_2) := (zQ BK202.out 2).trans rfl; have hfz103_0 := zR BK202.out 0; have hfz103_1 := zR BK202.out 1; have hfz103_2 := zR BK202.out 2) | (go_at_call 17; (with_reducible refine (tollbarlaw0_SameTree.calls kj56 _ _ t204 t207 _ _ t208 _ _ l0_0 a0_1 _ _ l0_2 t254 _ ?side1 ?side2 ?side3 ?side4 ?side5 ?side6 ?side7 ?side8 A95.out).mono ?_); (case side1 => exact zc (zX HO_qf.out).2.2); (case side2 => exact (zX HO_qf.out).2.1); (case side3 => exact zc (zX HO_qh.out).2.2); (case side4 => exact (zX HO_qh.out).2.1); (case side5 => repeat (first | exact (yD HR0_0.out HB.out) | (with_reducible refine zS ?_ _) | (with_reducible refine zT ?_ _) | (with_reducible refine zU ?_))); (case side6 => exact HC0_0.out); (case side7 => repeat (first | exact (yD HR0_2.out HB.out) | (with_reducible refine zS ?_ _) | (with_reducible refine zT ?_ _) | (with_reducible refine zU ?_))); (case side8 => exact HC0_2.out); rintro e w104 ⟨rfl, hb⟩; have n0_ := zK (zO (zr HO_10.out) hb); have n1_ := zK (zO (zr HO_qf.out) hb); have n2_ := zK (zO (zr HO_qh.out) hb); have n3_ := zK (zP (g := gb202) (o := .cells #[.slice A0_0 l0_0.length c0_0, .int .i64 a0_1, .slice A0_2 l0_2.length c0_2] 25 (0, 0)) (zb BK202.out) hb); have n4_ := zK (zP (g := gb203) (o := .cells #[.int .i64 a1_0, .int .i64 a1_1] 27 (0, 0)) (zb BK203.out) hb); have n5_ := zK (zP (g := gb211) (o := .cells #[.slice Ao15 t204.length co15, .int .i64 t207, .slice Ao19 t208.length co19] 25 (0, 0)) (zb BK211.out) hb); have n6_ := zK (yF (zl HB.out) hb); clear HO_10; clear HO_qf; clear HO_qh; clear BK202; clear BK203; clear BK211; clear HB; have HO_10 := n0_; have HO_qf := n1_; have HO_qh := n2_; have BK202 := n3_; have BK203 := n4_; have BK211 := n5_; have HB := n6_; clear n0_ n1_ n2_ n3_ n4_ n5_ n6_; (try clear hb); (try clear hb2); (try clear hk); (try clear hi)))
             go_ret
             exact ⟨ze, zl HB.out⟩
            ·replace c94 := Bool.eq_false_iff.mpr c94
             subst c94
             have H1 : (some false) = some r := by rw [if_neg (show ¬ (false = true) by decide)] at H; exact H
             clear H
             have H := H1
             clear H1
             obtain rfl := Option.some.inj H
             obtain ⟨Ao105, co105, eo105⟩ := yE HO_10.out
             subst eo105
             go_wp2_with (first | ((with_reducible refine gate_callee (f := 21) rfl ?_); refine goesL_ (some 146) rfl rfl Try.func21 (by kernel_rfl) rfl #[.slice Ao105 t220.length co105] rfl zt ?_; (with_reducible refine (tollbarlaw0_SpoilItems.calls kj56 (fun k_ => some k_ = (.slice Ao105 t220.length co105 : Value).ownBlock) (.slice Ao105 t220.length co105) t220 t252 w _ ?side1 ?side2 A92.out).mono ?_); (case side1 => repeat (first | (with_reducible first | exact HB.out | apply zG | apply zH | apply zI | refine zL ?_ GE202.out | refine zL ?_ GE203.out | refine zL ?_ GE211.out) | exact HB.out)); (case side2 => exact Kd.R_tight rfl HO_10.out); rintro e w106 ⟨rfl, hy0, hb, hkp⟩; refine ⟨_, rfl, ?_⟩; have n0_ := zK (Kd.R_reok rfl hy0 (fun k_ e_ => HO_10.out.1 k_ e_)); have n1_ := zK (Kd.R_mono (ok' := fun k_ => True) (Kd.R_keptB ((Kd.R_apart' HO_qf.out (Kd.R_typed HO_10.out) (by decide))) hkp (fun k_ hk_ hs_ => (hk_.2) hs_)) (fun k_ hk_ => trivial)); have n2_ := zK (Kd.R_mono (ok' := fun k_ => True) (Kd.R_keptB ((Kd.R_apart' HO_qh.out (Kd.R_typed HO_10.out) (by decide))) hkp (fun k_ hk_ hs_ => (hk_.2) hs_)) (fun k_ hk_ => trivial)); have n3_ := zK (blk_kept (zb BK202.out) hkp (fun hs_ => (fun e_ => (Kd.R_ne HO_10.out BK202.out (by decide)) e_) hs_)); have n4_ := zK (blk_kept (zb BK203.out) hkp (fun hs_ => (fun e_ => (Kd.R_ne HO_10.out BK203.out (by decide)) e_) hs_)); have n5_ := zK (blk_kept (zb BK211.out) hkp (fun hs_ => (fun e_ => (Kd.R_ne HO_10.out BK211.out (by decide)) e_) hs_)); have n6_ := zK (hb); clear HO_10; clear HO_qf; clear HO_qh; clear BK202; clear BK203; clear BK211; clear HB; have HO_10 := n0_; have HO_qf := n1_; have HO_qh := n2_; have BK202 := n3_; have BK203 := n4_; have BK211 := n5_; have HB := n6_; clear n0_ n1_ n2_ n3_ n4_ n5_ n6_; (try clear hb); (try clear hkp); (try clear hy0)) | ((with_reducible refine gate_callee (f := 18) rfl ?_); refine goesL_ (some 147) rfl rfl Try.func18 (by kernel_rfl) rfl #[] rfl zt ?_; (with_reducible refine (tollbarlaw17_awake.calls  false _ A93.out).mono ?_); rintro e w107 ⟨rfl, hb⟩; refine ⟨_, rfl, ?_⟩; have n0_ := zK (zO (zr HO_10.out) hb); have n1_ := zK (zO (zr HO_qf.out) hb); have n2_ := zK (zO (zr HO_qh.out) hb); have n3_ := zK (zP (g := gb202) (o := .cells #[.slice A0_0 l0_0.length c0_0, .int .i64 a0_1, .slice A0_2 l0_2.length c0_2] 25 (0, 0)) (zb BK202.out) hb); have n4_ := zK (zP (g := gb203) (o := .cells #[.int .i64 a1_0, .int .i64 a1_1] 27 (0, 0)) (zb BK203.out) hb); have n5_ := zK (zP (g := gb211) (o := .cells #[.slice Ao15 t204.length co15, .int .i64 t207, .slice Ao19 t208.length co19] 25 (0, 0)) (zb BK211.out) hb); have n6_ := zK (yF (zl HB.out) hb); clear HO_10; clear HO_qf; clear HO_qh; clear BK202; clear BK203; clear BK211; clear HB; have HO_10 := n0_; have HO_qf := n1_; have HO_qh := n2_; have BK202 := n3_; have BK203 := n4_; have BK211 := n5_; have HB := n6_; clear n0_ n1_ n2_ n3_ n4_ n5_ n6_; (try clear hb); (try clear hb2); (try clear hk); (try clear hi)))
             go_ret
             exact ⟨ze, zl HB.out⟩
        ·replace c56 := Bool.eq_false_iff.mpr c56
         subst c56
         have H1 : ((tollbarlaw17_awake.f).bind fun t238 => (if t238 = true then ((tollbarlaw0_Num.f t223).bind fun t239 => (if t239 = 1700 then ((tollbarlaw0_Num.f t227).bind fun t240 => (if t240 = 1700 then (if (t220.length : Int) = 0 then (if (t224.length : Int) = 0 then ((tollbarlaw0_SameTree.f kj46 t204 t207 t208 l0_0 a0_1 l0_2).bind fun t241 => (some t241)) else (some false)) else (some false)) else (some false))) else (some false))) else (some false))) = some r := by rw [if_neg (show ¬ (false = true) by decide)] at H; exact H
         clear H
         have H := H1
         clear H1
         replace H := yH.mp H
         obtain ⟨t238, A1080, H⟩ := H
         replace H : (if t238 = true then ((tollbarlaw0_Num.f t223).bind fun t239 => (if t239 = 1700 then ((tollbarlaw0_Num.f t227).bind fun t240 => (if t240 = 1700 then (if (t220.length : Int) = 0 then (if (t224.length : Int) = 0 then ((tollbarlaw0_SameTree.f kj46 t204 t207 t208 l0_0 a0_1 l0_2).bind fun t241 => (some t241)) else (some false)) else (some false)) else (some false))) else (some false))) else (some false)) = some r := H
         have A108 := zK A1080
         clear A1080
         by_cases c109 : t238 = true
         ·subst c109
          have H1 : ((tollbarlaw0_Num.f t223).bind fun t239 => (if t239 = 1700 then ((tollbarlaw0_Num.f t227).bind fun t240 => (if t240 = 1700 then (if (t220.length : Int) = 0 then (if (t224.length : Int) = 0 then ((tollbarlaw0_SameTree.f kj46 t204 t207 t208 l0_0 a0_1 l0_2).bind fun t241 => (some t241)) else (some false)) else (some false)) else (some false))) else (some false))) = some r := by rw [if_pos rfl] at H; exact H
          clear H
          have H := H1
          clear H1
          replace H := yH.mp H
          obtain ⟨t239, A1100, H⟩ := H
          replace H : (if t239 = 1700 then ((tollbarlaw0_Num.f t227).bind fun t240 => (if t240 = 1700 then (if (t220.length : Int) = 0 then (if (t224.length : Int) = 0 then ((tollbarlaw0_SameTree.f kj46 t204 t207 t208 l0_0 a0_1 l0_2).bind fun t241 => (some t241)) else (some false)) else (some false)) else (some false))) else (some false)) = some r := H
          have A110 := zK A1100
          clear A1100
          by_cases c111 : t239 = 1700
          ·rw [if_pos c111] at H
           have c111b0 : (t239 == 1700) = true := yI.mpr c111
           have c111b1 : (t239 != 1700) = false := yJ.mpr c111
           clear c111
           replace H := yH.mp H
           obtain ⟨t240, A1120, H⟩ := H
           replace H : (if t240 = 1700 then (if (t220.length : Int) = 0 then (if (t224.length : Int) = 0 then ((tollbarlaw0_SameTree.f kj46 t204 t207 t208 l0_0 a0_1 l0_2).bind fun t241 => (some t241)) else (some false)) else (some false)) else (some false)) = some r := H
           have A112 := zK A1120
           clear A1120
           by_cases c113 : t240 = 1700
           ·rw [if_pos c113] at H
            have c113b0 : (t240 == 1700) = true := yI.mpr c113
            have c113b1 : (t240 != 1700) = false := yJ.mpr c113
            clear c113
            by_cases c114 : (t220.length : Int) = 0
            ·rw [if_pos c114] at H
             have c114b0 : ((t220.length : Int) == 0) = true := yI.mpr c114
             have c114b1 : ((t220.length : Int) != 0) = false := yJ.mpr c114
             clear c114
             by_cases c115 : (t224.length : Int) = 0
             ·rw [if_pos c115] at H
              have c115b0 : ((t224.length : Int) == 0) = true := yI.mpr c115
              have c115b1 : ((t224.length : Int) != 0) = false := yJ.mpr c115
              clear c115
              replace H := yH.mp H
              obtain ⟨t241, A1160, H⟩ := H
              replace H : (some t241) = some r := H
              have A116 := zK A1160
              clear A1160
              obtain rfl := Option.some.inj H
              obtain ⟨Ao117, co117, eo117⟩ := yE HO_8.out
              subst eo117
              go_wp2_with (first | ((with_reducible refine gate_callee (f := 21) rfl ?_); refine goesL_ (some 91) rfl rfl Try.func21 (by kernel_rfl) rfl #[.slice Ao117 t216.length co117] rfl zt ?_; (with_reducible refine (tollbarlaw0_SpoilItems.calls kj46 (fun k_ => some k_ = (.slice Ao117 t216.length co117 : Value).ownBlock) (.slice Ao117 t216.length co117) t216 t236 w _ ?side1 ?side2 A54.out).mono ?_); (case side1 => repeat (first | (with_reducible first | exact HB.out | apply zG | apply zH | apply zI | refine zL ?_ GE202.out | refine zL ?_ GE203.out | refine zL ?_ GE211.out) | exact HB.out)); (case side2 => exact Kd.R_tight rfl HO_8.out); rintro e w118 ⟨rfl, hy0, hb, hkp⟩; refine ⟨_, rfl, ?_⟩; have n0_ := zK (Kd.R_mono (ok' := fun k_ => some k_ ≠ (.slice Ao117 t216.length co117 : Value).ownBlock ∧ some k_ ≠ (v221 : Value).ownBlock) (Kd.R_keptB (HO_6.out) hkp (fun k_ hk_ hs_ => (hk_.1) hs_)) (fun k_ hk_ => ⟨hk_.1.1, hk_.1.2⟩)); have n1_ := zK (Kd.R_reok rfl hy0 (fun k_ e_ => HO_8.out.1 k_ e_)); have n2_ := zK (Kd.R_mono (ok' := fun k_ => some k_ ≠ (v213 : Value).ownBlock ∧ some k_ ≠ (.slice Ao117 t216.length co117 : Value).ownBlock) (Kd.R_keptB (HO_10.out) hkp (fun k_ hk_ hs_ => (hk_.2) hs_)) (fun k_ hk_ => ⟨hk_.1.1, hk_.1.2⟩)); have n3_ := zK (Kd.V_mono (ok' := fun k_ => some k_ ≠ (v213 : Value).ownBlock ∧ some k_ ≠ (.slice Ao117 t216.length co117 : Value).ownBlock ∧ some k_ ≠ (v221 : Value).ownBlock ∧ some k_ ≠ (.slice Ao15 t204.length co15 : Value).ownBlock ∧ some k_ ≠ (.slice Ao19 t208.length co19 : Value).ownBlock ∧ k_ ≠ gb202 ∧ k_ ≠ gb203 ∧ k_ ≠ gb211) (Kd.V_keptB (HO_12.out) hkp (fun k_ hk_ hs_ => (hk_.2.1) hs_)) (fun k_ hk_ => ⟨hk_.1.1, hk_.1.2.1, hk_.1.2.2.1, hk_.1.2.2.2.1, hk_.1.2.2.2.2.1, hk_.1.2.2.2.2.2.1, hk_.1.2.2.2.2.2.2.1, hk_.1.2.2.2.2.2.2.2⟩)); have n4_ := zK (Kd.R_mono (ok' := fun k_ => True) (Kd.R_keptB ((Kd.R_apart' HO_qf.out (Kd.R_typed HO_8.out) (by decide))) hkp (fun k_ hk_ hs_ => (hk_.2) hs_)) (fun k_ hk_ => trivial)); have n5_ := zK (Kd.R_mono (ok' := fun k_ => True) (Kd.R_keptB ((Kd.R_apart' HO_qh.out (Kd.R_typed HO_8.out) (by decide))) hkp (fun k_ hk_ hs_ => (hk_.2) hs_)) (fun k_ hk_ => trivial)); have n6_ := zK (blk_kept (zb BK202.out) hkp (fun hs_ => (fun e_ => (Kd.R_ne HO_8.out BK202.out (by decide)) e_) hs_)); have n7_ := zK (blk_kept (zb BK203.out) hkp (fun hs_ => (fun e_ => (Kd.R_ne HO_8.out BK203.out (by decide)) e_) hs_)); have n8_ := zK (blk_kept (zb BK211.out) hkp (fun hs_ => (fun e_ => (Kd.R_ne HO_8.out BK211.out (by decide)) e_) hs_)); have n9_ := zK (hb); clear HO_6; clear HO_8; clear HO_10; clear HO_12; clear HO_qf; clear HO_qh; clear BK202; clear BK203; clear BK211; clear HB; have HO_6 := n0_; have HO_8 := n1_; have HO_10 := n2_; have HO_12 := n3_; have HO_qf := n4_; have HO_qh := n5_; have BK202 := n6_; have BK203 := n7_; have BK211 := n8_; have HB := n9_; clear n0_ n1_ n2_ n3_ n4_ n5_ n6_ n7_ n8_ n9_; (try clear hb); (try clear hkp); (try clear hy0); have hnb119 := NB203_202.out; have hnc119 := NB202_203.out; have hnb120 := NB203_211.out; have hnc120 := NB211_203.out; have hcz121_0 : w118.cell? ⟨gb203, 0, none⟩ = some (.int .i64 a1_0) := (zQ BK203.out 0).trans rfl; have hcz121_1 : w118.cell? ⟨gb203, 1, none⟩ = some (.int .i64 a1_1) := (zQ BK203.out 1).trans rfl; have hfz121_0 := zR BK203.out 0; have hfz121_1 := zR BK203.out 1) | ((with_reducible refine gate_callee (f := 22) rfl ?_); refine goesL_ (some 93) rfl rfl Try.func22 (by kernel_rfl) rfl #[.agg #[.int .i64 a1_0, .int .i64 a1_1]] rfl zt ?_; (with_reducible refine (tollbarref1_SpanMay.calls a1_0 a1_1 false _ A55.out).mono ?_); rintro e w122 ⟨rfl, hb⟩; refine ⟨_, rfl, ?_⟩; have n0_ := zK (zO (zr HO_6.out) hb); have n1_ := zK (zO (zr HO_8.out) hb); have n2_ := zK (zO (zr HO_10.out) hb); have n3_ := zK (Kd.V_below (zv HO_12.out) hb); have n4_ := zK (zO (zr HO_qf.out) hb); have n5_ := zK (zO (zr HO_qh.out) hb); have n6_ := zK (zP (g := gb202) (o := .cells #[.slice A0_0 l0_0.length c0_0, .int .i64 a0_1, .slice A0_2 l0_2.length c0_2] 25 (0, 0)) (zb BK202.out) hb); have n7_ := zK (zP (g := gb203) (o := .cells #[.int .i64 a1_0, .int .i64 a1_1] 27 (0, 0)) (zb BK203.out) hb); have n8_ := zK (zP (g := gb211) (o := .cells #[.slice Ao15 t204.length co15, .int .i64 t207, .slice Ao19 t208.length co19] 25 (0, 0)) (zb BK211.out) hb); have n9_ := zK (yF (zl HB.out) hb); clear HO_6; clear HO_8; clear HO_10; clear HO_12; clear HO_qf; clear HO_qh; clear BK202; clear BK203; clear BK211; clear HB; have HO_6 := n0_; have HO_8 := n1_; have HO_10 := n2_; have HO_12 := n3_; have HO_qf := n4_; have HO_qh := n5_; have BK202 := n6_; have BK203 := n7_; have BK211 := n8_; have HB := n9_; clear n0_ n1_ n2_ n3_ n4_ n5_ n6_ n7_ n8_ n9_; (try clear hb); (try clear hb2); (try clear hk); (try clear hi)) | ((with_reducible refine gate_callee (f := 18) rfl ?_); refine goesL_ (some 95) rfl rfl Try.func18 (by kernel_rfl) rfl #[] rfl zt ?_; (with_reducible refine (tollbarlaw17_awake.calls  true _ A108.out).mono ?_); rintro e w123 ⟨rfl, hb⟩; refine ⟨_, rfl, ?_⟩; have n0_ := zK (zO (zr HO_6.out) hb); have n1_ := zK (zO (zr HO_8.out) hb); have n2_ := zK (zO (zr HO_10.out) hb); have n3_ := zK (Kd.V_below (zv HO_12.out) hb); have n4_ := zK (zO (zr HO_qf.out) hb); have n5_ := zK (zO (zr HO_qh.out) hb); have n6_ := zK (zP (g := gb202) (o := .cells #[.slice A0_0 l0_0.length c0_0, .int .i64 a0_1, .slice A0_2 l0_2.length c0_2] 25 (0, 0)) (zb BK202.out) hb); have n7_ := zK (zP (g := gb203) (o := .cells #[.int .i64 a1_0, .int .i64 a1_1] 27 (0, 0)) (zb BK203.out) hb); have n8_ := zK (zP (g := gb211) (o := .cells #[.slice Ao15 t204.length co15, .int .i64 t207, .slice Ao19 t208.length co19] 25 (0, 0)) (zb BK211.out) hb); have n9_ := zK (yF (zl HB.out) hb); clear HO_6; clear HO_8; clear HO_10; clear HO_12; clear HO_qf; clear HO_qh; clear BK202; clear BK203; clear BK211; clear HB; have HO_6 := n0_; have HO_8 := n1_; have HO_10 := n2_; have HO_12 := n3_; have HO_qf := n4_; have HO_qh := n5_; have BK202 := n6_; have BK203 := n7_; have BK211 := n8_; have HB := n9_; clear n0_ n1_ n2_ n3_ n4_ n5_ n6_ n7_ n8_ n9_; (try clear hb); (try clear hb2); (try clear hk); (try clear hi)) | (go_at_call 19; (with_reducible refine (tollbarlaw0_Num.calls t223 t239 _ A110.out).mono ?_); rintro e w' ⟨rfl, ⟨nd, rfl⟩⟩) | (go_at_call 19; (with_reducible refine (tollbarlaw0_Num.calls t227 t240 _ A112.out).mono ?_); rintro e w' ⟨rfl, ⟨nd, rfl⟩⟩; obtain ⟨Ao124, co124, eo124⟩ := yE HO_10.out; subst eo124; obtain ⟨Ao125, co125, eo125⟩ := Kd.V_slice HO_12.out; subst eo125; have hnb126 := NB211_202.out; have hnc126 := NB202_211.out; have hcz127_0 : w123.cell? ⟨gb211, 0, none⟩ = some (.slice Ao15 t204.length co15) := (zQ BK211.out 0).trans rfl; have hcz127_1 : w123.cell? ⟨gb211, 1, none⟩ = some (.int .i64 t207) := (zQ BK211.out 1).trans rfl; have hcz127_2 : w123.cell? ⟨gb211, 2, none⟩ = some (.slice Ao19 t208.length co19) := (zQ BK211.out 2).trans rfl; have hfz127_0 := zR BK211.out 0; have hfz127_1 := zR BK211.out 1; have hfz127_2 := zR BK211.out 2; have hcz128_0 : w123.cell? ⟨gb202, 0, none⟩ = some (.slice A0_0 l0_0.length c0_0) := (zQ BK202.out 0).trans rfl; have hcz128_1 : w123.cell? ⟨gb202, 1, none⟩ = some (.int .i64 a0_1) := (zQ BK202.out 1).trans rfl; have hcz128_2 : w123.cell? ⟨gb202, 2, none⟩ = some (.slice A0_2 l0_2.length c0_2) := (zQ BK202.out 2).trans rfl; have hfz128_0 := zR BK202.out 0; have hfz128_1 := zR BK202.out 1; have hfz128_2 := zR BK202.out 2) | (go_at_call 17; (with_reducible refine (tollbarlaw0_SameTree.calls kj46 _ _ t204 t207 _ _ t208 _ _ l0_0 a0_1 _ _ l0_2 t241 _ ?side1 ?side2 ?side3 ?side4 ?side5 ?side6 ?side7 ?side8 A116.out).mono ?_); (case side1 => exact zc (zX HO_qf.out).2.2); (case side2 => exact (zX HO_qf.out).2.1); (case side3 => exact zc (zX HO_qh.out).2.2); (case side4 => exact (zX HO_qh.out).2.1); (case side5 => repeat (first | exact (yD HR0_0.out (zl HB.out)) | (with_reducible refine zS ?_ _) | (with_reducible refine zT ?_ _) | (with_reducible refine zU ?_))); (case side6 => exact HC0_0.out); (case side7 => repeat (first | exact (yD HR0_2.out (zl HB.out)) | (with_reducible refine zS ?_ _) | (with_reducible refine zT ?_ _) | (with_reducible refine zU ?_))); (case side8 => exact HC0_2.out); rintro e w129 ⟨rfl, hb⟩; have n0_ := zK (zO (zr HO_6.out) hb); have n1_ := zK (zO (zr HO_8.out) hb); have n2_ := zK (zO (zr HO_10.out) hb); have n3_ := zK (Kd.V_below (zv HO_12.out) hb); have n4_ := zK (zO (zr HO_qf.out) hb); have n5_ := zK (zO (zr HO_qh.out) hb); have n6_ := zK (zP (g := gb202) (o := .cells #[.slice A0_0 l0_0.length c0_0, .int .i64 a0_1, .slice A0_2 l0_2.length c0_2] 25 (0, 0)) (zb BK202.out) hb); have n7_ := zK (zP (g := gb203) (o := .cells #[.int .i64 a1_0, .int .i64 a1_1] 27 (0, 0)) (zb BK203.out) hb); have n8_ := zK (zP (g := gb211) (o := .cells #[.slice Ao15 t204.length co15, .int .i64 t207, .slice Ao19 t208.length co19] 25 (0, 0)) (zb BK211.out) hb); have n9_ := zK (yF (zl HB.out) hb); clear HO_6; clear HO_8; clear HO_10; clear HO_12; clear HO_qf; clear HO_qh; clear BK202; clear BK203; clear BK211; clear HB; have HO_6 := n0_; have HO_8 := n1_; have HO_10 := n2_; have HO_12 := n3_; have HO_qf := n4_; have HO_qh := n5_; have BK202 := n6_; have BK203 := n7_; have BK211 := n8_; have HB := n9_; clear n0_ n1_ n2_ n3_ n4_ n5_ n6_ n7_ n8_ n9_; (try clear hb); (try clear hb2); (try clear hk); (try clear hi)))
              go_ret
              exact ⟨ze, zl HB.out⟩
             ·rw [if_neg c115] at H
              have c115b0 : ((t224.length : Int) == 0) = false := yK.mpr c115
              have c115b1 : ((t224.length : Int) != 0) = true := yL.mpr c115
              have c115b2 : ¬ (t224 = []) := fun h_ => c115 (by rw [h_]; rfl)
              obtain rfl := Option.some.inj H
              obtain ⟨Ao130, co130, eo130⟩ := yE HO_8.out
              subst eo130
              go_wp2_with (first | ((with_reducible refine gate_callee (f := 21) rfl ?_); refine goesL_ (some 91) rfl rfl Try.func21 (by kernel_rfl) rfl #[.slice Ao130 t216.length co130] rfl zt ?_; (with_reducible refine (tollbarlaw0_SpoilItems.calls kj46 (fun k_ => some k_ = (.slice Ao130 t216.length co130 : Value).ownBlock) (.slice Ao130 t216.length co130) t216 t236 w _ ?side1 ?side2 A54.out).mono ?_); (case side1 => repeat (first | (with_reducible first | exact HB.out | apply zG | apply zH | apply zI | refine zL ?_ GE202.out | refine zL ?_ GE203.out | refine zL ?_ GE211.out) | exact HB.out)); (case side2 => exact Kd.R_tight rfl HO_8.out); rintro e w131 ⟨rfl, hy0, hb, hkp⟩; refine ⟨_, rfl, ?_⟩; have n0_ := zK (Kd.R_mono (ok' := fun k_ => some k_ ≠ (.slice Ao130 t216.length co130 : Value).ownBlock ∧ some k_ ≠ (v221 : Value).ownBlock) (Kd.R_keptB (HO_6.out) hkp (fun k_ hk_ hs_ => (hk_.1) hs_)) (fun k_ hk_ => ⟨hk_.1.1, hk_.1.2⟩)); have n1_ := zK (Kd.R_reok rfl hy0 (fun k_ e_ => HO_8.out.1 k_ e_)); have n2_ := zK (Kd.R_mono (ok' := fun k_ => some k_ ≠ (v213 : Value).ownBlock ∧ some k_ ≠ (.slice Ao130 t216.length co130 : Value).ownBlock) (Kd.R_keptB (HO_10.out) hkp (fun k_ hk_ hs_ => (hk_.2) hs_)) (fun k_ hk_ => ⟨hk_.1.1, hk_.1.2⟩)); have n3_ := zK (Kd.V_mono (ok' := fun k_ => some k_ ≠ (v213 : Value).ownBlock ∧ some k_ ≠ (.slice Ao130 t216.length co130 : Value).ownBlock ∧ some k_ ≠ (v221 : Value).ownBlock ∧ some k_ ≠ (.slice Ao15 t204.length co15 : Value).ownBlock ∧ some k_ ≠ (.slice Ao19 t208.length co19 : Value).ownBlock ∧ k_ ≠ gb202 ∧ k_ ≠ gb203 ∧ k_ ≠ gb211) (Kd.V_keptB (HO_12.out) hkp (fun k_ hk_ hs_ => (hk_.2.1) hs_)) (fun k_ hk_ => ⟨hk_.1.1, hk_.1.2.1, hk_.1.2.2.1, hk_.1.2.2.2.1, hk_.1.2.2.2.2.1, hk_.1.2.2.2.2.2.1, hk_.1.2.2.2.2.2.2.1, hk_.1.2.2.2.2.2.2.2⟩)); have n4_ := zK (Kd.R_mono (ok' := fun k_ => True) (Kd.R_keptB ((Kd.R_apart' HO_qf.out (Kd.R_typed HO_8.out) (by decide))) hkp (fun k_ hk_ hs_ => (hk_.2) hs_)) (fun k_ hk_ => trivial)); have n5_ := zK (Kd.R_mono (ok' := fun k_ => True) (Kd.R_keptB ((Kd.R_apart' HO_qh.out (Kd.R_typed HO_8.out) (by decide))) hkp (fun k_ hk_ hs_ => (hk_.2) hs_)) (fun k_ hk_ => trivial)); have n6_ := zK (blk_kept (zb BK202.out) hkp (fun hs_ => (fun e_ => (Kd.R_ne HO_8.out BK202.out (by decide)) e_) hs_)); have n7_ := zK (blk_kept (zb BK203.out) hkp (fun hs_ => (fun e_ => (Kd.R_ne HO_8.out BK203.out (by decide)) e_) hs_)); have n8_ := zK (blk_kept (zb BK211.out) hkp (fun hs_ => (fun e_ => (Kd.R_ne HO_8.out BK211.out (by decide)) e_) hs_)); have n9_ := zK (hb); clear HO_6; clear HO_8; clear HO_10; clear HO_12; clear HO_qf; clear HO_qh; clear BK202; clear BK203; clear BK211; clear HB; have HO_6 := n0_; have HO_8 := n1_; have HO_10 := n2_; have HO_12 := n3_; have HO_qf := n4_; have HO_qh := n5_; have BK202 := n6_; have BK203 := n7_; have BK211 := n8_; have HB := n9_; clear n0_ n1_ n2_ n3_ n4_ n5_ n6_ n7_ n8_ n9_; (try clear hb); (try clear hkp); (try clear hy0); have hnb132 := NB203_202.out; have hnc132 := NB202_203.out; have hnb133 := NB203_211.out; have hnc133 := NB211_203.out; have hcz134_0 : w131.cell? ⟨gb203, 0, none⟩ = some (.int .i64 a1_0) := (zQ BK203.out 0).trans rfl; have hcz134_1 : w131.cell? ⟨gb203, 1, none⟩ = some (.int .i64 a1_1) := (zQ BK203.out 1).trans rfl; have hfz134_0 := zR BK203.out 0; have hfz134_1 := zR BK203.out 1) | ((with_reducible refine gate_callee (f := 22) rfl ?_); refine goesL_ (some 93) rfl rfl Try.func22 (by kernel_rfl) rfl #[.agg #[.int .i64 a1_0, .int .i64 a1_1]] rfl zt ?_; (with_reducible refine (tollbarref1_SpanMay.calls a1_0 a1_1 false _ A55.out).mono ?_); rintro e w135 ⟨rfl, hb⟩; refine ⟨_, rfl, ?_⟩; have n0_ := zK (zO (zr HO_6.out) hb); have n1_ := zK (zO (zr HO_8.out) hb); have n2_ := zK (zO (zr HO_10.out) hb); have n3_ := zK (Kd.V_below (zv HO_12.out) hb); have n4_ := zK (zO (zr HO_qf.out) hb); have n5_ := zK (zO (zr HO_qh.out) hb); have n6_ := zK (zP (g := gb202) (o := .cells #[.slice A0_0 l0_0.length c0_0, .int .i64 a0_1, .slice A0_2 l0_2.length c0_2] 25 (0, 0)) (zb BK202.out) hb); have n7_ := zK (zP (g := gb203) (o := .cells #[.int .i64 a1_0, .int .i64 a1_1] 27 (0, 0)) (zb BK203.out) hb); have n8_ := zK (zP (g := gb211) (o := .cells #[.slice Ao15 t204.length co15, .int .i64 t207, .slice Ao19 t208.length co19] 25 (0, 0)) (zb BK211.out) hb); have n9_ := zK (yF (zl HB.out) hb); clear HO_6; clear HO_8; clear HO_10; clear HO_12; clear HO_qf; clear HO_qh; clear BK202; clear BK203; clear BK211; clear HB; have HO_6 := n0_; have HO_8 := n1_; have HO_10 := n2_; have HO_12 := n3_; have HO_qf := n4_; have HO_qh := n5_; have BK202 := n6_; have BK203 := n7_; have BK211 := n8_; have HB := n9_; clear n0_ n1_ n2_ n3_ n4_ n5_ n6_ n7_ n8_ n9_; (try clear hb); (try clear hb2); (try clear hk); (try clear hi)) | ((with_reducible refine gate_callee (f := 18) rfl ?_); refine goesL_ (some 95) rfl rfl Try.func18 (by kernel_rfl) rfl #[] rfl zt ?_; (with_reducible refine (tollbarlaw17_awake.calls  true _ A108.out).mono ?_); rintro e w136 ⟨rfl, hb⟩; refine ⟨_, rfl, ?_⟩; have n0_ := zK (zO (zr HO_6.out) hb); have n1_ := zK (zO (zr HO_8.out) hb); have n2_ := zK (zO (zr HO_10.out) hb); have n3_ := zK (Kd.V_below (zv HO_12.out) hb); have n4_ := zK (zO (zr HO_qf.out) hb); have n5_ := zK (zO (zr HO_qh.out) hb); have n6_ := zK (zP (g := gb202) (o := .cells #[.slice A0_0 l0_0.length c0_0, .int .i64 a0_1, .slice A0_2 l0_2.length c0_2] 25 (0, 0)) (zb BK202.out) hb); have n7_ := zK (zP (g := gb203) (o := .cells #[.int .i64 a1_0, .int .i64 a1_1] 27 (0, 0)) (zb BK203.out) hb); have n8_ := zK (zP (g := gb211) (o := .cells #[.slice Ao15 t204.length co15, .int .i64 t207, .slice Ao19 t208.length co19] 25 (0, 0)) (zb BK211.out) hb); have n9_ := zK (yF (zl HB.out) hb); clear HO_6; clear HO_8; clear HO_10; clear HO_12; clear HO_qf; clear HO_qh; clear BK202; clear BK203; clear BK211; clear HB; have HO_6 := n0_; have HO_8 := n1_; have HO_10 := n2_; have HO_12 := n3_; have HO_qf := n4_; have HO_qh := n5_; have BK202 := n6_; have BK203 := n7_; have BK211 := n8_; have HB := n9_; clear n0_ n1_ n2_ n3_ n4_ n5_ n6_ n7_ n8_ n9_; (try clear hb); (try clear hb2); (try clear hk); (try clear hi)) | (go_at_call 19; (with_reducible refine (tollbarlaw0_Num.calls t223 t239 _ A110.out).mono ?_); rintro e w' ⟨rfl, ⟨nd, rfl⟩⟩) | (go_at_call 19; (with_reducible refine (tollbarlaw0_Num.calls t227 t240 _ A112.out).mono ?_); rintro e w' ⟨rfl, ⟨nd, rfl⟩⟩; obtain ⟨Ao137, co137, eo137⟩ := yE HO_10.out; subst eo137; obtain ⟨Ao138, co138, eo138⟩ := Kd.V_slice HO_12.out; subst eo138))
              go_ret
              exact ⟨ze, zl HB.out⟩
            ·rw [if_neg c114] at H
             have c114b0 : ((t220.length : Int) == 0) = false := yK.mpr c114
             have c114b1 : ((t220.length : Int) != 0) = true := yL.mpr c114
             have c114b2 : ¬ (t220 = []) := fun h_ => c114 (by rw [h_]; rfl)
             obtain rfl := Option.some.inj H
             obtain ⟨Ao139, co139, eo139⟩ := yE HO_8.out
             subst eo139
             go_wp2_with (first | ((with_reducible refine gate_callee (f := 21) rfl ?_); refine goesL_ (some 91) rfl rfl Try.func21 (by kernel_rfl) rfl #[.slice Ao139 t216.length co139] rfl zt ?_; (with_reducible refine (tollbarlaw0_SpoilItems.calls kj46 (fun k_ => some k_ = (.slice Ao139 t216.length co139 : Value).ownBlock) (.slice Ao139 t216.length co139) t216 t236 w _ ?side1 ?side2 A54.out).mono ?_); (case side1 => repeat (first | (with_reducible first | exact HB.out | apply zG | apply zH | apply zI | refine zL ?_ GE202.out | refine zL ?_ GE203.out | refine zL ?_ GE211.out) | exact HB.out)); (case side2 => exact Kd.R_tight rfl HO_8.out); rintro e w140 ⟨rfl, hy0, hb, hkp⟩; refine ⟨_, rfl, ?_⟩; have n0_ := zK (Kd.R_mono (ok' := fun k_ => some k_ ≠ (.slice Ao139 t216.length co139 : Value).ownBlock ∧ some k_ ≠ (v221 : Value).ownBlock) (Kd.R_keptB (HO_6.out) hkp (fun k_ hk_ hs_ => (hk_.1) hs_)) (fun k_ hk_ => ⟨hk_.1.1, hk_.1.2⟩)); have n1_ := zK (Kd.R_reok rfl hy0 (fun k_ e_ => HO_8.out.1 k_ e_)); have n2_ := zK (Kd.R_mono (ok' := fun k_ => some k_ ≠ (v213 : Value).ownBlock ∧ some k_ ≠ (.slice Ao139 t216.length co139 : Value).ownBlock) (Kd.R_keptB (HO_10.out) hkp (fun k_ hk_ hs_ => (hk_.2) hs_)) (fun k_ hk_ => ⟨hk_.1.1, hk_.1.2⟩)); have n3_ := zK (Kd.V_mono (ok' := fun k_ => some k_ ≠ (v213 : Value).ownBlock ∧ some k_ ≠ (.slice Ao139 t216.length co139 : Value).ownBlock ∧ some k_ ≠ (v221 : Value).ownBlock ∧ some k_ ≠ (.slice Ao15 t204.length co15 : Value).ownBlock ∧ some k_ ≠ (.slice Ao19 t208.length co19 : Value).ownBlock ∧ k_ ≠ gb202 ∧ k_ ≠ gb203 ∧ k_ ≠ gb211) (Kd.V_keptB (HO_12.out) hkp (fun k_ hk_ hs_ => (hk_.2.1) hs_)) (fun k_ hk_ => ⟨hk_.1.1, hk_.1.2.1, hk_.1.2.2.1, hk_.1.2.2.2.1, hk_.1.2.2.2.2.1, hk_.1.2.2.2.2.2.1, hk_.1.2.2.2.2.2.2.1, hk_.1.2.2.2.2.2.2.2⟩)); have n4_ := zK (Kd.R_mono (ok' := fun k_ => True) (Kd.R_keptB ((Kd.R_apart' HO_qf.out (Kd.R_typed HO_8.out) (by decide))) hkp (fun k_ hk_ hs_ => (hk_.2) hs_)) (fun k_ hk_ => trivial)); have n5_ := zK (Kd.R_mono (ok' := fun k_ => True) (Kd.R_keptB ((Kd.R_apart' HO_qh.out (Kd.R_typed HO_8.out) (by decide))) hkp (fun k_ hk_ hs_ => (hk_.2) hs_)) (fun k_ hk_ => trivial)); have n6_ := zK (blk_kept (zb BK202.out) hkp (fun hs_ => (fun e_ => (Kd.R_ne HO_8.out BK202.out (by decide)) e_) hs_)); have n7_ := zK (blk_kept (zb BK203.out) hkp (fun hs_ => (fun e_ => (Kd.R_ne HO_8.out BK203.out (by decide)) e_) hs_)); have n8_ := zK (blk_kept (zb BK211.out) hkp (fun hs_ => (fun e_ => (Kd.R_ne HO_8.out BK211.out (by decide)) e_) hs_)); have n9_ := zK (hb); clear HO_6; clear HO_8; clear HO_10; clear HO_12; clear HO_qf; clear HO_qh; clear BK202; clear BK203; clear BK211; clear HB; have HO_6 := n0_; have HO_8 := n1_; have HO_10 := n2_; have HO_12 := n3_; have HO_qf := n4_; have HO_qh := n5_; have BK202 := n6_; have BK203 := n7_; have BK211 := n8_; have HB := n9_; clear n0_ n1_ n2_ n3_ n4_ n5_ n6_ n7_ n8_ n9_; (try clear hb); (try clear hkp); (try clear hy0); have hnb141 := NB203_202.out; have hnc141 := NB202_203.out; have hnb142 := NB203_211.out; have hnc142 := NB211_203.out; have hcz143_0 : w140.cell? ⟨gb203, 0, none⟩ = some (.int .i64 a1_0) := (zQ BK203.out 0).trans rfl; have hcz143_1 : w140.cell? ⟨gb203, 1, none⟩ = some (.int .i64 a1_1) := (zQ BK203.out 1).trans rfl; have hfz143_0 := zR BK203.out 0; have hfz143_1 := zR BK203.out 1) | ((with_reducible refine gate_callee (f := 22) rfl ?_); refine goesL_ (some 93) rfl rfl Try.func22 (by kernel_rfl) rfl #[.agg #[.int .i64 a1_0, .int .i64 a1_1]] rfl zt ?_; (with_reducible refine (tollbarref1_SpanMay.calls a1_0 a1_1 false _ A55.out).mono ?_); rintro e w144 ⟨rfl, hb⟩; refine ⟨_, rfl, ?_⟩; have n0_ := zK (zO (zr HO_6.out) hb); have n1_ := zK (zO (zr HO_8.out) hb); have n2_ := zK (zO (zr HO_10.out) hb); have n3_ := zK (Kd.V_below (zv HO_12.out) hb); have n4_ := zK (zO (zr HO_qf.out) hb); have n5_ := zK (zO (zr HO_qh.out) hb); have n6_ := zK (zP (g := gb202) (o := .cells #[.slice A0_0 l0_0.length c0_0, .int .i64 a0_1, .slice A0_2 l0_2.length c0_2] 25 (0, 0)) (zb BK202.out) hb); have n7_ := zK (zP (g := gb203) (o := .cells #[.int .i64 a1_0, .int .i64 a1_1] 27 (0, 0)) (zb BK203.out) hb); have n8_ := zK (zP (g := gb211) (o := .cells #[.slice Ao15 t204.length co15, .int .i64 t207, .slice Ao19 t208.length co19] 25 (0, 0)) (zb BK211.out) hb); have n9_ := zK (yF (zl HB.out) hb); clear HO_6; clear HO_8; clear HO_10; clear HO_12; clear HO_qf; clear HO_qh; clear BK202; clear BK203; clear BK211; clear HB; have HO_6 := n0_; have HO_8 := n1_; have HO_10 := n2_; have HO_12 := n3_; have HO_qf := n4_; have HO_qh := n5_; have BK202 := n6_; have BK203 := n7_; have BK211 := n8_; have HB := n9_; clear n0_ n1_ n2_ n3_ n4_ n5_ n6_ n7_ n8_ n9_; (try clear hb); (try clear hb2); (try clear hk); (try clear hi)) | ((with_reducible refine gate_callee (f := 18) rfl ?_); refine goesL_ (some 95) rfl rfl Try.func18 (by kernel_rfl) rfl #[] rfl zt ?_; (with_reducible refine (tollbarlaw17_awake.calls  true _ A108.out).mono ?_); rintro e w145 ⟨rfl, hb⟩; refine ⟨_, rfl, ?_⟩; have n0_ := zK (zO (zr HO_6.out) hb); have n1_ := zK (zO (zr HO_8.out) hb); have n2_ := zK (zO (zr HO_10.out) hb); have n3_ := zK (Kd.V_below (zv HO_12.out) hb); have n4_ := zK (zO (zr HO_qf.out) hb); have n5_ := zK (zO (zr HO_qh.out) hb); have n6_ := zK (zP (g := gb202) (o := .cells #[.slice A0_0 l0_0.length c0_0, .int .i64 a0_1, .slice A0_2 l0_2.length c0_2] 25 (0, 0)) (zb BK202.out) hb); have n7_ := zK (zP (g := gb203) (o := .cells #[.int .i64 a1_0, .int .i64 a1_1] 27 (0, 0)) (zb BK203.out) hb); have n8_ := zK (zP (g := gb211) (o := .cells #[.slice Ao15 t204.length co15, .int .i64 t207, .slice Ao19 t208.length co19] 25 (0, 0)) (zb BK211.out) hb); have n9_ := zK (yF (zl HB.out) hb); clear HO_6; clear HO_8; clear HO_10; clear HO_12; clear HO_qf; clear HO_qh; clear BK202; clear BK203; clear BK211; clear HB; have HO_6 := n0_; have HO_8 := n1_; have HO_10 := n2_; have HO_12 := n3_; have HO_qf := n4_; have HO_qh := n5_; have BK202 := n6_; have BK203 := n7_; have BK211 := n8_; have HB := n9_; clear n0_ n1_ n2_ n3_ n4_ n5_ n6_ n7_ n8_ n9_; (try clear hb); (try clear hb2); (try clear hk); (try clear hi)) | (go_at_call 19; (with_reducible refine (tollbarlaw0_Num.calls t223 t239 _ A110.out).mono ?_); rintro e w' ⟨rfl, ⟨nd, rfl⟩⟩) | (go_at_call 19; (with_reducible refine (tollbarlaw0_Num.calls t227 t240 _ A112.out).mono ?_); rintro e w' ⟨rfl, ⟨nd, rfl⟩⟩; obtain ⟨Ao146, co146, eo146⟩ := yE HO_10.out; subst eo146))
             go_ret
             exact ⟨ze, zl HB.out⟩
           ·rw [if_neg c113] at H
            have c113b0 : (t240 == 1700) = false := yK.mpr c113
            have c113b1 : (t240 != 1700) = true := yL.mpr c113
            obtain rfl := Option.some.inj H
            obtain ⟨Ao147, co147, eo147⟩ := yE HO_8.out
            subst eo147
            go_wp2_with (first | ((with_reducible refine gate_callee (f := 21) rfl ?_); refine goesL_ (some 91) rfl rfl Try.func21 (by kernel_rfl) rfl #[.slice Ao147 t216.length co147] rfl zt ?_; (with_reducible refine (tollbarlaw0_SpoilItems.calls kj46 (fun k_ => some k_ = (.slice Ao147 t216.length co147 : Value).ownBlock) (.slice Ao147 t216.length co147) t216 t236 w _ ?side1 ?side2 A54.out).mono ?_); (case side1 => repeat (first | (with_reducible first | exact HB.out | apply zG | apply zH | apply zI | refine zL ?_ GE202.out | refine zL ?_ GE203.out | refine zL ?_ GE211.out) | exact HB.out)); (case side2 => exact Kd.R_tight rfl HO_8.out); rintro e w148 ⟨rfl, hy0, hb, hkp⟩; refine ⟨_, rfl, ?_⟩; have n0_ := zK (Kd.R_mono (ok' := fun k_ => some k_ ≠ (.slice Ao147 t216.length co147 : Value).ownBlock ∧ some k_ ≠ (v221 : Value).ownBlock) (Kd.R_keptB (HO_6.out) hkp (fun k_ hk_ hs_ => (hk_.1) hs_)) (fun k_ hk_ => ⟨hk_.1.1, hk_.1.2⟩)); have n1_ := zK (Kd.R_reok rfl hy0 (fun k_ e_ => HO_8.out.1 k_ e_)); have n2_ := zK (Kd.R_mono (ok' := fun k_ => some k_ ≠ (v213 : Value).ownBlock ∧ some k_ ≠ (.slice Ao147 t216.length co147 : Value).ownBlock) (Kd.R_keptB (HO_10.out) hkp (fun k_ hk_ hs_ => (hk_.2) hs_)) (fun k_ hk_ => ⟨hk_.1.1, hk_.1.2⟩)); have n3_ := zK (Kd.V_mono (ok' := fun k_ => some k_ ≠ (v213 : Value).ownBlock ∧ some k_ ≠ (.slice Ao147 t216.length co147 : Value).ownBlock ∧ some k_ ≠ (v221 : Value).ownBlock ∧ some k_ ≠ (.slice Ao15 t204.length co15 : Value).ownBlock ∧ some k_ ≠ (.slice Ao19 t208.length co19 : Value).ownBlock ∧ k_ ≠ gb202 ∧ k_ ≠ gb203 ∧ k_ ≠ gb211) (Kd.V_keptB (HO_12.out) hkp (fun k_ hk_ hs_ => (hk_.2.1) hs_)) (fun k_ hk_ => ⟨hk_.1.1, hk_.1.2.1, hk_.1.2.2.1, hk_.1.2.2.2.1, hk_.1.2.2.2.2.1, hk_.1.2.2.2.2.2.1, hk_.1.2.2.2.2.2.2.1, hk_.1.2.2.2.2.2.2.2⟩)); have n4_ := zK (Kd.R_mono (ok' := fun k_ => True) (Kd.R_keptB ((Kd.R_apart' HO_qf.out (Kd.R_typed HO_8.out) (by decide))) hkp (fun k_ hk_ hs_ => (hk_.2) hs_)) (fun k_ hk_ => trivial)); have n5_ := zK (Kd.R_mono (ok' := fun k_ => True) (Kd.R_keptB ((Kd.R_apart' HO_qh.out (Kd.R_typed HO_8.out) (by decide))) hkp (fun k_ hk_ hs_ => (hk_.2) hs_)) (fun k_ hk_ => trivial)); have n6_ := zK (blk_kept (zb BK202.out) hkp (fun hs_ => (fun e_ => (Kd.R_ne HO_8.out BK202.out (by decide)) e_) hs_)); have n7_ := zK (blk_kept (zb BK203.out) hkp (fun hs_ => (fun e_ => (Kd.R_ne HO_8.out BK203.out (by decide)) e_) hs_)); have n8_ := zK (blk_kept (zb BK211.out) hkp (fun hs_ => (fun e_ => (Kd.R_ne HO_8.out BK211.out (by decide)) e_) hs_)); have n9_ := zK (hb); clear HO_6; clear HO_8; clear HO_10; clear HO_12; clear HO_qf; clear HO_qh; clear BK202; clear BK203; clear BK211; clear HB; have HO_6 := n0_; have HO_8 := n1_; have HO_10 := n2_; have HO_12 := n3_; have HO_qf := n4_; have HO_qh := n5_; have BK202 := n6_; have BK203 := n7_; have BK211 := n8_; have HB := n9_; clear n0_ n1_ n2_ n3_ n4_ n5_ n6_ n7_ n8_ n9_; (try clear hb); (try clear hkp); (try clear hy0); have hnb149 := NB203_202.out; have hnc149 := NB202_203.out; have hnb150 := NB203_211.out; have hnc150 := NB211_203.out; have hcz151_0 : w148.cell? ⟨gb203, 0, none⟩ = some (.int .i64 a1_0) := (zQ BK203.out 0).trans rfl; have hcz151_1 : w148.cell? ⟨gb203, 1, none⟩ = some (.int .i64 a1_1) := (zQ BK203.out 1).trans rfl; have hfz151_0 := zR BK203.out 0; have hfz151_1 := zR BK203.out 1) | ((with_reducible refine gate_callee (f := 22) rfl ?_); refine goesL_ (some 93) rfl rfl Try.func22 (by kernel_rfl) rfl #[.agg #[.int .i64 a1_0, .int .i64 a1_1]] rfl zt ?_; (with_reducible refine (tollbarref1_SpanMay.calls a1_0 a1_1 false _ A55.out).mono ?_); rintro e w152 ⟨rfl, hb⟩; refine ⟨_, rfl, ?_⟩; have n0_ := zK (zO (zr HO_6.out) hb); have n1_ := zK (zO (zr HO_8.out) hb); have n2_ := zK (zO (zr HO_10.out) hb); have n3_ := zK (Kd.V_below (zv HO_12.out) hb); have n4_ := zK (zO (zr HO_qf.out) hb); have n5_ := zK (zO (zr HO_qh.out) hb); have n6_ := zK (zP (g := gb202) (o := .cells #[.slice A0_0 l0_0.length c0_0, .int .i64 a0_1, .slice A0_2 l0_2.length c0_2] 25 (0, 0)) (zb BK202.out) hb); have n7_ := zK (zP (g := gb203) (o := .cells #[.int .i64 a1_0, .int .i64 a1_1] 27 (0, 0)) (zb BK203.out) hb); have n8_ := zK (zP (g := gb211) (o := .cells #[.slice Ao15 t204.length co15, .int .i64 t207, .slice Ao19 t208.length co19] 25 (0, 0)) (zb BK211.out) hb); have n9_ := zK (yF (zl HB.out) hb); clear HO_6; clear HO_8; clear HO_10; clear HO_12; clear HO_qf; clear HO_qh; clear BK202; clear BK203; clear BK211; clear HB; have HO_6 := n0_; have HO_8 := n1_; have HO_10 := n2_; have HO_12 := n3_; have HO_qf := n4_; have HO_qh := n5_; have BK202 := n6_; have BK203 := n7_; have BK211 := n8_; have HB := n9_; clear n0_ n1_ n2_ n3_ n4_ n5_ n6_ n7_ n8_ n9_; (try clear hb); (try clear hb2); (try clear hk); (try clear hi)) | ((with_reducible refine gate_callee (f := 18) rfl ?_); refine goesL_ (some 95) rfl rfl Try.func18 (by kernel_rfl) rfl #[] rfl zt ?_; (with_reducible refine (tollbarlaw17_awake.calls  true _ A108.out).mono ?_); rintro e w153 ⟨rfl, hb⟩; refine ⟨_, rfl, ?_⟩; have n0_ := zK (zO (zr HO_6.out) hb); have n1_ := zK (zO (zr HO_8.out) hb); have n2_ := zK (zO (zr HO_10.out) hb); have n3_ := zK (Kd.V_below (zv HO_12.out) hb); have n4_ := zK (zO (zr HO_qf.out) hb); have n5_ := zK (zO (zr HO_qh.out) hb); have n6_ := zK (zP (g := gb202) (o := .cells #[.slice A0_0 l0_0.length c0_0, .int .i64 a0_1, .slice A0_2 l0_2.length c0_2] 25 (0, 0)) (zb BK202.out) hb); have n7_ := zK (zP (g := gb203) (o := .cells #[.int .i64 a1_0, .int .i64 a1_1] 27 (0, 0)) (zb BK203.out) hb); have n8_ := zK (zP (g := gb211) (o := .cells #[.slice Ao15 t204.length co15, .int .i64 t207, .slice Ao19 t208.length co19] 25 (0, 0)) (zb BK211.out) hb); have n9_ := zK (yF (zl HB.out) hb); clear HO_6; clear HO_8; clear HO_10; clear HO_12; clear HO_qf; clear HO_qh; clear BK202; clear BK203; clear BK211; clear HB; have HO_6 := n0_; have HO_8 := n1_; have HO_10 := n2_; have HO_12 := n3_; have HO_qf := n4_; have HO_qh := n5_; have BK202 := n6_; have BK203 := n7_; have BK211 := n8_; have HB := n9_; clear n0_ n1_ n2_ n3_ n4_ n5_ n6_ n7_ n8_ n9_; (try clear hb); (try clear hb2); (try clear hk); (try clear hi)) | (go_at_call 19; (with_reducible refine (tollbarlaw0_Num.calls t223 t239 _ A110.out).mono ?_); rintro e w' ⟨rfl, ⟨nd, rfl⟩⟩) | (go_at_call 19; (with_reducible refine (tollbarlaw0_Num.calls t227 t240 _ A112.out).mono ?_); rintro e w' ⟨rfl, ⟨nd, rfl⟩⟩))
            go_ret
            exact ⟨ze, zl HB.out⟩
          ·rw [if_neg c111] at H
           have c111b0 : (t239 == 1700) = false := yK.mpr c111
           have c111b1 : (t239 != 1700) = true := yL.mpr c111
           obtain rfl := Option.some.inj H
           obtain ⟨Ao154, co154, eo154⟩ := yE HO_8.out
           subst eo154
           go_wp2_with (first | ((with_reducible refine gate_callee (f := 21) rfl ?_); refine goesL_ (some 91) rfl rfl Try.func21 (by kernel_rfl) rfl #[.slice Ao154 t216.length co154] rfl zt ?_; (with_reducible refine (tollbarlaw0_SpoilItems.calls kj46 (fun k_ => some k_ = (.slice Ao154 t216.length co154 : Value).ownBlock) (.slice Ao154 t216.length co154) t216 t236 w _ ?side1 ?side2 A54.out).mono ?_); (case side1 => repeat (first | (with_reducible first | exact HB.out | apply zG | apply zH | apply zI | refine zL ?_ GE202.out | refine zL ?_ GE203.out | refine zL ?_ GE211.out) | exact HB.out)); (case side2 => exact Kd.R_tight rfl HO_8.out); rintro e w155 ⟨rfl, hy0, hb, hkp⟩; refine ⟨_, rfl, ?_⟩; have n0_ := zK (Kd.R_mono (ok' := fun k_ => some k_ ≠ (.slice Ao154 t216.length co154 : Value).ownBlock ∧ some k_ ≠ (v221 : Value).ownBlock) (Kd.R_keptB (HO_6.out) hkp (fun k_ hk_ hs_ => (hk_.1) hs_)) (fun k_ hk_ => ⟨hk_.1.1, hk_.1.2⟩)); have n1_ := zK (Kd.R_reok rfl hy0 (fun k_ e_ => HO_8.out.1 k_ e_)); have n2_ := zK (Kd.R_mono (ok' := fun k_ => some k_ ≠ (v213 : Value).ownBlock ∧ some k_ ≠ (.slice Ao154 t216.length co154 : Value).ownBlock) (Kd.R_keptB (HO_10.out) hkp (fun k_ hk_ hs_ => (hk_.2) hs_)) (fun k_ hk_ => ⟨hk_.1.1, hk_.1.2⟩)); have n3_ := zK (Kd.V_mono (ok' := fun k_ => some k_ ≠ (v213 : Value).ownBlock ∧ some k_ ≠ (.slice Ao154 t216.length co154 : Value).ownBlock ∧ some k_ ≠ (v221 : Value).ownBlock ∧ some k_ ≠ (.slice Ao15 t204.length co15 : Value).ownBlock ∧ some k_ ≠ (.slice Ao19 t208.length co19 : Value).ownBlock ∧ k_ ≠ gb202 ∧ k_ ≠ gb203 ∧ k_ ≠ gb211) (Kd.V_keptB (HO_12.out) hkp (fun k_ hk_ hs_ => (hk_.2.1) hs_)) (fun k_ hk_ => ⟨hk_.1.1, hk_.1.2.1, hk_.1.2.2.1, hk_.1.2.2.2.1, hk_.1.2.2.2.2.1, hk_.1.2.2.2.2.2.1, hk_.1.2.2.2.2.2.2.1, hk_.1.2.2.2.2.2.2.2⟩)); have n4_ := zK (Kd.R_mono (ok' := fun k_ => True) (Kd.R_keptB ((Kd.R_apart' HO_qf.out (Kd.R_typed HO_8.out) (by decide))) hkp (fun k_ hk_ hs_ => (hk_.2) hs_)) (fun k_ hk_ => trivial)); have n5_ := zK (Kd.R_mono (ok' := fun k_ => True) (Kd.R_keptB ((Kd.R_apart' HO_qh.out (Kd.R_typed HO_8.out) (by decide))) hkp (fun k_ hk_ hs_ => (hk_.2) hs_)) (fun k_ hk_ => trivial)); have n6_ := zK (blk_kept (zb BK202.out) hkp (fun hs_ => (fun e_ => (Kd.R_ne HO_8.out BK202.out (by decide)) e_) hs_)); have n7_ := zK (blk_kept (zb BK203.out) hkp (fun hs_ => (fun e_ => (Kd.R_ne HO_8.out BK203.out (by decide)) e_) hs_)); have n8_ := zK (blk_kept (zb BK211.out) hkp (fun hs_ => (fun e_ => (Kd.R_ne HO_8.out BK211.out (by decide)) e_) hs_)); have n9_ := zK (hb); clear HO_6; clear HO_8; clear HO_10; clear HO_12; clear HO_qf; clear HO_qh; clear BK202; clear BK203; clear BK211; clear HB; have HO_6 := n0_; have HO_8 := n1_; have HO_10 := n2_; have HO_12 := n3_; have HO_qf := n4_; have HO_qh := n5_; have BK202 := n6_; have BK203 := n7_; have BK211 := n8_; have HB := n9_; clear n0_ n1_ n2_ n3_ n4_ n5_ n6_ n7_ n8_ n9_; (try clear hb); (try clear hkp); (try clear hy0); have hnb156 := NB203_202.out; have hnc156 := NB202_203.out; have hnb157 := NB203_211.out; have hnc157 := NB211_203.out; have hcz158_0 : w155.cell? ⟨gb203, 0, none⟩ = some (.int .i64 a1_0) := (zQ BK203.out 0).trans rfl; have hcz158_1 : w155.cell? ⟨gb203, 1, none⟩ = some (.int .i64 a1_1) := (zQ BK203.out 1).trans rfl; have hfz158_0 := zR BK203.out 0; have hfz158_1 := zR BK203.out 1) | ((with_reducible refine gate_callee (f := 22) rfl ?_); refine goesL_ (some 93) rfl rfl Try.func22 (by kernel_rfl) rfl #[.agg #[.int .i64 a1_0, .int .i64 a1_1]] rfl zt ?_; (with_reducible refine (tollbarref1_SpanMay.calls a1_0 a1_1 false _ A55.out).mono ?_); rintro e w159 ⟨rfl, hb⟩; refine ⟨_, rfl, ?_⟩; have n0_ := zK (zO (zr HO_6.out) hb); have n1_ := zK (zO (zr HO_8.out) hb); have n2_ := zK (zO (zr HO_10.out) hb); have n3_ := zK (Kd.V_below (zv HO_12.out) hb); have n4_ := zK (zO (zr HO_qf.out) hb); have n5_ := zK (zO (zr HO_qh.out) hb); have n6_ := zK (zP (g := gb202) (o := .cells #[.slice A0_0 l0_0.length c0_0, .int .i64 a0_1, .slice A0_2 l0_2.length c0_2] 25 (0, 0)) (zb BK202.out) hb); have n7_ := zK (zP (g := gb203) (o := .cells #[.int .i64 a1_0, .int .i64 a1_1] 27 (0, 0)) (zb BK203.out) hb); have n8_ := zK (zP (g := gb211) (o := .cells #[.slice Ao15 t204.length co15, .int .i64 t207, .slice Ao19 t208.length co19] 25 (0, 0)) (zb BK211.out) hb); have n9_ := zK (yF (zl HB.out) hb); clear HO_6; clear HO_8; clear HO_10; clear HO_12; clear HO_qf; clear HO_qh; clear BK202; clear BK203; clear BK211; clear HB; have HO_6 := n0_; have HO_8 := n1_; have HO_10 := n2_; have HO_12 := n3_; have HO_qf := n4_; have HO_qh := n5_; have BK202 := n6_; have BK203 := n7_; have BK211 := n8_; have HB := n9_; clear n0_ n1_ n2_ n3_ n4_ n5_ n6_ n7_ n8_ n9_; (try clear hb); (try clear hb2); (try clear hk); (try clear hi)) | ((with_reducible refine gate_callee (f := 18) rfl ?_); refine goesL_ (some 95) rfl rfl Try.func18 (by kernel_rfl) rfl #[] rfl zt ?_; (with_reducible refine (tollbarlaw17_awake.calls  true _ A108.out).mono ?_); rintro e w160 ⟨rfl, hb⟩; refine ⟨_, rfl, ?_⟩; have n0_ := zK (zO (zr HO_6.out) hb); have n1_ := zK (zO (zr HO_8.out) hb); have n2_ := zK (zO (zr HO_10.out) hb); have n3_ := zK (Kd.V_below (zv HO_12.out) hb); have n4_ := zK (zO (zr HO_qf.out) hb); have n5_ := zK (zO (zr HO_qh.out) hb); have n6_ := zK (zP (g := gb202) (o := .cells #[.slice A0_0 l0_0.length c0_0, .int .i64 a0_1, .slice A0_2 l0_2.length c0_2] 25 (0, 0)) (zb BK202.out) hb); have n7_ := zK (zP (g := gb203) (o := .cells #[.int .i64 a1_0, .int .i64 a1_1] 27 (0, 0)) (zb BK203.out) hb); have n8_ := zK (zP (g := gb211) (o := .cells #[.slice Ao15 t204.length co15, .int .i64 t207, .slice Ao19 t208.length co19] 25 (0, 0)) (zb BK211.out) hb); have n9_ := zK (yF (zl HB.out) hb); clear HO_6; clear HO_8; clear HO_10; clear HO_12; clear HO_qf; clear HO_qh; clear BK202; clear BK203; clear BK211; clear HB; have HO_6 := n0_; have HO_8 := n1_; have HO_10 := n2_; have HO_12 := n3_; have HO_qf := n4_; have HO_qh := n5_; have BK202 := n6_; have BK203 := n7_; have BK211 := n8_; have HB := n9_; clear n0_ n1_ n2_ n3_ n4_ n5_ n6_ n7_ n8_ n9_; (try clear hb); (try clear hb2); (try clear hk); (try clear hi)) | (go_at_call 19; (with_reducible refine (tollbarlaw0_Num.calls t223 t239 _ A110.out).mono ?_); rintro e w' ⟨rfl, ⟨nd, rfl⟩⟩))
           go_ret
           exact ⟨ze, zl HB.out⟩
         ·replace c109 := Bool.eq_false_iff.mpr c109
          subst c109
          have H1 : (some false) = some r := by rw [if_neg (show ¬ (false = true) by decide)] at H; exact H
          clear H
          have H := H1
          clear H1
          obtain rfl := Option.some.inj H
          obtain ⟨Ao161, co161, eo161⟩ := yE HO_8.out
          subst eo161
          go_wp2_with (first | ((with_reducible refine gate_callee (f := 21) rfl ?_); refine goesL_ (some 91) rfl rfl Try.func21 (by kernel_rfl) rfl #[.slice Ao161 t216.length co161] rfl zt ?_; (with_reducible refine (tollbarlaw0_SpoilItems.calls kj46 (fun k_ => some k_ = (.slice Ao161 t216.length co161 : Value).ownBlock) (.slice Ao161 t216.length co161) t216 t236 w _ ?side1 ?side2 A54.out).mono ?_); (case side1 => repeat (first | (with_reducible first | exact HB.out | apply zG | apply zH | apply zI | refine zL ?_ GE202.out | refine zL ?_ GE203.out | refine zL ?_ GE211.out) | exact HB.out)); (case side2 => exact Kd.R_tight rfl HO_8.out); rintro e w162 ⟨rfl, hy0, hb, hkp⟩; refine ⟨_, rfl, ?_⟩; have n0_ := zK (Kd.R_mono (ok' := fun k_ => some k_ ≠ (.slice Ao161 t216.length co161 : Value).ownBlock ∧ some k_ ≠ (v221 : Value).ownBlock) (Kd.R_keptB (HO_6.out) hkp (fun k_ hk_ hs_ => (hk_.1) hs_)) (fun k_ hk_ => ⟨hk_.1.1, hk_.1.2⟩)); have n1_ := zK (Kd.R_reok rfl hy0 (fun k_ e_ => HO_8.out.1 k_ e_)); have n2_ := zK (Kd.R_mono (ok' := fun k_ => some k_ ≠ (v213 : Value).ownBlock ∧ some k_ ≠ (.slice Ao161 t216.length co161 : Value).ownBlock) (Kd.R_keptB (HO_10.out) hkp (fun k_ hk_ hs_ => (hk_.2) hs_)) (fun k_ hk_ => ⟨hk_.1.1, hk_.1.2⟩)); have n3_ := zK (Kd.V_mono (ok' := fun k_ => some k_ ≠ (v213 : Value).ownBlock ∧ some k_ ≠ (.slice Ao161 t216.length co161 : Value).ownBlock ∧ some k_ ≠ (v221 : Value).ownBlock ∧ some k_ ≠ (.slice Ao15 t204.length co15 : Value).ownBlock ∧ some k_ ≠ (.slice Ao19 t208.length co19 : Value).ownBlock ∧ k_ ≠ gb202 ∧ k_ ≠ gb203 ∧ k_ ≠ gb211) (Kd.V_keptB (HO_12.out) hkp (fun k_ hk_ hs_ => (hk_.2.1) hs_)) (fun k_ hk_ => ⟨hk_.1.1, hk_.1.2.1, hk_.1.2.2.1, hk_.1.2.2.2.1, hk_.1.2.2.2.2.1, hk_.1.2.2.2.2.2.1, hk_.1.2.2.2.2.2.2.1, hk_.1.2.2.2.2.2.2.2⟩)); have n4_ := zK (Kd.R_mono (ok' := fun k_ => True) (Kd.R_keptB ((Kd.R_apart' HO_qf.out (Kd.R_typed HO_8.out) (by decide))) hkp (fun k_ hk_ hs_ => (hk_.2) hs_)) (fun k_ hk_ => trivial)); have n5_ := zK (Kd.R_mono (ok' := fun k_ => True) (Kd.R_keptB ((Kd.R_apart' HO_qh.out (Kd.R_typed HO_8.out) (by decide))) hkp (fun k_ hk_ hs_ => (hk_.2) hs_)) (fun k_ hk_ => trivial)); have n6_ := zK (blk_kept (zb BK202.out) hkp (fun hs_ => (fun e_ => (Kd.R_ne HO_8.out BK202.out (by decide)) e_) hs_)); have n7_ := zK (blk_kept (zb BK203.out) hkp (fun hs_ => (fun e_ => (Kd.R_ne HO_8.out BK203.out (by decide)) e_) hs_)); have n8_ := zK (blk_kept (zb BK211.out) hkp (fun hs_ => (fun e_ => (Kd.R_ne HO_8.out BK211.out (by decide)) e_) hs_)); have n9_ := zK (hb); clear HO_6; clear HO_8; clear HO_10; clear HO_12; clear HO_qf; clear HO_qh; clear BK202; clear BK203; clear BK211; clear HB; have HO_6 := n0_; have HO_8 := n1_; have HO_10 := n2_; have HO_12 := n3_; have HO_qf := n4_; have HO_qh := n5_; have BK202 := n6_; have BK203 := n7_; have BK211 := n8_; have HB := n9_; clear n0_ n1_ n2_ n3_ n4_ n5_ n6_ n7_ n8_ n9_; (try clear hb); (try clear hkp); (try clear hy0); have hnb163 := NB203_202.out; have hnc163 := NB202_203.out; have hnb164 := NB203_211.out; have hnc164 := NB211_203.out; have hcz165_0 : w162.cell? ⟨gb203, 0, none⟩ = some (.int .i64 a1_0) := (zQ BK203.out 0).trans rfl; have hcz165_1 : w162.cell? ⟨gb203, 1, none⟩ = some (.int .i64 a1_1) := (zQ BK203.out 1).trans rfl; have hfz165_0 := zR BK203.out 0; have hfz165_1 := zR BK203.out 1) | ((with_reducible refine gate_callee (f := 22) rfl ?_); refine goesL_ (some 93) rfl rfl Try.func22 (by kernel_rfl) rfl #[.agg #[.int .i64 a1_0, .int .i64 a1_1]] rfl zt ?_; (with_reducible refine (tollbarref1_SpanMay.calls a1_0 a1_1 false _ A55.out).mono ?_); rintro e w166 ⟨rfl, hb⟩; refine ⟨_, rfl, ?_⟩; have n0_ := zK (zO (zr HO_6.out) hb); have n1_ := zK (zO (zr HO_8.out) hb); have n2_ := zK (zO (zr HO_10.out) hb); have n3_ := zK (Kd.V_below (zv HO_12.out) hb); have n4_ := zK (zO (zr HO_qf.out) hb); have n5_ := zK (zO (zr HO_qh.out) hb); have n6_ := zK (zP (g := gb202) (o := .cells #[.slice A0_0 l0_0.length c0_0, .int .i64 a0_1, .slice A0_2 l0_2.length c0_2] 25 (0, 0)) (zb BK202.out) hb); have n7_ := zK (zP (g := gb203) (o := .cells #[.int .i64 a1_0, .int .i64 a1_1] 27 (0, 0)) (zb BK203.out) hb); have n8_ := zK (zP (g := gb211) (o := .cells #[.slice Ao15 t204.length co15, .int .i64 t207, .slice Ao19 t208.length co19] 25 (0, 0)) (zb BK211.out) hb); have n9_ := zK (yF (zl HB.out) hb); clear HO_6; clear HO_8; clear HO_10; clear HO_12; clear HO_qf; clear HO_qh; clear BK202; clear BK203; clear BK211; clear HB; have HO_6 := n0_; have HO_8 := n1_; have HO_10 := n2_; have HO_12 := n3_; have HO_qf := n4_; have HO_qh := n5_; have BK202 := n6_; have BK203 := n7_; have BK211 := n8_; have HB := n9_; clear n0_ n1_ n2_ n3_ n4_ n5_ n6_ n7_ n8_ n9_; (try clear hb); (try clear hb2); (try clear hk); (try clear hi)) | ((with_reducible refine gate_callee (f := 18) rfl ?_); refine goesL_ (some 95) rfl rfl Try.func18 (by kernel_rfl) rfl #[] rfl zt ?_; (with_reducible refine (tollbarlaw17_awake.calls  false _ A108.out).mono ?_); rintro e w167 ⟨rfl, hb⟩; refine ⟨_, rfl, ?_⟩; have n0_ := zK (zO (zr HO_6.out) hb); have n1_ := zK (zO (zr HO_8.out) hb); have n2_ := zK (zO (zr HO_10.out) hb); have n3_ := zK (Kd.V_below (zv HO_12.out) hb); have n4_ := zK (zO (zr HO_qf.out) hb); have n5_ := zK (zO (zr HO_qh.out) hb); have n6_ := zK (zP (g := gb202) (o := .cells #[.slice A0_0 l0_0.length c0_0, .int .i64 a0_1, .slice A0_2 l0_2.length c0_2] 25 (0, 0)) (zb BK202.out) hb); have n7_ := zK (zP (g := gb203) (o := .cells #[.int .i64 a1_0, .int .i64 a1_1] 27 (0, 0)) (zb BK203.out) hb); have n8_ := zK (zP (g := gb211) (o := .cells #[.slice Ao15 t204.length co15, .int .i64 t207, .slice Ao19 t208.length co19] 25 (0, 0)) (zb BK211.out) hb); have n9_ := zK (yF (zl HB.out) hb); clear HO_6; clear HO_8; clear HO_10; clear HO_12; clear HO_qf; clear HO_qh; clear BK202; clear BK203; clear BK211; clear HB; have HO_6 := n0_; have HO_8 := n1_; have HO_10 := n2_; have HO_12 := n3_; have HO_qf := n4_; have HO_qh := n5_; have BK202 := n6_; have BK203 := n7_; have BK211 := n8_; have HB := n9_; clear n0_ n1_ n2_ n3_ n4_ n5_ n6_ n7_ n8_ n9_; (try clear hb); (try clear hb2); (try clear hk); (try clear hi)))
          go_ret
          exact ⟨ze, zl HB.out⟩
    ·replace c46 := Bool.eq_false_iff.mpr c46
     subst c46
     have H1 : ((tollbarlaw17_awake.f).bind fun t230 => (if t230 = true then ((tollbarlaw0_Num.f t219).bind fun t231 => (if t231 = 1700 then ((tollbarlaw0_Num.f t223).bind fun t232 => (if t232 = 1700 then ((tollbarlaw0_Num.f t227).bind fun t233 => (if t233 = 1700 then (if (t216.length : Int) = 0 then (if (t220.length : Int) = 0 then (some ((t224.length : Int) == 0)) else (some false)) else (some false)) else (some false))) else (some false))) else (some false))) else (some false))) = some r := by rw [if_neg (show ¬ (false = true) by decide)] at H; exact H
     clear H
     have H := H1
     clear H1
     replace H := yH.mp H
     obtain ⟨t230, A1680, H⟩ := H
     replace H : (if t230 = true then ((tollbarlaw0_Num.f t219).bind fun t231 => (if t231 = 1700 then ((tollbarlaw0_Num.f t223).bind fun t232 => (if t232 = 1700 then ((tollbarlaw0_Num.f t227).bind fun t233 => (if t233 = 1700 then (if (t216.length : Int) = 0 then (if (t220.length : Int) = 0 then (some ((t224.length : Int) == 0)) else (some false)) else (some false)) else (some false))) else (some false))) else (some false))) else (some false)) = some r := H
     have A168 := zK A1680
     clear A1680
     by_cases c169 : t230 = true
     ·subst c169
      have H1 : ((tollbarlaw0_Num.f t219).bind fun t231 => (if t231 = 1700 then ((tollbarlaw0_Num.f t223).bind fun t232 => (if t232 = 1700 then ((tollbarlaw0_Num.f t227).bind fun t233 => (if t233 = 1700 then (if (t216.length : Int) = 0 then (if (t220.length : Int) = 0 then (some ((t224.length : Int) == 0)) else (some false)) else (some false)) else (some false))) else (some false))) else (some false))) = some r := by rw [if_pos rfl] at H; exact H
      clear H
      have H := H1
      clear H1
      replace H := yH.mp H
      obtain ⟨t231, A1700, H⟩ := H
      replace H : (if t231 = 1700 then ((tollbarlaw0_Num.f t223).bind fun t232 => (if t232 = 1700 then ((tollbarlaw0_Num.f t227).bind fun t233 => (if t233 = 1700 then (if (t216.length : Int) = 0 then (if (t220.length : Int) = 0 then (some ((t224.length : Int) == 0)) else (some false)) else (some false)) else (some false))) else (some false))) else (some false)) = some r := H
      have A170 := zK A1700
      clear A1700
      by_cases c171 : t231 = 1700
      ·rw [if_pos c171] at H
       have c171b0 : (t231 == 1700) = true := yI.mpr c171
       have c171b1 : (t231 != 1700) = false := yJ.mpr c171
       clear c171
       replace H := yH.mp H
       obtain ⟨t232, A1720, H⟩ := H
       replace H : (if t232 = 1700 then ((tollbarlaw0_Num.f t227).bind fun t233 => (if t233 = 1700 then (if (t216.length : Int) = 0 then (if (t220.length : Int) = 0 then (some ((t224.length : Int) == 0)) else (some false)) else (some false)) else (some false))) else (some false)) = some r := H
       have A172 := zK A1720
       clear A1720
       by_cases c173 : t232 = 1700
       ·rw [if_pos c173] at H
        have c173b0 : (t232 == 1700) = true := yI.mpr c173
        have c173b1 : (t232 != 1700) = false := yJ.mpr c173
        clear c173
        replace H := yH.mp H
        obtain ⟨t233, A1740, H⟩ := H
        replace H : (if t233 = 1700 then (if (t216.length : Int) = 0 then (if (t220.length : Int) = 0 then (some ((t224.length : Int) == 0)) else (some false)) else (some false)) else (some false)) = some r := H
        have A174 := zK A1740
        clear A1740
        by_cases c175 : t233 = 1700
        ·rw [if_pos c175] at H
         have c175b0 : (t233 == 1700) = true := yI.mpr c175
         have c175b1 : (t233 != 1700) = false := yJ.mpr c175
         clear c175
         by_cases c176 : (t216.length : Int) = 0
         ·rw [if_pos c176] at H
          have c176b0 : ((t216.length : Int) == 0) = true := yI.mpr c176
          have c176b1 : ((t216.length : Int) != 0) = false := yJ.mpr c176
          clear c176
          by_cases c177 : (t220.length : Int) = 0
          ·rw [if_pos c177] at H
           have c177b0 : ((t220.length : Int) == 0) = true := yI.mpr c177
           have c177b1 : ((t220.length : Int) != 0) = false := yJ.mpr c177
           clear c177
           obtain rfl := Option.some.inj H
           go_wp2_with (first | ((with_reducible refine gate_callee (f := 18) rfl ?_); refine goesL_ (some 50) rfl rfl Try.func18 (by kernel_rfl) rfl #[] rfl zt ?_; (with_reducible refine (tollbarlaw17_awake.calls  true _ A168.out).mono ?_); rintro e w178 ⟨rfl, hb⟩; refine ⟨_, rfl, ?_⟩; have n0_ := zK (zO (zr HO_6.out) hb); have n1_ := zK (zO (zr HO_8.out) hb); have n2_ := zK (zO (zr HO_10.out) hb); have n3_ := zK (Kd.V_below (zv HO_12.out) hb); have n4_ := zK (zO (zr HO_qf.out) hb); have n5_ := zK (zO (zr HO_qh.out) hb); have n6_ := zK (zP (g := gb202) (o := .cells #[.slice A0_0 l0_0.length c0_0, .int .i64 a0_1, .slice A0_2 l0_2.length c0_2] 25 (0, 0)) (zb BK202.out) hb); have n7_ := zK (zP (g := gb203) (o := .cells #[.int .i64 a1_0, .int .i64 a1_1] 27 (0, 0)) (zb BK203.out) hb); have n8_ := zK (zP (g := gb211) (o := .cells #[.slice Ao15 t204.length co15, .int .i64 t207, .slice Ao19 t208.length co19] 25 (0, 0)) (zb BK211.out) hb); have n9_ := zK (yF (zl HB.out) hb); clear HO_6; clear HO_8; clear HO_10; clear HO_12; clear HO_qf; clear HO_qh; clear BK202; clear BK203; clear BK211; clear HB; have HO_6 := n0_; have HO_8 := n1_; have HO_10 := n2_; have HO_12 := n3_; have HO_qf := n4_; have HO_qh := n5_; have BK202 := n6_; have BK203 := n7_; have BK211 := n8_; have HB := n9_; clear n0_ n1_ n2_ n3_ n4_ n5_ n6_ n7_ n8_ n9_; (try clear hb); (try clear hb2); (try clear hk); (try clear hi)) | (go_at_call 19; (with_reducible refine (tollbarlaw0_Num.calls t219 t231 _ A170.out).mono ?_); rintro e w' ⟨rfl, ⟨nd, rfl⟩⟩) | (go_at_call 19; (with_reducible refine (tollbarlaw0_Num.calls t223 t232 _ A172.out).mono ?_); rintro e w' ⟨rfl, ⟨nd, rfl⟩⟩) | (go_at_call 19; (with_reducible refine (tollbarlaw0_Num.calls t227 t233 _ A174.out).mono ?_); rintro e w' ⟨rfl, ⟨nd, rfl⟩⟩; obtain ⟨Ao179, co179, eo179⟩ := yE HO_8.out; subst eo179; obtain ⟨Ao180, co180, eo180⟩ := yE HO_10.out; subst eo180; obtain ⟨Ao181, co181, eo181⟩ := Kd.V_slice HO_12.out; subst eo181))
           go_ret
           exact ⟨ze, zl HB.out⟩
          ·rw [if_neg c177] at H
           have c177b0 : ((t220.length : Int) == 0) = false := yK.mpr c177
           have c177b1 : ((t220.length : Int) != 0) = true := yL.mpr c177
           have c177b2 : ¬ (t220 = []) := fun h_ => c177 (by rw [h_]; rfl)
           obtain rfl := Option.some.inj H
           go_wp2_with (first | ((with_reducible refine gate_callee (f := 18) rfl ?_); refine goesL_ (some 50) rfl rfl Try.func18 (by kernel_rfl) rfl #[] rfl zt ?_; (with_reducible refine (tollbarlaw17_awake.calls  true _ A168.out).mono ?_); rintro e w182 ⟨rfl, hb⟩; refine ⟨_, rfl, ?_⟩; have n0_ := zK (zO (zr HO_6.out) hb); have n1_ := zK (zO (zr HO_8.out) hb); have n2_ := zK (zO (zr HO_10.out) hb); have n3_ := zK (Kd.V_below (zv HO_12.out) hb); have n4_ := zK (zO (zr HO_qf.out) hb); have n5_ := zK (zO (zr HO_qh.out) hb); have n6_ := zK (zP (g := gb202) (o := .cells #[.slice A0_0 l0_0.length c0_0, .int .i64 a0_1, .slice A0_2 l0_2.length c0_2] 25 (0, 0)) (zb BK202.out) hb); have n7_ := zK (zP (g := gb203) (o := .cells #[.int .i64 a1_0, .int .i64 a1_1] 27 (0, 0)) (zb BK203.out) hb); have n8_ := zK (zP (g := gb211) (o := .cells #[.slice Ao15 t204.length co15, .int .i64 t207, .slice Ao19 t208.length co19] 25 (0, 0)) (zb BK211.out) hb); have n9_ := zK (yF (zl HB.out) hb); clear HO_6; clear HO_8; clear HO_10; clear HO_12; clear HO_qf; clear HO_qh; clear BK202; clear BK203; clear BK211; clear HB; have HO_6 := n0_; have HO_8 := n1_; have HO_10 := n2_; have HO_12 := n3_; have HO_qf := n4_; have HO_qh := n5_; have BK202 := n6_; have BK203 := n7_; have BK211 := n8_; have HB := n9_; clear n0_ n1_ n2_ n3_ n4_ n5_ n6_ n7_ n8_ n9_; (try clear hb); (try clear hb2); (try clear hk); (try clear hi)) | (go_at_call 19; (with_reducible refine (tollbarlaw0_Num.calls t219 t231 _ A170.out).mono ?_); rintro e w' ⟨rfl, ⟨nd, rfl⟩⟩) | (go_at_call 19; (with_reducible refine (tollbarlaw0_Num.calls t223 t232 _ A172.out).mono ?_); rintro e w' ⟨rfl, ⟨nd, rfl⟩⟩) | (go_at_call 19; (with_reducible refine (tollbarlaw0_Num.calls t227 t233 _ A174.out).mono ?_); rintro e w' ⟨rfl, ⟨nd, rfl⟩⟩; obtain ⟨Ao183, co183, eo183⟩ := yE HO_8.out; subst eo183; obtain ⟨Ao184, co184, eo184⟩ := yE HO_10.out; subst eo184))
           go_ret
           exact ⟨ze, zl HB.out⟩
         ·rw [if_neg c176] at H
          have c176b0 : ((t216.length : Int) == 0) = false := yK.mpr c176
          have c176b1 : ((t216.length : Int) != 0) = true := yL.mpr c176
          have c176b2 : ¬ (t216 = []) := fun h_ => c176 (by rw [h_]; rfl)
          obtain rfl := Option.some.inj H
          go_wp2_with (first | ((with_reducible refine gate_callee (f := 18) rfl ?_); refine goesL_ (some 50) rfl rfl Try.func18 (by kernel_rfl) rfl #[] rfl zt ?_; (with_reducible refine (tollbarlaw17_awake.calls  true _ A168.out).mono ?_); rintro e w185 ⟨rfl, hb⟩; refine ⟨_, rfl, ?_⟩; have n0_ := zK (zO (zr HO_6.out) hb); have n1_ := zK (zO (zr HO_8.out) hb); have n2_ := zK (zO (zr HO_10.out) hb); have n3_ := zK (Kd.V_below (zv HO_12.out) hb); have n4_ := zK (zO (zr HO_qf.out) hb); have n5_ := zK (zO (zr HO_qh.out) hb); have n6_ := zK (zP (g := gb202) (o := .cells #[.slice A0_0 l0_0.length c0_0, .int .i64 a0_1, .slice A0_2 l0_2.length c0_2] 25 (0, 0)) (zb BK202.out) hb); have n7_ := zK (zP (g := gb203) (o := .cells #[.int .i64 a1_0, .int .i64 a1_1] 27 (0, 0)) (zb BK203.out) hb); have n8_ := zK (zP (g := gb211) (o := .cells #[.slice Ao15 t204.length co15, .int .i64 t207, .slice Ao19 t208.length co19] 25 (0, 0)) (zb BK211.out) hb); have n9_ := zK (yF (zl HB.out) hb); clear HO_6; clear HO_8; clear HO_10; clear HO_12; clear HO_qf; clear HO_qh; clear BK202; clear BK203; clear BK211; clear HB; have HO_6 := n0_; have HO_8 := n1_; have HO_10 := n2_; have HO_12 := n3_; have HO_qf := n4_; have HO_qh := n5_; have BK202 := n6_; have BK203 := n7_; have BK211 := n8_; have HB := n9_; clear n0_ n1_ n2_ n3_ n4_ n5_ n6_ n7_ n8_ n9_; (try clear hb); (try clear hb2); (try clear hk); (try clear hi)) | (go_at_call 19; (with_reducible refine (tollbarlaw0_Num.calls t219 t231 _ A170.out).mono ?_); rintro e w' ⟨rfl, ⟨nd, rfl⟩⟩) | (go_at_call 19; (with_reducible refine (tollbarlaw0_Num.calls t223 t232 _ A172.out).mono ?_); rintro e w' ⟨rfl, ⟨nd, rfl⟩⟩) | (go_at_call 19; (with_reducible refine (tollbarlaw0_Num.calls t227 t233 _ A174.out).mono ?_); rintro e w' ⟨rfl, ⟨nd, rfl⟩⟩; obtain ⟨Ao186, co186, eo186⟩ := yE HO_8.out; subst eo186))
          go_ret
          exact ⟨ze, zl HB.out⟩
        ·rw [if_neg c175] at H
         have c175b0 : (t233 == 1700) = false := yK.mpr c175
         have c175b1 : (t233 != 1700) = true := yL.mpr c175
         obtain rfl := Option.some.inj H
         go_wp2_with (first | ((with_reducible refine gate_callee (f := 18) rfl ?_); refine goesL_ (some 50) rfl rfl Try.func18 (by kernel_rfl) rfl #[] rfl zt ?_; (with_reducible refine (tollbarlaw17_awake.calls  true _ A168.out).mono ?_); rintro e w187 ⟨rfl, hb⟩; refine ⟨_, rfl, ?_⟩; have n0_ := zK (zO (zr HO_6.out) hb); have n1_ := zK (zO (zr HO_8.out) hb); have n2_ := zK (zO (zr HO_10.out) hb); have n3_ := zK (Kd.V_below (zv HO_12.out) hb); have n4_ := zK (zO (zr HO_qf.out) hb); have n5_ := zK (zO (zr HO_qh.out) hb); have n6_ := zK (zP (g := gb202) (o := .cells #[.slice A0_0 l0_0.length c0_0, .int .i64 a0_1, .slice A0_2 l0_2.length c0_2] 25 (0, 0)) (zb BK202.out) hb); have n7_ := zK (zP (g := gb203) (o := .cells #[.int .i64 a1_0, .int .i64 a1_1] 27 (0, 0)) (zb BK203.out) hb); have n8_ := zK (zP (g := gb211) (o := .cells #[.slice Ao15 t204.length co15, .int .i64 t207, .slice Ao19 t208.length co19] 25 (0, 0)) (zb BK211.out) hb); have n9_ := zK (yF (zl HB.out) hb); clear HO_6; clear HO_8; clear HO_10; clear HO_12; clear HO_qf; clear HO_qh; clear BK202; clear BK203; clear BK211; clear HB; have HO_6 := n0_; have HO_8 := n1_; have HO_10 := n2_; have HO_12 := n3_; have HO_qf := n4_; have HO_qh := n5_; have BK202 := n6_; have BK203 := n7_; have BK211 := n8_; have HB := n9_; clear n0_ n1_ n2_ n3_ n4_ n5_ n6_ n7_ n8_ n9_; (try clear hb); (try clear hb2); (try clear hk); (try clear hi)) | (go_at_call 19; (with_reducible refine (tollbarlaw0_Num.calls t219 t231 _ A170.out).mono ?_); rintro e w' ⟨rfl, ⟨nd, rfl⟩⟩) | (go_at_call 19; (with_reducible refine (tollbarlaw0_Num.calls t223 t232 _ A172.out).mono ?_); rintro e w' ⟨rfl, ⟨nd, rfl⟩⟩) | (go_at_call 19; (with_reducible refine (tollbarlaw0_Num.calls t227 t233 _ A174.out).mono ?_); rintro e w' ⟨rfl, ⟨nd, rfl⟩⟩))
         go_ret
         exact ⟨ze, zl HB.out⟩
       ·rw [if_neg c173] at H
        have c173b0 : (t232 == 1700) = false := yK.mpr c173
        have c173b1 : (t232 != 1700) = true := yL.mpr c173
        obtain rfl := Option.some.inj H
        go_wp2_with (first | ((with_reducible refine gate_callee (f := 18) rfl ?_); refine goesL_ (some 50) rfl rfl Try.func18 (by kernel_rfl) rfl #[] rfl zt ?_; (with_reducible refine (tollbarlaw17_awake.calls  true _ A168.out).mono ?_); rintro e w188 ⟨rfl, hb⟩; refine ⟨_, rfl, ?_⟩; have n0_ := zK (zO (zr HO_6.out) hb); have n1_ := zK (zO (zr HO_8.out) hb); have n2_ := zK (zO (zr HO_10.out) hb); have n3_ := zK (Kd.V_below (zv HO_12.out) hb); have n4_ := zK (zO (zr HO_qf.out) hb); have n5_ := zK (zO (zr HO_qh.out) hb); have n6_ := zK (zP (g := gb202) (o := .cells #[.slice A0_0 l0_0.length c0_0, .int .i64 a0_1, .slice A0_2 l0_2.length c0_2] 25 (0, 0)) (zb BK202.out) hb); have n7_ := zK (zP (g := gb203) (o := .cells #[.int .i64 a1_0, .int .i64 a1_1] 27 (0, 0)) (zb BK203.out) hb); have n8_ := zK (zP (g := gb211) (o := .cells #[.slice Ao15 t204.length co15, .int .i64 t207, .slice Ao19 t208.length co19] 25 (0, 0)) (zb BK211.out) hb); have n9_ := zK (yF (zl HB.out) hb); clear HO_6; clear HO_8; clear HO_10; clear HO_12; clear HO_qf; clear HO_qh; clear BK202; clear BK203; clear BK211; clear HB; have HO_6 := n0_; have HO_8 := n1_; have HO_10 := n2_; have HO_12 := n3_; have HO_qf := n4_; have HO_qh := n5_; have BK202 := n6_; have BK203 := n7_; have BK211 := n8_; have HB := n9_; clear n0_ n1_ n2_ n3_ n4_ n5_ n6_ n7_ n8_ n9_; (try clear hb); (try clear hb2); (try clear hk); (try clear hi)) | (go_at_call 19; (with_reducible refine (tollbarlaw0_Num.calls t219 t231 _ A170.out).mono ?_); rintro e w' ⟨rfl, ⟨nd, rfl⟩⟩) | (go_at_call 19; (with_reducible refine (tollbarlaw0_Num.calls t223 t232 _ A172.out).mono ?_); rintro e w' ⟨rfl, ⟨nd, rfl⟩⟩))
        go_ret
        exact ⟨ze, zl HB.out⟩
      ·rw [if_neg c171] at H
       have c171b0 : (t231 == 1700) = false := yK.mpr c171
       have c171b1 : (t231 != 1700) = true := yL.mpr c171
       obtain rfl := Option.some.inj H
       go_wp2_with (first | ((with_reducible refine gate_callee (f := 18) rfl ?_); refine goesL_ (some 50) rfl rfl Try.func18 (by kernel_rfl) rfl #[] rfl zt ?_; (with_reducible refine (tollbarlaw17_awake.calls  true _ A168.out).mono ?_); rintro e w189 ⟨rfl, hb⟩; refine ⟨_, rfl, ?_⟩; have n0_ := zK (zO (zr HO_6.out) hb); have n1_ := zK (zO (zr HO_8.out) hb); have n2_ := zK (zO (zr HO_10.out) hb); have n3_ := zK (Kd.V_below (zv HO_12.out) hb); have n4_ := zK (zO (zr HO_qf.out) hb); have n5_ := zK (zO (zr HO_qh.out) hb); have n6_ := zK (zP (g := gb202) (o := .cells #[.slice A0_0 l0_0.length c0_0, .int .i64 a0_1, .slice A0_2 l0_2.length c0_2] 25 (0, 0)) (zb BK202.out) hb); have n7_ := zK (zP (g := gb203) (o := .cells #[.int .i64 a1_0, .int .i64 a1_1] 27 (0, 0)) (zb BK203.out) hb); have n8_ := zK (zP (g := gb211) (o := .cells #[.slice Ao15 t204.length co15, .int .i64 t207, .slice Ao19 t208.length co19] 25 (0, 0)) (zb BK211.out) hb); have n9_ := zK (yF (zl HB.out) hb); clear HO_6; clear HO_8; clear HO_10; clear HO_12; clear HO_qf; clear HO_qh; clear BK202; clear BK203; clear BK211; clear HB; have HO_6 := n0_; have HO_8 := n1_; have HO_10 := n2_; have HO_12 := n3_; have HO_qf := n4_; have HO_qh := n5_; have BK202 := n6_; have BK203 := n7_; have BK211 := n8_; have HB := n9_; clear n0_ n1_ n2_ n3_ n4_ n5_ n6_ n7_ n8_ n9_; (try clear hb); (try clear hb2); (try clear hk); (try clear hi)) | (go_at_call 19; (with_reducible refine (tollbarlaw0_Num.calls t219 t231 _ A170.out).mono ?_); rintro e w' ⟨rfl, ⟨nd, rfl⟩⟩))
       go_ret
       exact ⟨ze, zl HB.out⟩
     ·replace c169 := Bool.eq_false_iff.mpr c169
      subst c169
      have H1 : (some false) = some r := by rw [if_neg (show ¬ (false = true) by decide)] at H; exact H
      clear H
      have H := H1
      clear H1
      obtain rfl := Option.some.inj H
      go_wp2_with (first | ((with_reducible refine gate_callee (f := 18) rfl ?_); refine goesL_ (some 50) rfl rfl Try.func18 (by kernel_rfl) rfl #[] rfl zt ?_; (with_reducible refine (tollbarlaw17_awake.calls  false _ A168.out).mono ?_); rintro e w190 ⟨rfl, hb⟩; refine ⟨_, rfl, ?_⟩; have n0_ := zK (zO (zr HO_6.out) hb); have n1_ := zK (zO (zr HO_8.out) hb); have n2_ := zK (zO (zr HO_10.out) hb); have n3_ := zK (Kd.V_below (zv HO_12.out) hb); have n4_ := zK (zO (zr HO_qf.out) hb); have n5_ := zK (zO (zr HO_qh.out) hb); have n6_ := zK (zP (g := gb202) (o := .cells #[.slice A0_0 l0_0.length c0_0, .int .i64 a0_1, .slice A0_2 l0_2.length c0_2] 25 (0, 0)) (zb BK202.out) hb); have n7_ := zK (zP (g := gb203) (o := .cells #[.int .i64 a1_0, .int .i64 a1_1] 27 (0, 0)) (zb BK203.out) hb); have n8_ := zK (zP (g := gb211) (o := .cells #[.slice Ao15 t204.length co15, .int .i64 t207, .slice Ao19 t208.length co19] 25 (0, 0)) (zb BK211.out) hb); have n9_ := zK (yF (zl HB.out) hb); clear HO_6; clear HO_8; clear HO_10; clear HO_12; clear HO_qf; clear HO_qh; clear BK202; clear BK203; clear BK211; clear HB; have HO_6 := n0_; have HO_8 := n1_; have HO_10 := n2_; have HO_12 := n3_; have HO_qf := n4_; have HO_qh := n5_; have BK202 := n6_; have BK203 := n7_; have BK211 := n8_; have HB := n9_; clear n0_ n1_ n2_ n3_ n4_ n5_ n6_ n7_ n8_ n9_; (try clear hb); (try clear hb2); (try clear hk); (try clear hi)))
      go_ret
      exact ⟨ze, zl HB.out⟩
end Go.Proofs.Ytgkjpffbgnljeaa.QL
/- A tree as a structure of Lean, and its cells. -/
set_option linter.unusedVariables false
namespace Go.Proofs.Ytgkjpffbgnljeaa.Man
open Go.RowKit Go.Proofs.Ytgkjpffbgnljeaa.QT Go.Proofs.YtgkjpffbgnljeaaW.PrintWords Go.Proofs.YtgkjpffbgnljeaaW.PrintLast Go.Proofs.YtgkjpffbgnljeaaW.PrintMore
structure S25 where
 f0 : List S64
 f1 : Int
 f2 : List Int
def k25 : Kd S25 := Kd.iso (Kd.pair (Kd.slice 64 k64) (Kd.pair (Kd.int .i64) (Kd.slice 3 (Kd.int .i64)))) (fun x : S25 => (x.f0, x.f1, x.f2))
theorem k25_open {w : World} {x : S25} {cs : List Value} (h : k25.K w x cs) : ∃ A0 c0 A2 c2, cs = [.slice A0 x.f0.length c0, .int .i64 x.f1, .slice A2 x.f2.length c2] ∧ x.f0.length ≤ c0 ∧ k64.C w A0 x.f0.length x.f0 ∧ x.f2.length ≤ c2 ∧ (Kd.int .i64).C w A2 x.f2.length x.f2 := by
 obtain ⟨_, _, rfl, ⟨A0, c0, rfl, l0, g0⟩, ⟨_, _, rfl, rfl, ⟨A2, c2, rfl, l2, g2⟩⟩⟩ := h
 exact ⟨A0, c0, A2, c2, rfl, l0, g0, l2, g2⟩
end Go.Proofs.Ytgkjpffbgnljeaa.Man
/- How the parameters of the law Trees are read. -/
set_option linter.unusedVariables false
namespace Go.Proofs.Ytgkjpffbgnljeaa.OpsTrees
open Go.RowKit Go.Proofs.YtgkjpffbgnljeaaW.PrintWords Go.Proofs.YtgkjpffbgnljeaaW.PrintLast Go.Proofs.YtgkjpffbgnljeaaW.PrintMore Go.Proofs.Ytgkjpffbgnljeaa.Op Go.Proofs.Ytgkjpffbgnljeaa.QL Go.Proofs.Ytgkjpffbgnljeaa.Man Go.Proofs.Ytgkjpffbgnljeaa.QT Go.Proofs.Ytgkjpffbgnljeaa.QA Go.Proofs.Ytgkjpffbgnljeaa.Man
theorem op3 : Opens Try.prog 3 (Kd.int .i64) (fun n => (Lit.int .i64 n).wf = true) (fun _ => 1) := opens_int Try.underlying3
def I27 (s : S27) : Prop := (fun n : Int => (Lit.int .i64 n).wf = true) s.f0 ∧ (fun n : Int => (Lit.int .i64 n).wf = true) s.f1
def B27 (s : S27) : Nat := ((fun _ : Int => 1) s.f0 + ((fun _ : Int => 1) s.f1)) + 1
theorem op27 : Opens Try.prog 27 k27 I27 B27 := opens_struct Try.underlying27 (by kernel_rfl) (fun s : S27 => (s.f0, s.f1)) (fun p => ⟨p.1, p.2⟩) (fun _ => rfl) (opens_cons (by first | rfl | kernel_rfl) (by kernel_rfl) op3 (opens_last (by first | rfl | kernel_rfl) (by kernel_rfl) op3))
def I50 (s : S50) : Prop := I27 s.f0 ∧ (fun n : Int => (Lit.int .i64 n).wf = true) s.f1
def B50 (s : S50) : Nat := (B27 s.f0 + ((fun _ : Int => 1) s.f1)) + 1
theorem op50 : Opens Try.prog 50 k50 I50 B50 := opens_struct Try.underlying50 (by kernel_rfl) (fun s : S50 => (s.f0, s.f1)) (fun p => ⟨p.1, p.2⟩) (fun _ => rfl) (opens_cons (by first | rfl | kernel_rfl) (by kernel_rfl) op27 (opens_last (by first | rfl | kernel_rfl) (by kernel_rfl) op3))
def I64 (s : S64) : Prop := I50 s.f0 ∧ (fun n : Int => (Lit.int .i64 n).wf = true) s.f1 ∧ (fun n : Int => (Lit.int .i64 n).wf = true) s.f2 ∧ (fun n : Int => (Lit.int .i64 n).wf = true) s.f3 ∧ (fun n : Int => (Lit.int .i64 n).wf = true) s.f4
def B64 (s : S64) : Nat := (B50 s.f0 + ((fun _ : Int => 1) s.f1 + ((fun _ : Int => 1) s.f2 + ((fun _ : Int => 1) s.f3 + ((fun _ : Int => 1) s.f4))))) + 1
theorem op64 : Opens Try.prog 64 k64 I64 B64 := opens_struct Try.underlying64 (by kernel_rfl) (fun s : S64 => (s.f0, s.f1, s.f2, s.f3, s.f4)) (fun p => ⟨p.1, p.2.1, p.2.2.1, p.2.2.2.1, p.2.2.2.2⟩) (fun _ => rfl) (opens_cons (by first | rfl | kernel_rfl) (by kernel_rfl) op50 (opens_cons (by first | rfl | kernel_rfl) (by kernel_rfl) op3 (opens_cons (by first | rfl | kernel_rfl) (by kernel_rfl) op3 (opens_cons (by first | rfl | kernel_rfl) (by kernel_rfl) op3 (opens_last (by first | rfl | kernel_rfl) (by kernel_rfl) op3)))))
theorem op22 : Opens Try.prog 22 (Kd.slice 64 k64) (fun xs : List S64 => (∀ x ∈ xs, I64 x) ∧ xs.length * 56 ≤ 140737488351232) (fun xs : List S64 => (xs.map B64).sum + 1) := opens_slice Try.underlying22 (m := 56) (by kernel_rfl) op64 (by kernel_rfl)
theorem op23 : Opens Try.prog 23 (Kd.slice 3 (Kd.int .i64)) (fun xs : List Int => (∀ x ∈ xs, (fun n : Int => (Lit.int .i64 n).wf = true) x) ∧ xs.length * 8 ≤ 140737488351232) (fun xs : List Int => (xs.map (fun _ : Int => 1)).sum + 1) := opens_slice Try.underlying23 (m := 8) (by kernel_rfl) op3 (by kernel_rfl)
def I25 (s : S25) : Prop := (fun xs : List S64 => (∀ x ∈ xs, I64 x) ∧ xs.length * 56 ≤ 140737488351232) s.f0 ∧ (fun n : Int => (Lit.int .i64 n).wf = true) s.f1 ∧ (fun xs : List Int => (∀ x ∈ xs, (fun n : Int => (Lit.int .i64 n).wf = true) x) ∧ xs.length * 8 ≤ 140737488351232) s.f2
def B25 (s : S25) : Nat := ((fun xs : List S64 => (xs.map B64).sum + 1) s.f0 + ((fun _ : Int => 1) s.f1 + ((fun xs : List Int => (xs.map (fun _ : Int => 1)).sum + 1) s.f2))) + 1
theorem op25 : Opens Try.prog 25 k25 I25 B25 := opens_struct Try.underlying25 (by kernel_rfl) (fun s : S25 => (s.f0, s.f1, s.f2)) (fun p => ⟨p.1, p.2.1, p.2.2⟩) (fun _ => rfl) (opens_cons (by first | rfl | kernel_rfl) (by kernel_rfl) op22 (opens_cons (by first | rfl | kernel_rfl) (by kernel_rfl) op3 (opens_last (by first | rfl | kernel_rfl) (by kernel_rfl) op23)))
end Go.Proofs.Ytgkjpffbgnljeaa.OpsTrees
/- tollbarref17.hung: what it answers, plain. -/
set_option linter.unusedVariables false
set_option linter.unusedSimpArgs false
namespace Go.Proofs.Ytgkjpffbgnljeaa.Man
open Go.RowKit Go.Proofs.Ytgkjpffbgnljeaa.QT Go.Proofs.Ytgkjpffbgnljeaa.QA Go.Proofs.Ytgkjpffbgnljeaa.TreeM Go.Proofs.YtgkjpffbgnljeaaW.PrintWords Go.Proofs.YtgkjpffbgnljeaaW.PrintLast Go.Proofs.YtgkjpffbgnljeaaW.PrintMore
def seenB (nn : Nat) (S : Nat → Bool) : List Bool := (List.range nn).map S
theorem seenB_length (nn : Nat) (S : Nat → Bool) : (seenB nn S).length = nn := by simp [seenB]
theorem seenB_rd {nn : Nat} (S : Nat → Bool) {p : Nat} (hp : p < nn) : rdOf false (seenB nn S) (p : Int) = S p := by
 unfold rdOf seenB
 rw [Int.toNat_natCast, List.getD, List.getElem?_map, List.getElem?_range hp]
 rfl
theorem seenB_set {nn : Nat} (S : Nat → Bool) (p : Nat) : (seenB nn S).set p true = seenB nn (plus S p) := by
 apply List.ext_getElem?
 intro j
 unfold seenB plus
 rw [List.getElem?_set, List.getElem?_map, List.getElem?_map]
 by_cases hj : j < nn
 ·rw [List.getElem?_range hj]
  by_cases e : p = j
  ·subst e; simp [hj]
  ·simp [e, Ne.symm e]
 ·have e2 : (List.range nn)[j]? = none := List.getElem?_eq_none (by simp; omega)
  rw [e2]
  by_cases e : p = j
  ·subst e; simp [hj]
  ·simp [e]
theorem hung_j1 (k : Nat) (x2 : List Bool) (ls rs : List It) (lh lm rh rm : Int) (c : Bool) (y0 y1 y2 y3 y4 y5 y6 : Int) (h1 : ls.length ≤ 1000) (h2 : rs.length ≤ 1000) (hl : 0 ≤ lh ∧ lh ≤ 1000) (hr : 0 ≤ rh ∧ rh ≤ 1000) :
  tollbarref17_hung.j1 (k + 3) x2 ls lh lm rs rh rm c y0 y1 y2 y3 y4 y5 y6 = some (if c = false ∧ y5 = 1 + max lh rh ∧ y6 = max y1 (max lm rm) then (ls ++ ⟨⟨y0, y1⟩, y2⟩ :: rs, 1 + max lh rh, max y1 (max lm rm), true, x2) else ([], 0, 0, false, x2)) := by
 have j3 : ∀ (h m : Int), 0 ≤ h ∧ h ≤ 1000 → tollbarref17_hung.j3 (k + 1) x2 ls rs h m y0 y1 y2 y3 y4 y5 y6 = some (if y5 = 1 + h ∧ y6 = max y1 m then (ls ++ ⟨⟨y0, y1⟩, y2⟩ :: rs, 1 + h, max y1 m, true, x2) else ([], 0, 0, false, x2)) := by
  intro h m hh
  have hw : wrap64 (h + 1) = 1 + h := by unfold wrap64; omega
  rw [tollbarref17_hung.j3, hw]
  have e1 : ([] : List It).length + ls.length < 5864062014805 := by simp; omega
  have e2 : (([] : List It) ++ ls).length < 5864062014805 := by simp; omega
  have e3 : (([] ++ ls) ++ [(⟨⟨y0, y1⟩, y2⟩ : It)]).length + rs.length < 5864062014805 := by simp; omega
  simp only [Option.bind_some, if_pos e1, if_pos e2, if_pos e3]
  by_cases g1 : y1 > m
  ·rw [if_pos g1, Int.max_eq_left (by omega)]
   by_cases g2 : y5 = 1 + h
   ·rw [if_pos g2]
    by_cases g3 : y6 = y1
    ·rw [if_pos g3, if_pos ⟨g2, g3⟩]; simp
    ·rw [if_neg g3, if_neg (fun g => g3 g.2)]
   ·rw [if_neg g2, if_neg (fun g => g2 g.1)]
  ·rw [if_neg g1, Int.max_eq_right (by omega)]
   by_cases g2 : y5 = 1 + h
   ·rw [if_pos g2]
    by_cases g3 : y6 = m
    ·rw [if_pos g3, if_pos ⟨g2, g3⟩]; simp
    ·rw [if_neg g3, if_neg (fun g => g3 g.2)]
   ·rw [if_neg g2, if_neg (fun g => g2 g.1)]
 have j2 : ∀ (h : Int), 0 ≤ h ∧ h ≤ 1000 → tollbarref17_hung.j2 (k + 2) x2 ls rs rm h lm y0 y1 y2 y3 y4 y5 y6 = some (if y5 = 1 + h ∧ y6 = max y1 (max lm rm) then (ls ++ ⟨⟨y0, y1⟩, y2⟩ :: rs, 1 + h, max y1 (max lm rm), true, x2) else ([], 0, 0, false, x2)) := by
  intro h hh
  rw [tollbarref17_hung.j2]
  by_cases g : rm > lm
  ·rw [if_pos g, j3 h rm hh, show max lm rm = rm from Int.max_eq_right (by omega)]
  ·rw [if_neg g, j3 h lm hh, show max lm rm = lm from Int.max_eq_left (by omega)]
 rw [tollbarref17_hung.j1]
 cases c with
 | true => simp
 | false =>
  rw [if_neg (by decide)]
  by_cases g : rh > lh
  ·rw [if_pos g, j2 rh hr, show max lh rh = rh from Int.max_eq_right (by omega)]; simp
  ·rw [if_neg g, j2 lh hl, show max lh rh = lh from Int.max_eq_left (by omega)]; simp
def HungIs (ns : List Nd) (S : Nat → Bool) (i : Int) (o : List It × Int × Int × Bool × List Bool) : Prop :=
 (∃ t, Good (cellN ns) ns.length S i t ∧ o = ((items t).map toI, (hgt t : Int), most t, true, seenB ns.length (plusT S t))) ∨
 ((∀ t, ¬ Good (cellN ns) ns.length S i t) ∧ ∃ S' : Nat → Bool, (∀ k, S k = true → S' k = true) ∧ o = ([], 0, 0, false, seenB ns.length S'))
theorem plus_le {S : Nat → Bool} {p : Nat} : ∀ k, S k = true → plus S p k = true := fun k h => by unfold plus; rw [h]; rfl
theorem plusT_le {S : Nat → Bool} {t : T} : ∀ k, S k = true → plusT S t k = true := fun k h => by unfold plusT; rw [h]; rfl
theorem Good.len {a : Cells} {nn : Nat} {S : Nat → Bool} {i : Int} {t : T} (h : Good a nn S i t) : (items t).length ≤ nn := by rw [items_places]; exact places_le h.within h.nodup
theorem hung_f (ns : List Nd) (fr : List Int) (root : Int) (hn : ns.length ≤ 32) : ∀ (m : Nat) (S : Nat → Bool) (i : Int) (k : Nat), unseen ns.length S ≤ m → 6 * m + 6 ≤ k →
  ∃ o, tollbarref17_hung.f k ns root fr i (seenB ns.length S) = some o ∧ HungIs ns S i o := by
 intro m
 induction m with
 | zero =>
  intro S i k hm hk
  obtain ⟨k, rfl⟩ : ∃ j, k = j + 2 := ⟨k - 2, by omega⟩
  rw [tollbarref17_hung.f]
  by_cases h1 : i = -1
  ·subst h1
   exact ⟨_, if_pos rfl, .inl ⟨.nil, good_nil _ _ _, by rw [plusT_nil]; rfl⟩⟩
  rw [if_neg h1]
  have bad : (∀ p : Nat, i = (p : Int) → p < ns.length → S p = true) → ∀ t, ¬ Good (cellN ns) ns.length S i t := by
   intro hb t h
   rcases h.range with e | ⟨p, e, hp, hS⟩
   ·exact h1 e
   ·rw [hb p e hp] at hS; cases hS
  have j0 : tollbarref17_hung.j0 (k + 1) i (seenB ns.length S) true ns root fr = some ([], 0, 0, false, seenB ns.length S) := by rw [tollbarref17_hung.j0, if_pos rfl]
  by_cases h2 : i < 0
  ·rw [if_pos h2, j0]
   exact ⟨_, rfl, .inr ⟨bad (fun p e _ => by omega), S, fun _ h => h, rfl⟩⟩
  rw [if_neg h2]
  by_cases h3 : i ≥ (ns.length : Int)
  ·rw [if_pos h3, j0]
   exact ⟨_, rfl, .inr ⟨bad (fun p e _ => by omega), S, fun _ h => h, rfl⟩⟩
  rw [if_neg h3, if_pos (by omega), if_pos (by rw [seenB_length]; omega)]
  obtain ⟨p, rfl⟩ : ∃ p : Nat, i = (p : Int) := ⟨i.toNat, by omega⟩
  have hp : p < ns.length := by omega
  rw [seenB_rd S hp]
  cases hS : S p with
  | true =>
   rw [j0]
   exact ⟨_, rfl, .inr ⟨bad (fun q e _ => by rw [← (show p = q by omega)]; exact hS), S, fun _ h => h, rfl⟩⟩
  | false => exact absurd (unseen_plus hp hS) (by omega)
 | succ m ih =>
  intro S i k hm hk
  obtain ⟨k, rfl⟩ : ∃ j, k = j + 3 + 2 := ⟨k - 5, by omega⟩
  rw [tollbarref17_hung.f]
  by_cases h1 : i = -1
  ·subst h1
   exact ⟨_, if_pos rfl, .inl ⟨.nil, good_nil _ _ _, by rw [plusT_nil]; rfl⟩⟩
  rw [if_neg h1]
  have bad : (∀ p : Nat, i = (p : Int) → p < ns.length → S p = true) → ∀ t, ¬ Good (cellN ns) ns.length S i t := by
   intro hb t h
   rcases h.range with e | ⟨p, e, hp, hS⟩
   ·exact h1 e
   ·rw [hb p e hp] at hS; cases hS
  have j0 : tollbarref17_hung.j0 (k + 3 + 1) i (seenB ns.length S) true ns root fr = some ([], 0, 0, false, seenB ns.length S) := by rw [tollbarref17_hung.j0, if_pos rfl]
  by_cases h2 : i < 0
  ·rw [if_pos h2, j0]
   exact ⟨_, rfl, .inr ⟨bad (fun p e _ => by omega), S, fun _ h => h, rfl⟩⟩
  rw [if_neg h2]
  by_cases h3 : i ≥ (ns.length : Int)
  ·rw [if_pos h3, j0]
   exact ⟨_, rfl, .inr ⟨bad (fun p e _ => by omega), S, fun _ h => h, rfl⟩⟩
  rw [if_neg h3, if_pos (by omega), if_pos (by rw [seenB_length]; omega)]
  obtain ⟨p, rfl⟩ : ∃ p : Nat, i = (p : Int) := ⟨i.toNat, by omega⟩
  have hp : p < ns.length := by omega
  rw [seenB_rd S hp]
  cases hS : S p with
  | true =>
   rw [j0]
   exact ⟨_, rfl, .inr ⟨bad (fun q e _ => by rw [← (show p = q by omega)]; exact hS), S, fun _ h => h, rfl⟩⟩
  | false =>
   clear bad j0 h1 h2 h3
   have hlt := unseen_plus hp hS
   have hrd : rd_T64 ns (p : Int) = ns.getD p z64 := by unfold rd_T64; rw [Int.toNat_natCast]
   have c0 := cellN_at ns p (k := 0) (by omega)
   have c1 := cellN_at ns p (k := 1) (by omega)
   have c2 := cellN_at ns p (k := 2) (by omega)
   have c3 := cellN_at ns p (k := 3) (by omega)
   have c4 := cellN_at ns p (k := 4) (by omega)
   have c5 := cellN_at ns p (k := 5) (by omega)
   have c6 := cellN_at ns p (k := 6) (by omega)
   rw [Nat.add_zero] at c0
   simp only [fieldN] at c0 c1 c2 c3 c4 c5 c6
   rw [tollbarref17_hung.j0, if_neg (by decide), if_pos (by omega), if_pos (by rw [seenB_length]; omega), if_pos (by omega), hrd, Int.toNat_natCast, seenB_set, ← c0, ← c1, ← c2, ← c3, ← c4, ← c5, ← c6]
   obtain ⟨oL, eL, hL⟩ := ih (plus S p) (cellN ns (p * 7 + 3)) (k + 3) (by omega) (by omega)
   rw [eL]
   simp only [Option.bind_some]
   obtain ⟨S2, e2, hle2⟩ : ∃ S2, oL.2.2.2.2 = seenB ns.length S2 ∧ ∀ k, plus S p k = true → S2 k = true := by
    rcases hL with ⟨l, _, e⟩ | ⟨_, S', h', e⟩
    ·exact ⟨_, by rw [e], plusT_le⟩
    ·exact ⟨S', by rw [e], h'⟩
   have hle3 := unseen_le (nn := ns.length) hle2
   obtain ⟨oR, eR, hR⟩ := ih S2 (cellN ns (p * 7 + 4)) (k + 3) (by omega) (by omega)
   rw [e2, eR]
   simp only [Option.bind_some]
   have hle4 : ∀ k, S k = true → S2 k = true := fun k h => hle2 k (plus_le k h)
   have nogo : ∀ S', (∀ k, S k = true → S' k = true) → oR.2.2.2.2 = seenB ns.length S' → (∀ t, ¬ Good (cellN ns) ns.length S (p : Int) t) → (oL.1.length ≤ 1000 ∧ 0 ≤ oL.2.1 ∧ oL.2.1 ≤ 1000) → (oR.1.length ≤ 1000 ∧ 0 ≤ oR.2.1 ∧ oR.2.1 ≤ 1000) → ∃ o, tollbarref17_hung.j1 (k + 3) oR.2.2.2.2 oL.1 oL.2.1 oL.2.2.1 oR.1 oR.2.1 oR.2.2.1 true (cellN ns (p * 7)) (cellN ns (p * 7 + 1)) (cellN ns (p * 7 + 2)) (cellN ns (p * 7 + 3)) (cellN ns (p * 7 + 4)) (cellN ns (p * 7 + 5)) (cellN ns (p * 7 + 6)) = some o ∧ HungIs ns S (p : Int) o := by
    intro S' hS' eS' hno hbl hbr
    rw [hung_j1 k _ _ _ _ _ _ _ _ _ _ _ _ _ _ _ hbl.1 hbr.1 hbl.2 hbr.2, if_neg (fun g => by cases g.1)]
    exact ⟨_, rfl, .inr ⟨hno, S', hS', by rw [eS']⟩⟩
   rcases hL with ⟨l, gl, rfl⟩ | ⟨nl, S', h', rfl⟩
   ·have e2' : plusT (plus S p) l = S2 ∨ True := .inr trivial
    have ll := gl.len
    have lh := gl.low
    have hbl : ((items l).map toI).length ≤ 1000 ∧ (0 : Int) ≤ (hgt l : Int) ∧ (hgt l : Int) ≤ 1000 := ⟨by simp; omega, by omega, by omega⟩
    rw [if_pos rfl]
    have eS2 : ∀ q, q < ns.length → S2 q = plusT (plus S p) l q := fun q hq => by
     have := congrArg (fun xs => rdOf false xs (q : Int)) e2
     simp only [seenB_rd _ hq] at this
     exact this.symm
    have conv : ∀ r, Good (cellN ns) ns.length S2 (cellN ns (p * 7 + 4)) r ↔ Good (cellN ns) ns.length (plusT (plus S p) l) (cellN ns (p * 7 + 4)) r := fun r =>
     ⟨fun h => ⟨h.hang, h.within, h.nodup, fun q hq => by rw [← eS2 q (h.within q hq)]; exact h.off q hq, h.bal, h.may⟩, fun h => ⟨h.hang, h.within, h.nodup, fun q hq => by rw [eS2 q (h.within q hq)]; exact h.off q hq, h.bal, h.may⟩⟩
    rcases hR with ⟨r, gr, rfl⟩ | ⟨nr, S'', h'', rfl⟩
    ·have lr := gr.len
     have rh := gr.low
     have hbr : ((items r).map toI).length ≤ 1000 ∧ (0 : Int) ≤ (hgt r : Int) ∧ (hgt r : Int) ≤ 1000 := ⟨by simp; omega, by omega, by omega⟩
     have gr' := (conv r).1 gr
     have only : ∀ t, Good (cellN ns) ns.length S (p : Int) t → t = .node p ⟨cellN ns (p * 7), cellN ns (p * 7 + 1), cellN ns (p * 7 + 2)⟩ l r := by
      intro t ht
      obtain ⟨y, l', r', rfl, _, _, g1, g2⟩ := ht.parts
      have el := g1.one gl
      subst el
      have er := g2.one gr'
      subst er
      obtain ⟨i0, i1, i2⟩ := ht.hang.2.1
      rw [i0, i1, i2]
     rw [if_pos rfl, refItemMay_f]
     simp only [Option.bind_some]
     have hwl : wrap64 ((hgt l : Int) - hgt r) = (hgt l : Int) - hgt r := by unfold wrap64; omega
     have hwr : wrap64 ((hgt r : Int) - hgt l) = (hgt r : Int) - hgt l := by unfold wrap64; omega
     have hSl : ∀ k, S k = true → plusT S2 r k = true := fun k h => plusT_le k (hle4 k h)
     by_cases hmay : itmayF ⟨cellN ns (p * 7), cellN ns (p * 7 + 1), cellN ns (p * 7 + 2)⟩ = true
     ·rw [if_pos hmay, hwl, hwr]
      have hj : ∀ c, c = decide ((hgt l : Int) - hgt r > 1 ∨ (hgt r : Int) - hgt l > 1) → ∃ o, tollbarref17_hung.j1 (k + 3) (seenB ns.length (plusT S2 r)) ((items l).map toI) (hgt l) (most l) ((items r).map toI) (hgt r) (most r) c (cellN ns (p * 7)) (cellN ns (p * 7 + 1)) (cellN ns (p * 7 + 2)) (cellN ns (p * 7 + 3)) (cellN ns (p * 7 + 4)) (cellN ns (p * 7 + 5)) (cellN ns (p * 7 + 6)) = some o ∧ HungIs ns S (p : Int) o := by
       intro c hc
       rw [hung_j1 k _ _ _ _ _ _ _ _ _ _ _ _ _ _ _ hbl.1 hbr.1 hbl.2 hbr.2]
       by_cases hall : c = false ∧ cellN ns (p * 7 + 5) = 1 + max (hgt l : Int) (hgt r) ∧ cellN ns (p * 7 + 6) = max (cellN ns (p * 7 + 1)) (max (most l) (most r))
       ·rw [if_pos hall]
        have hb : ¬ ((hgt l : Int) - hgt r > 1 ∨ (hgt r : Int) - hgt l > 1) := by
         rw [hc] at hall
         exact of_decide_eq_false hall.1
        have gn := good_node (y := ⟨cellN ns (p * 7), cellN ns (p * 7 + 1), cellN ns (p * 7 + 2)⟩) hp hS ⟨rfl, rfl, rfl⟩ gl gr' hmay hall.2.1 hall.2.2 (by omega) (by omega)
        refine ⟨_, rfl, .inl ⟨_, gn, ?_⟩⟩
        have es : seenB ns.length (plusT S2 r) = seenB ns.length (plusT S (.node p ⟨cellN ns (p * 7), cellN ns (p * 7 + 1), cellN ns (p * 7 + 2)⟩ l r)) := by
         rw [← plusT_node]
         unfold seenB
         apply List.map_congr_left
         intro q hq
         unfold plusT at eS2 ⊢
         rw [eS2 q (List.mem_range.1 hq)]
        rw [es]
        simp only [items, hgt, most, List.map_append, List.map_cons]
        congr 2
        omega
       ·rw [if_neg hall]
        refine ⟨_, rfl, .inr ⟨fun t ht => hall ?_, _, hSl, rfl⟩⟩
        have et := only t ht
        subst et
        obtain ⟨_, _, _, _, g5, g6⟩ := ht.hang
        have gb := ht.bal
        simp only [bal] at gb
        refine ⟨?_, ?_, ?_⟩
        ·rw [hc]; exact decide_eq_false (by omega)
        ·rw [g5]; simp only [hgt]; omega
        ·rw [g6]; rfl
      by_cases hc1 : (hgt l : Int) - hgt r > 1
      ·rw [if_pos hc1]; exact hj true (by simp [hc1])
      ·rw [if_neg hc1]; exact hj _ (by simp [hc1])
     ·rw [if_neg hmay]
      exact nogo (plusT S2 r) hSl rfl (fun t ht => hmay (by have et := only t ht; subst et; exact ht.may _ (by simp [items]))) hbl hbr
    ·rw [if_neg (by simp)]
     exact nogo S'' (fun k h => h'' k (hle4 k h)) rfl (fun t ht => by
      obtain ⟨y, l', r', rfl, _, _, g1, g2⟩ := ht.parts
      have el := g1.one gl
      subst el
      exact nr r' ((conv r').2 g2)) hbl ⟨by simp, by simp, by simp⟩
   ·rw [if_neg (by simp)]
    have hno : ∀ t, ¬ Good (cellN ns) ns.length S (p : Int) t := fun t ht => by
     obtain ⟨y, l', r', rfl, _, _, g1, g2⟩ := ht.parts
     exact nl l' g1
    rcases hR with ⟨r, gr, rfl⟩ | ⟨nr, S'', h'', rfl⟩
    ·have lr := gr.len
     have rh := gr.low
     exact nogo (plusT S2 r) (fun k h => plusT_le k (hle4 k h)) rfl hno ⟨by simp, by simp, by simp⟩ ⟨by simp; omega, by simp, by simp; omega⟩
    ·exact nogo S'' (fun k h => h'' k (hle4 k h)) rfl hno ⟨by simp, by simp, by simp⟩ ⟨by simp, by simp, by simp⟩
end Go.Proofs.Ytgkjpffbgnljeaa.Man
/- tollbarref17.All: what it answers, plain. -/
set_option linter.unusedVariables false
set_option linter.unusedSimpArgs false
namespace Go.Proofs.Ytgkjpffbgnljeaa.Man
open Go.RowKit Go.Proofs.Ytgkjpffbgnljeaa.QT Go.Proofs.Ytgkjpffbgnljeaa.QA Go.Proofs.Ytgkjpffbgnljeaa.TreeM Go.Proofs.YtgkjpffbgnljeaaW.PrintWords Go.Proofs.YtgkjpffbgnljeaaW.PrintLast Go.Proofs.YtgkjpffbgnljeaaW.PrintMore
theorem rdN_cells (ns : List Nd) (p : Nat) : rd_T64 ns (p : Int) = nodeN (cellN ns) p := by unfold rd_T64; rw [Int.toNat_natCast, nodeN_cellN]
theorem all_l0 (ns : List Nd) (fr : List Int) (root : Int) (xs : List It) (kk : Nat) (hl : fr.length ≤ 1000) : ∀ (n j : Nat) (S : Nat → Bool), n + j = fr.length →
  tollbarref17_All.l0 (n + 1 + kk) (seenB ns.length S) xs (j : Int) ns root fr = (match freeF (cellN ns) ns.length S (fr.drop j) with | none => some ([], false) | some S' => tollbarref17_All.l1 kk (seenB ns.length S') xs 0) := by
 intro n
 induction n with
 | zero =>
  intro j S hj
  rw [show 0 + 1 + kk = kk + 1 by omega, tollbarref17_All.l0, if_neg (by omega), List.drop_eq_nil_of_le (by omega)]
  rfl
 | succ n ih =>
  intro j S hj
  have hw : wrap64 ((j : Int) + 1) = ((j + 1 : Nat) : Int) := by unfold wrap64; omega
  have hjl : j < fr.length := by omega
  have hd : fr.drop j = fr[j] :: fr.drop (j + 1) := List.drop_eq_getElem_cons hjl
  have hrd : rd fr (j : Int) = fr[j] := by unfold rd; rw [Int.toNat_natCast, List.getD, List.getElem?_eq_getElem hjl]; rfl
  rw [show n + 1 + 1 + kk = (n + 1 + kk) + 1 by omega, tollbarref17_All.l0, if_pos (by omega), if_pos (by omega), hrd, hd, hw]
  generalize fr[j] = x
  show _ = match (if freeOk (cellN ns) ns.length S x = true then freeF (cellN ns) ns.length (plus S x.toNat) (fr.drop (j + 1)) else none) with | none => some ([], false) | some S' => tollbarref17_All.l1 kk (seenB ns.length S') xs 0
  by_cases h0 : x < 0
  ·rw [if_pos h0, if_neg (fun g => by have := (freeOk_iff.1 g).1; omega)]
  rw [if_neg h0]
  by_cases h1 : x ≥ (ns.length : Int)
  ·rw [if_pos h1, if_neg (fun g => by have := (freeOk_iff.1 g).2.1; omega)]
  obtain ⟨p, rfl⟩ : ∃ p : Nat, x = (p : Int) := ⟨x.toNat, by omega⟩
  have hp : p < ns.length := by omega
  rw [if_neg h1, if_pos (by omega), if_pos (by rw [seenB_length]; omega), seenB_rd S hp, Int.toNat_natCast]
  cases hS : S p with
  | true => rw [if_pos rfl, if_neg (fun g => by have := (freeOk_iff.1 g).2.2.1; rw [Int.toNat_natCast, hS] at this; cases this)]
  | false =>
   rw [if_neg (by decide), if_pos (by omega), rdN_cells, seenB_set]
   by_cases hz : ∀ k, k < 7 → cellN ns (p * 7 + k) = 0
   ·have z0 := hz 0 (by omega)
    have z1 := hz 1 (by omega)
    have z2 := hz 2 (by omega)
    have z3 := hz 3 (by omega)
    have z4 := hz 4 (by omega)
    have z5 := hz 5 (by omega)
    have z6 := hz 6 (by omega)
    rw [Nat.add_zero] at z0
    rw [if_pos (freeOk_iff.2 ⟨by omega, by omega, by rw [Int.toNat_natCast]; exact hS, by rw [Int.toNat_natCast]; exact hz⟩), if_neg (by simp [nodeN, z0, z1, z2, z3, z4, z5, z6])]
    exact ih (j + 1) (plus S p) (by omega)
   ·have hnf : ¬ freeOk (cellN ns) ns.length S (p : Int) = true := fun g => hz (by have := (freeOk_iff.1 g).2.2.2; rw [Int.toNat_natCast] at this; exact this)
    rw [if_neg hnf]
    refine if_pos ?_
    refine Classical.byContradiction (fun hn => hz (fun k hk => ?_))
    simp [nodeN] at hn
    obtain ⟨⟨⟨h0, h1⟩, h2⟩, h3, h4, h5, h6⟩ := hn
    rcases k with _ | _ | _ | _ | _ | _ | _ | k
    ·rw [Nat.add_zero]; exact h0
    ·exact h1
    ·exact h2
    ·exact h3
    ·exact h4
    ·exact h5
    ·exact h6
    ·omega
open Classical in
theorem all_l1 (nn : Nat) (S : Nat → Bool) (xs : List It) (kk : Nat) (hl : nn ≤ 1000) : ∀ (n j : Nat), n + j = nn →
  tollbarref17_All.l1 (n + 1 + kk) (seenB nn S) xs (j : Int) = (if ∀ p, j ≤ p → p < nn → S p = true then tollbarref17_All.l2 kk xs 1 else some ([], false)) := by
 intro n
 induction n with
 | zero =>
  intro j hj
  rw [show 0 + 1 + kk = kk + 1 by omega, tollbarref17_All.l1, if_neg (by rw [seenB_length]; omega), if_pos (fun p _ _ => by omega)]
 | succ n ih =>
  intro j hj
  have hw : wrap64 ((j : Int) + 1) = ((j + 1 : Nat) : Int) := by unfold wrap64; omega
  rw [show n + 1 + 1 + kk = (n + 1 + kk) + 1 by omega, tollbarref17_All.l1, if_pos (by rw [seenB_length]; omega), if_pos (by omega), seenB_rd S (by omega), hw]
  cases hS : S j with
  | true =>
   rw [if_pos rfl, ih (j + 1) (by omega)]
   by_cases h : ∀ p, j + 1 ≤ p → p < nn → S p = true
   ·rw [if_pos h, if_pos (fun p hp1 hp2 => by
     by_cases e : p = j
     ·rw [e]; exact hS
     ·exact h p (by omega) hp2)]
   ·rw [if_neg h, if_neg (fun g => h (fun p hp1 hp2 => g p (by omega) hp2))]
  | false => rw [if_neg (by decide), if_neg (fun g => by have := g j (Nat.le_refl _) (by omega); rw [hS] at this; cases this)]
theorem rdI_get (ys : List Itm) (j : Nat) (hj : j < ys.length) : rd_T50 (ys.map toI) (j : Int) = toI ys[j] := by
 unfold rd_T50
 rw [Int.toNat_natCast, List.getD, List.getElem?_map, List.getElem?_eq_getElem hj]
 rfl
theorem all_l2 (ys : List Itm) (kk : Nat) (hl : ys.length ≤ 1000) : ∀ (n j : Nat), n + (j + 1) = ys.length ∨ (n = 0 ∧ ys.length ≤ j + 1) → Row (ys.take (j + 1)) →
  tollbarref17_All.l2 (n + 1 + kk) (ys.map toI) ((j + 1 : Nat) : Int) = (if Row ys then some (ys.map toI, true) else some ([], false)) := by
 intro n
 induction n with
 | zero =>
  intro j hj hr
  have hle : ys.length ≤ j + 1 := by omega
  rw [List.take_of_length_le hle] at hr
  rw [show 0 + 1 + kk = kk + 1 by omega, tollbarref17_All.l2, if_neg (by simp; omega), if_pos hr]
 | succ n ih =>
  intro j hj hr
  have hjl : j + 1 < ys.length := by omega
  have hw : wrap64 (((j + 1 : Nat) : Int) - 1) = (j : Int) := by unfold wrap64; omega
  have hw2 : wrap64 (((j + 1 : Nat) : Int) + 1) = ((j + 1 + 1 : Nat) : Int) := by unfold wrap64; omega
  rw [show n + 1 + 1 + kk = (n + 1 + kk) + 1 by omega, tollbarref17_All.l2, if_pos (by simp; omega), hw, hw2, if_pos (by omega), if_pos (by simp; omega), if_pos (by omega), rdI_get ys j (by omega), rdI_get ys (j + 1) hjl]
  have hls := less_f ys[j] ys[j + 1]
  simp only [toI] at hls ⊢
  rw [hls]
  simp only [Option.bind_some]
  by_cases h : lt ys[j] ys[j + 1]
  ·rw [if_pos (decide_eq_true h)]
   exact ih (j + 1) (by omega) (row_snoc hjl hr h)
  ·rw [if_neg (by simp [h]), if_neg (row_not hjl h)]
noncomputable def allF (ns : List Nd) (root : Int) (fr : List Int) : List It × Bool := if mayT (cellN ns) ns.length root fr = true then ((items (treeOf (cellN ns) ns.length root fr)).map toI, true) else ([], false)
theorem allF_yes {ns : List Nd} {root : Int} {fr : List Int} {t : T} (h : IsT (cellN ns) ns.length root fr t) : allF ns root fr = ((items t).map toI, true) := by unfold allF; rw [if_pos (mayT_true.2 ⟨t, h⟩), treeOf_is h]
theorem allF_no {ns : List Nd} {root : Int} {fr : List Int} (h : ∀ t, ¬ IsT (cellN ns) ns.length root fr t) : allF ns root fr = ([], false) := by unfold allF; rw [if_neg (by rw [mayT_false.2 h]; decide)]
theorem all_f (ns : List Nd) (fr : List Int) (root : Int) (k : Nat) (hk : 400 ≤ k) : tollbarref17_All.f k ns root fr = some (allF ns root fr) := by
 obtain ⟨k, rfl⟩ : ∃ j, k = j + 1 := ⟨k - 1, by omega⟩
 unfold tollbarref17_All.f
 have j0 : tollbarref17_All.j0 (k + 1) true ns root fr = some ([], false) := by rw [tollbarref17_All.j0, if_pos rfl]
 by_cases h1 : (ns.length : Int) > 32
 ·rw [if_pos h1, j0, allF_no (fun t h => by have := h.size; omega)]
 rw [if_neg h1]
 by_cases h2 : (fr.length : Int) > (ns.length : Int)
 ·rw [decide_eq_true h2, j0, allF_no (fun t h => by have := h.count; omega)]
 have hn : ns.length ≤ 32 := by omega
 have hrep : List.replicate ((ns.length : Int) : Int).toNat false = seenB ns.length (fun _ => false) := by
  rw [Int.toNat_natCast]
  unfold seenB
  apply List.ext_getElem?
  intro j
  rw [List.getElem?_map]
  by_cases hj : j < ns.length
  ·rw [List.getElem?_range hj, List.getElem?_replicate, if_pos hj]; rfl
  ·rw [List.getElem?_eq_none (by simp; omega), List.getElem?_eq_none (by simp; omega)]; rfl
 rw [decide_eq_false h2, tollbarref17_All.j0, if_neg (by decide), if_pos (by omega), if_pos (by omega), hrep]
 have hu : unseen ns.length (fun _ => false) ≤ 32 := by
  unfold unseen
  refine Nat.le_trans List.countP_le_length ?_
  simp
  omega
 obtain ⟨o, eo, hO⟩ := hung_f ns fr root hn 32 (fun _ => false) root k hu (by omega)
 rw [eo]
 simp only [Option.bind_some]
 rcases hO with ⟨t, gt, rfl⟩ | ⟨hno, S', _, rfl⟩
 ·have ht := gt.len
  obtain ⟨kk, rfl⟩ : ∃ kk, k = fr.length + 1 + kk := ⟨k - fr.length - 1, by omega⟩
  rw [if_pos rfl]
  have a0 := all_l0 ns fr root ((items t).map toI) kk (by omega) fr.length 0 (plusT (fun _ => false) t) (by omega)
  rw [List.drop_zero] at a0
  refine Eq.trans a0 ?_
  cases hf : freeF (cellN ns) ns.length (plusT (fun _ => false) t) fr with
  | none => rw [allF_no (fun s hs => by
    have e := hs.good.one gt
    subst e
    obtain ⟨S', e1, _⟩ := hs.free
    rw [hf] at e1; cases e1)]
  | some S' =>
   obtain ⟨k2, rfl⟩ : ∃ k2, kk = ns.length + 1 + k2 := ⟨kk - ns.length - 1, by omega⟩
   show tollbarref17_All.l1 _ _ _ _ = _
   refine Eq.trans (all_l1 ns.length S' _ k2 (by omega) ns.length 0 (by omega)) ?_
   by_cases hall : ∀ p, 0 ≤ p → p < ns.length → S' p = true
   ·rw [if_pos hall]
    obtain ⟨k3, rfl⟩ : ∃ k3, k2 = ((items t).length - 1) + 1 + k3 := ⟨k2 - ((items t).length - 1) - 1, by omega⟩
    refine Eq.trans (all_l2 (items t) k3 (by omega) ((items t).length - 1) 0 (by omega) (by cases items t with
     | nil => exact List.Pairwise.nil
     | cons x ys => simp)) ?_
    by_cases hrow : Row (items t)
    ·rw [if_pos hrow, allF_yes ⟨hn, gt, ⟨S', hf, fun p hp => hall p (Nat.zero_le _) hp⟩, hrow⟩]
    ·rw [if_neg hrow, allF_no (fun s hs => by
      have e := hs.good.one gt
      subst e
      exact hrow hs.row)]
   ·rw [if_neg hall, allF_no (fun s hs => by
     have e := hs.good.one gt
     subst e
     obtain ⟨S2, e1, e2⟩ := hs.free
     rw [hf] at e1
     injection e1 with e1
     subst e1
     exact hall (fun p _ hp => e2 p hp))]
 ·rw [if_neg (by simp), allF_no (fun t h => hno t h.good)]
end Go.Proofs.Ytgkjpffbgnljeaa.Man
/- tollbarref17.There, With, Without, InsertError; SameItems, SameInts, SameTree, CopyTree: what they answer, plain. -/
set_option linter.unusedVariables false
set_option linter.unusedSimpArgs false
namespace Go.Proofs.Ytgkjpffbgnljeaa.Man
open Go.RowKit Go.Proofs.Ytgkjpffbgnljeaa.QT Go.Proofs.Ytgkjpffbgnljeaa.QA Go.Proofs.Ytgkjpffbgnljeaa.TreeM Go.Proofs.YtgkjpffbgnljeaaW.PrintWords Go.Proofs.YtgkjpffbgnljeaaW.PrintLast Go.Proofs.YtgkjpffbgnljeaaW.PrintMore
theorem wrapN (j : Nat) (h : j ≤ 100000000000000) : wrap64 ((j : Int) + 1) = ((j + 1 : Nat) : Int) := by unfold wrap64; omega
theorem sameInts_l0 (xs : List Int) (kk : Nat) (hl : xs.length ≤ 100000000000000) : ∀ (n j : Nat), n + j = xs.length → tollbarref19_SameInts.l0 (n + 1 + kk) xs xs (j : Int) = some true := by
 intro n
 induction n with
 | zero => intro j hj; rw [show 0 + 1 + kk = kk + 1 by omega, tollbarref19_SameInts.l0, if_neg (by omega)]
 | succ n ih =>
  intro j hj
  rw [show n + 1 + 1 + kk = (n + 1 + kk) + 1 by omega, tollbarref19_SameInts.l0, if_pos (by omega), if_pos (by omega), if_pos (by omega), if_pos rfl, wrapN j (by omega), ih (j + 1) (by omega)]
theorem sameInts_f (xs : List Int) (k : Nat) (hl : xs.length ≤ 100000000000000) (hk : xs.length + 1 ≤ k) : tollbarlaw0_SameInts.f k xs xs = some true := by
 obtain ⟨kk, rfl⟩ : ∃ kk, k = xs.length + 1 + kk := ⟨k - xs.length - 1, by omega⟩
 have h := sameInts_l0 xs kk hl xs.length 0 (by omega)
 unfold tollbarlaw0_SameInts.f tollbarref19_SameInts.f
 rw [if_pos rfl]
 show Option.bind (tollbarref19_SameInts.l0 _ xs xs ((0 : Nat) : Int)) _ = _
 rw [h]
 rfl
theorem sameItems_l0 (xs : List It) (kk : Nat) (hl : xs.length ≤ 100000000000000) : ∀ (n j : Nat), n + j = xs.length → tollbarlaw0_SameItems.l0 (n + 1 + kk) xs xs (j : Int) = some true := by
 intro n
 induction n with
 | zero => intro j hj; rw [show 0 + 1 + kk = kk + 1 by omega, tollbarlaw0_SameItems.l0, if_neg (by omega)]
 | succ n ih =>
  intro j hj
  rw [show n + 1 + 1 + kk = (n + 1 + kk) + 1 by omega, tollbarlaw0_SameItems.l0, if_pos (by omega), if_pos (by omega), if_pos (by omega), if_neg (by simp), wrapN j (by omega), ih (j + 1) (by omega)]
theorem sameItems_f (xs : List It) (k : Nat) (hl : xs.length ≤ 100000000000000) (hk : xs.length + 1 ≤ k) : tollbarlaw0_SameItems.f k xs xs = some true := by
 obtain ⟨kk, rfl⟩ : ∃ kk, k = xs.length + 1 + kk := ⟨k - xs.length - 1, by omega⟩
 unfold tollbarlaw0_SameItems.f
 rw [if_pos rfl]
 exact sameItems_l0 xs kk hl xs.length 0 (by omega)
theorem sameTree_l0 (ns : List Nd) (root : Int) (fr : List Int) (kk : Nat) (hl : ns.length ≤ 100000000000000) : ∀ (n j : Nat), n + j = ns.length → tollbarlaw0_SameTree.l0 (n + 1 + kk) (j : Int) ns root fr ns root fr = some true := by
 intro n
 induction n with
 | zero => intro j hj; rw [show 0 + 1 + kk = kk + 1 by omega, tollbarlaw0_SameTree.l0, if_neg (by omega)]
 | succ n ih =>
  intro j hj
  rw [show n + 1 + 1 + kk = (n + 1 + kk) + 1 by omega, tollbarlaw0_SameTree.l0, if_pos (by omega), if_pos (by omega), if_pos (by omega), if_neg (by simp), wrapN j (by omega), ih (j + 1) (by omega)]
theorem sameTree_f (ns : List Nd) (root : Int) (fr : List Int) (k : Nat) (hl : ns.length ≤ 100000000000000) (hf : fr.length ≤ 100000000000000) (hk : ns.length + 2 ≤ k) (hk2 : fr.length + 1 ≤ k) : tollbarlaw0_SameTree.f k ns root fr ns root fr = some true := by
 unfold tollbarlaw0_SameTree.f
 rw [if_pos rfl, if_pos rfl, sameInts_f fr k hf hk2]
 simp only [Option.bind_some]
 obtain ⟨kk, rfl⟩ : ∃ kk, k = ns.length + 1 + kk + 1 := ⟨k - ns.length - 2, by omega⟩
 rw [tollbarlaw0_SameTree.j0, if_neg (by decide)]
 exact sameTree_l0 ns root fr kk hl ns.length 0 (by omega)
theorem copyTree_f (ns : List Nd) (root : Int) (fr : List Int) (h1 : ns.length < 2513169434916) (h2 : fr.length < 17592186044416) : tollbarlaw0_CopyTree.f ns root fr = some (ns, root, fr) := by
 unfold tollbarlaw0_CopyTree.f tollbarlaw0_CopyInts.f
 simp only [Option.bind_some]
 rw [if_pos (by simpa using h1), if_pos (by simpa using h2)]
 rfl
end Go.Proofs.Ytgkjpffbgnljeaa.Man
/- Plain facts on sorting and leaving out equal ones. -/
set_option linter.unusedVariables false
namespace Go.Proofs.Ytgkjpffbgnljeaa.Man
open Go.RowKit
theorem sortF_perm (xs : List Int) : (sortF xs).Perm xs := List.mergeSort_perm xs _
theorem sortF_mem (xs : List Int) (x : Int) : x ∈ sortF xs ↔ x ∈ xs := (sortF_perm xs).mem_iff
theorem sortF_rising (xs : List Int) : (sortF xs).Pairwise (· ≤ ·) := by
 have h := List.pairwise_mergeSort (le := fun x y : Int => decide (x ≤ y)) (by intro a b c; simp; omega) (by intro a b; simp; omega) xs
 unfold sortF
 exact h.imp (fun h => by simpa using h)
theorem uqF_mem : ∀ (xs : List Int) (p x : Int), x ∈ p :: uqF p xs ↔ x ∈ p :: xs
 | [], p, x => Iff.rfl
 | y :: r, p, x => by
  simp only [uqF]
  by_cases h : y = p
  ·subst h
   rw [if_pos rfl, uqF_mem r y x]
   simp
  ·rw [if_neg h, List.mem_cons, uqF_mem r y x, List.mem_cons (a := x) (b := p)]
theorem uniqF_mem (xs : List Int) (x : Int) : x ∈ uniqF xs ↔ x ∈ xs := by
 cases xs with
 | nil => exact Iff.rfl
 | cons y r => exact uqF_mem r y x
theorem uqF_strict : ∀ (xs : List Int) (p : Int), (p :: xs).Pairwise (· ≤ ·) → (p :: uqF p xs).Pairwise (· < ·)
 | [], p, _ => by simp [uqF]
 | y :: r, p, h => by
  obtain ⟨h1, h2⟩ := List.pairwise_cons.1 h
  simp only [uqF]
  by_cases e : y = p
  ·subst e
   rw [if_pos rfl]
   exact uqF_strict r y h2
  ·rw [if_neg e]
   have h3 := uqF_strict r y h2
   refine List.pairwise_cons.2 ⟨fun z hz => ?_, h3⟩
   have hy := h1 y (List.mem_cons_self ..)
   rcases List.mem_cons.1 hz with rfl | hz
   ·omega
   ·have := (List.pairwise_cons.1 h3).1 z hz
    omega
theorem uniqF_strict (xs : List Int) (h : xs.Pairwise (· ≤ ·)) : (uniqF xs).Pairwise (· < ·) := by
 cases xs with
 | nil => exact List.Pairwise.nil
 | cons y r => exact uqF_strict r y h
end Go.Proofs.Ytgkjpffbgnljeaa.Man
/- tollbarref17.Meets, Points: what they answer, plain. -/
set_option linter.unusedVariables false
set_option linter.unusedSimpArgs false
namespace Go.Proofs.Ytgkjpffbgnljeaa.Man
open Go.RowKit Go.Proofs.Ytgkjpffbgnljeaa.QT Go.Proofs.Ytgkjpffbgnljeaa.QA Go.Proofs.Ytgkjpffbgnljeaa.TreeM Go.Proofs.YtgkjpffbgnljeaaW.PrintWords Go.Proofs.YtgkjpffbgnljeaaW.PrintLast Go.Proofs.YtgkjpffbgnljeaaW.PrintMore
theorem meetF_iff {s0 s1 : Int} {x : Itm} : meetF s0 s1 x = true ↔ mayF x.fr x.to_ = true ∧ mayF s0 s1 = true ∧ x.fr < s1 ∧ s0 < x.to_ := by
 unfold meetF bothF
 by_cases h1 : mayF x.fr x.to_ = true
 ·by_cases h2 : mayF s0 s1 = true
  ·rw [if_pos h1, if_pos h2]
   have g1 := mayF_true.1 h1
   have g2 := mayF_true.1 h2
   by_cases h3 : mayF (mx x.fr s0) (mn x.to_ s1) = true
   ·rw [if_pos h3]
    rw [mayF_true] at h3
    unfold mx mn at h3
    simp only [h1, h2, true_and, true_iff]
    split at h3 <;> split at h3 <;> omega
   ·rw [if_neg h3]
    rw [mayF_true] at h3
    unfold mx mn at h3
    simp only [h1, h2, true_and]
    constructor
    ·intro g; cases g
    ·intro g
     exfalso
     split at h3 <;> split at h3 <;> omega
  ·rw [if_pos h1, if_neg h2]; simp [h2]
 ·rw [if_neg h1]; simp [h1]
theorem refMeets_f (x : Itm) (s0 s1 : Int) : QL.tollbarref1_Meets.f x.fr x.to_ s0 s1 = some (meetF s0 s1 x) := rfl
theorem refMeets_l0 (ys : List Itm) (s0 s1 : Int) (kk : Nat) (hl : ys.length ≤ 1000) : ∀ (n j : Nat) (out : List It), n + j = ys.length → out.length + n ≤ 4000 →
  QL.tollbarref17_Meets.l0 (n + 2 + kk) (ys.map toI) out (j : Int) s0 s1 = some (out ++ ((ys.drop j).filter (meetF s0 s1)).map toI) := by
 intro n
 induction n with
 | zero =>
  intro j out hj ho
  rw [show 0 + 2 + kk = (1 + kk) + 1 by omega, QL.tollbarref17_Meets.l0, if_neg (by simp; omega), List.drop_eq_nil_of_le (by omega)]
  simp
 | succ n ih =>
  intro j out hj ho
  have hjl : j < ys.length := by omega
  have hd : ys.drop j = ys[j] :: ys.drop (j + 1) := List.drop_eq_getElem_cons hjl
  have hm := refMeets_f ys[j] s0 s1
  rw [show n + 1 + 2 + kk = (n + 2 + kk) + 1 by omega, QL.tollbarref17_Meets.l0, if_pos (by simp; omega), if_pos (by omega), rdI_get ys j hjl, hd, wrapN j (by omega)]
  simp only [toI]
  rw [hm]
  simp only [Option.bind_some, List.filter_cons]
  by_cases h : meetF s0 s1 ys[j] = true
  ·rw [if_pos h, if_pos (by omega), if_pos h]
   have := ih (j + 1) (out ++ [toI ys[j]]) (by omega) (by simp; omega)
   refine Eq.trans this ?_
   simp only [List.append_assoc, List.singleton_append, List.map_cons, toI]
  ·rw [if_neg h, if_neg h]
   exact ih (j + 1) out (by omega) (by omega)
theorem refMeets17_f (ys : List Itm) (s0 s1 : Int) (k : Nat) (hl : ys.length ≤ 1000) (hk : 1002 ≤ k) : QL.tollbarref17_Meets.f k (ys.map toI) s0 s1 = some ((ys.filter (meetF s0 s1)).map toI) := by
 obtain ⟨kk, rfl⟩ : ∃ kk, k = ys.length + 2 + kk := ⟨k - ys.length - 2, by omega⟩
 exact refMeets_l0 ys s0 s1 kk hl ys.length 0 [] (by omega) (by simp; omega)
def endF (p : Int) (y : Itm) : Bool := decide (y.fr = p) || decide (y.to_ = p)
theorem refPoints_l1 (ys : List Itm) (s0 s1 at_ : Int) (out : List Int) (kk : Nat) (hl : ys.length ≤ 1000) (ho : out.length ≤ 100000) : ∀ (n j : Nat) (b : Bool), n + j = ys.length →
  tollbarref17_Points.l1 (n + 1 + kk) (ys.map toI) out at_ b (j : Int) s0 s1 = (if (b || (ys.drop j).any (endF at_)) = true then tollbarref17_Points.l0 kk (ys.map toI) (out ++ [at_]) (wrap64 (at_ + 1)) s0 s1 else tollbarref17_Points.l0 kk (ys.map toI) out (wrap64 (at_ + 1)) s0 s1) := by
 intro n
 induction n with
 | zero =>
  intro j b hj
  rw [show 0 + 1 + kk = kk + 1 by omega, tollbarref17_Points.l1, if_neg (by simp; omega), List.drop_eq_nil_of_le (by omega)]
  cases b with
  | true => rw [if_pos rfl, if_pos (by omega)]; rfl
  | false => rw [if_neg (by decide)]; rfl
 | succ n ih =>
  intro j b hj
  have hjl : j < ys.length := by omega
  have hd : ys.drop j = ys[j] :: ys.drop (j + 1) := List.drop_eq_getElem_cons hjl
  rw [show n + 1 + 1 + kk = (n + 1 + kk) + 1 by omega, tollbarref17_Points.l1, if_pos (by simp; omega), hd, wrapN j (by omega)]
  cases b with
  | true =>
   rw [if_pos rfl, ih (j + 1) true (by omega)]
   rfl
  | false =>
   rw [if_neg (by decide), if_pos (by omega), rdI_get ys j hjl]
   by_cases h : (toI ys[j]).f0.f0 = at_
   ·rw [if_pos h, ih (j + 1) true (by omega)]
    have h' : ys[j].fr = at_ := h
    have e : endF at_ ys[j] = true := by unfold endF; simp [h']
    simp only [List.any_cons, e, Bool.true_or, Bool.or_true]
   ·rw [if_neg h, ih (j + 1) _ (by omega)]
    have h' : ¬ ys[j].fr = at_ := h
    have e : endF at_ ys[j] = ((toI ys[j]).f0.f1 == at_) := by
     unfold endF
     rw [decide_eq_false h', Bool.false_or, Bool.eq_iff_iff]
     simp [toI]
    simp only [List.any_cons, e, Bool.false_or]
def enumF (ys : List Itm) : Nat → Int → List Int
 | 0, _ => []
 | m + 1, a => if ys.any (endF a) = true then a :: enumF ys m (a + 1) else enumF ys m (a + 1)
theorem refPoints_l0 (ys : List Itm) (s0 s1 : Int) (hl : ys.length ≤ 1000) (h1 : s1 ≤ 4096) : ∀ (m : Nat) (a : Int) (out : List Int) (kk : Nat), a + m = s1 → -10 ≤ a → out.length + m ≤ 50000 →
  tollbarref17_Points.l0 (m * (ys.length + 2) + 1 + kk) (ys.map toI) out a s0 s1 = some (out ++ enumF ys m a) := by
 intro m
 induction m with
 | zero =>
  intro a out kk ha h0 ho
  rw [show 0 * (ys.length + 2) + 1 + kk = kk + 1 by omega, tollbarref17_Points.l0, if_neg (by omega)]
  simp [enumF]
 | succ m ih =>
  intro a out kk ha h0 ho
  have hw : wrap64 (a + 1) = a + 1 := by unfold wrap64; omega
  rw [show (m + 1) * (ys.length + 2) + 1 + kk = (ys.length + 1 + (m * (ys.length + 2) + 1 + kk)) + 1 by rw [Nat.succ_mul]; omega, tollbarref17_Points.l0, if_pos (by omega)]
  refine Eq.trans (refPoints_l1 ys s0 s1 a out _ hl (by omega) ys.length 0 false (by omega)) ?_
  rw [hw, List.drop_zero, Bool.false_or]
  by_cases h : ys.any (endF a) = true
  ·rw [if_pos h, ih (a + 1) _ kk (by omega) (by omega) (by simp; omega)]
   simp [enumF, h]
  ·rw [if_neg h, ih (a + 1) _ kk (by omega) (by omega) (by omega)]
   simp [enumF, h]
theorem enumF_mem (ys : List Itm) : ∀ (m : Nat) (a p : Int), p ∈ enumF ys m a ↔ a ≤ p ∧ p < a + m ∧ ys.any (endF p) = true
 | 0, a, p => by simp [enumF]; omega
 | m + 1, a, p => by
  have ih := enumF_mem ys m (a + 1) p
  by_cases h : ys.any (endF a) = true
  ·simp only [enumF, if_pos h, List.mem_cons, ih]
   constructor
   ·rintro (rfl | ⟨g1, g2, g3⟩)
    ·exact ⟨by omega, by omega, h⟩
    ·exact ⟨by omega, by omega, g3⟩
   ·rintro ⟨g1, g2, g3⟩
    by_cases e : p = a
    ·exact .inl e
    ·exact .inr ⟨by omega, by omega, g3⟩
  ·simp only [enumF, if_neg h, ih]
   constructor
   ·rintro ⟨g1, g2, g3⟩; exact ⟨by omega, by omega, g3⟩
   ·rintro ⟨g1, g2, g3⟩
    have e : p ≠ a := fun e => h (e ▸ g3)
    exact ⟨by omega, by omega, g3⟩
theorem enumF_strict (ys : List Itm) : ∀ (m : Nat) (a : Int), (enumF ys m a).Pairwise (· < ·)
 | 0, a => List.Pairwise.nil
 | m + 1, a => by
  simp only [enumF]
  split
  ·refine List.pairwise_cons.2 ⟨fun z hz => ?_, enumF_strict ys m (a + 1)⟩
   have := (enumF_mem ys m (a + 1) z).1 hz
   omega
  ·exact enumF_strict ys m (a + 1)
theorem strict_ext : ∀ xs ys : List Int, xs.Pairwise (· < ·) → ys.Pairwise (· < ·) → (∀ p, p ∈ xs ↔ p ∈ ys) → xs = ys
 | [], [], _, _, _ => rfl
 | [], y :: ys, _, _, h => by have := (h y).2 (by simp); simp at this
 | x :: xs, [], _, _, h => by have := (h x).1 (by simp); simp at this
 | x :: xs, y :: ys, hx, hy, h => by
  obtain ⟨hx1, hx2⟩ := List.pairwise_cons.1 hx
  obtain ⟨hy1, hy2⟩ := List.pairwise_cons.1 hy
  have e : x = y := by
   rcases List.mem_cons.1 ((h x).1 (by simp)) with e | e
   ·exact e
   ·rcases List.mem_cons.1 ((h y).2 (by simp)) with e' | e'
    ·exact e'.symm
    ·have := hx1 y e'
     have := hy1 x e
     omega
  subst e
  rw [strict_ext xs ys hx2 hy2 (fun p => ?_)]
  constructor
  ·intro hp
   rcases List.mem_cons.1 ((h p).1 (List.mem_cons_of_mem _ hp)) with e | e
   ·have := hx1 p hp; omega
   ·exact e
  ·intro hp
   rcases List.mem_cons.1 ((h p).2 (List.mem_cons_of_mem _ hp)) with e | e
   ·have := hy1 p hp; omega
   ·exact e
theorem points_eq (ys : List Itm) (s0 s1 : Int) (hm : ∀ y ∈ ys, itmayF y = true) (hs : mayF s0 s1 = true) : pointsF1 s0 s1 (ys.filter (meetF s0 s1)) = enumF ys (s1 - (s0 + 1)).toNat (s0 + 1) := by
 have hs' := mayF_true.1 hs
 refine strict_ext _ _ (uniqF_strict _ (sortF_rising _)) (enumF_strict _ _ _) (fun p => ?_)
 unfold pointsF1
 rw [uniqF_mem, sortF_mem, enumF_mem]
 unfold ptsOf
 rw [List.mem_flatMap]
 constructor
 ·rintro ⟨y, hy, hp⟩
  obtain ⟨hy1, hy2⟩ := List.mem_filter.1 hy
  obtain ⟨hp1, hp2⟩ := List.mem_filter.1 hp
  unfold inF at hp2
  simp at hp1 hp2
  refine ⟨by omega, by omega, List.any_eq_true.2 ⟨y, hy1, ?_⟩⟩
  unfold endF
  rcases hp1 with e | e <;> simp [e]
 ·rintro ⟨h1, h2, h3⟩
  obtain ⟨y, hy, he⟩ := List.any_eq_true.1 h3
  have hmy : mayF y.fr y.to_ = true := by
   have := hm y hy
   unfold itmayF at this
   simp at this
   exact this.1
  have hmy' := mayF_true.1 hmy
  unfold endF at he
  simp at he
  refine ⟨y, List.mem_filter.2 ⟨hy, meetF_iff.2 ⟨hmy, hs, by omega, by omega⟩⟩, List.mem_filter.2 ⟨by simp; omega, ?_⟩⟩
  unfold inF
  simp
  omega
theorem refPoints17_f (ys : List Itm) (s0 s1 : Int) (k : Nat) (hl : ys.length ≤ 32) (hm : ∀ y ∈ ys, itmayF y = true) (hs : mayF s0 s1 = true) (hk : 4096 * 34 + 10 ≤ k) : tollbarref17_Points.f k (ys.map toI) s0 s1 = some (pointsF1 s0 s1 (ys.filter (meetF s0 s1))) := by
 have hs' := mayF_true.1 hs
 rw [points_eq ys s0 s1 hm hs]
 have hw : wrap64 (s0 + 1) = s0 + 1 := by unfold wrap64; omega
 have hmul : (s1 - (s0 + 1)).toNat * (ys.length + 2) ≤ 4096 * 34 := Nat.mul_le_mul (by omega) (by omega)
 obtain ⟨kk, rfl⟩ : ∃ kk, k = (s1 - (s0 + 1)).toNat * (ys.length + 2) + 1 + kk := ⟨k - ((s1 - (s0 + 1)).toNat * (ys.length + 2)) - 1, by omega⟩
 unfold tollbarref17_Points.f
 rw [hw]
 exact refPoints_l0 ys s0 s1 (by omega) (by omega) _ (s0 + 1) [] kk (by omega) (by omega) (by simp; omega)
end Go.Proofs.Ytgkjpffbgnljeaa.Man
/- The law Trees, plain. -/
set_option linter.unusedVariables false
set_option linter.unusedSimpArgs false
namespace Go.Proofs.Ytgkjpffbgnljeaa.Man
open Go.RowKit Go.Proofs.Ytgkjpffbgnljeaa.QT Go.Proofs.Ytgkjpffbgnljeaa.QA Go.Proofs.Ytgkjpffbgnljeaa.TreeM Go.Proofs.YtgkjpffbgnljeaaW.PrintWords Go.Proofs.YtgkjpffbgnljeaaW.PrintLast Go.Proofs.YtgkjpffbgnljeaaW.PrintMore
theorem spoilItems_l0 : ∀ (n j k : Nat) (xs : List It), n + j = xs.length → xs.length ≤ 100000000000000 → n + 1 ≤ k → ∃ r, QL.tollbarlaw0_SpoilItems.l0 k xs (j : Int) = some r := by
 intro n
 induction n with
 | zero =>
  intro j k xs hj hl hk
  obtain ⟨k, rfl⟩ : ∃ i, k = i + 1 := ⟨k - 1, by omega⟩
  rw [QL.tollbarlaw0_SpoilItems.l0, if_neg (by omega)]
  exact ⟨_, rfl⟩
 | succ n ih =>
  intro j k xs hj hl hk
  obtain ⟨k, rfl⟩ : ∃ i, k = i + 1 := ⟨k - 1, by omega⟩
  rw [QL.tollbarlaw0_SpoilItems.l0, if_pos (by omega), if_pos (by omega), wrapN j (by omega)]
  exact ih (j + 1) k _ (by rw [List.length_set]; omega) (by rw [List.length_set]; omega) (by omega)
theorem spoilItems_f (xs : List It) (k : Nat) (h1 : xs.length ≤ 1000) (hk : 2000 ≤ k) : ∃ r, QL.tollbarlaw0_SpoilItems.f k xs = some r := spoilItems_l0 xs.length 0 k xs (by omega) (by omega) (by omega)
theorem trees_f (ns : List Nd) (root : Int) (fr : List Int) (s0 s1 : Int) (h1 : ns.length < 2513169434916) (h2 : fr.length < 17592186044416) : ∃ k, QL.tollbarlaw17_Trees.f k ns root fr s0 s1 = some true := by
 refine ⟨ns.length + fr.length + 200000 + 3, ?_⟩
 generalize hk : ns.length + fr.length + 200000 = k
 unfold QL.tollbarlaw17_Trees.f tree_Items.f tree_Meets.f tree_Points.f tree_May.f
 rw [copyTree_f ns root fr h1 h2]
 simp only [Option.bind_some]
 rw [if_pos h2, if_pos h2, if_pos h2, if_pos h2, all_f ns fr root _ (by omega)]
 simp only [Option.bind_some]
 rw [sameTree_f ns root fr _ (by omega) (by omega) (by omega) (by omega)]
 simp only [Option.bind_some, Bool.not_true]
 by_cases hm : mayT (cellN ns) ns.length root fr = true
 ·obtain ⟨t, ht⟩ := mayT_true.1 hm
  have hi := ht.items_le
  have hmay := ht.good.may
  rw [hm, allF_yes ht, itemsF_yes ht, if_neg (by simp), QL.tollbarlaw17_Trees.j0, if_neg (by decide), if_pos rfl]
  simp only [Option.bind_some, tollbarlaw0_Num.f]
  obtain ⟨ra, ea⟩ := spoilItems_f ((items t).map toI) (k + 1) (by simp; omega) (by omega)
  rw [if_pos trivial, sameItems_f _ _ (by simp; omega) (by simp; omega)]
  simp only [Option.bind_some, Bool.not_true]
  rw [QL.tollbarlaw17_Trees.j1, if_neg (by decide), ea, refMay_f]
  simp only [Option.bind_some, tollbarlaw0_Num.f, tollbarlaw17_awake.f, if_true]
  by_cases hs : mayF s0 s1 = true
  ·rw [if_pos hs, meetsF_yes ht hs, pointsF_yes ht hs, if_pos rfl, if_pos rfl, refMeets17_f (items t) s0 s1 _ (by omega) (by omega), refPoints17_f (items t) s0 s1 _ (by omega) hmay hs (by omega)]
   simp only [Option.bind_some]
   have hf : ((items t).filter (meetF s0 s1)).length ≤ 32 := Nat.le_trans (List.length_filter_le _ _) hi
   have hp : (pointsF1 s0 s1 ((items t).filter (meetF s0 s1))).length ≤ 64 := by
    unfold pointsF1
    have g1 := uniqF_le (sortF (ptsOf s0 s1 ((items t).filter (meetF s0 s1))))
    have g2 := ptsOf_le s0 s1 ((items t).filter (meetF s0 s1))
    rw [sortF_length] at g1
    omega
   obtain ⟨rb, eb⟩ := spoilItems_f (((items t).filter (meetF s0 s1)).map toI) k (by simp; omega) (by omega)
   unfold meetsT
   rw [sameItems_f _ _ (by simp; omega) (by simp; omega)]
   simp only [Option.bind_some, if_true]
   rw [sameInts_f _ _ (by omega) (by omega)]
   simp only [Option.bind_some, Bool.not_true]
   rw [QL.tollbarlaw17_Trees.j2, if_neg (by decide), eb]
   simp only [Option.bind_some, tollbarlaw17_awake.f, if_true]
   rw [sameTree_f ns root fr _ (by omega) (by omega) (by omega) (by omega)]
   rfl
  ·rw [if_neg hs, meetsF_no (fun g => hs g.2), pointsF_no (fun g => hs g.2), if_pos rfl, if_pos rfl, if_pos (by simp), if_pos (by simp), sameTree_f ns root fr _ (by omega) (by omega) (by omega) (by omega)]
   rfl
 ·have hf : mayT (cellN ns) ns.length root fr = false := by simpa using hm
  rw [hf, allF_no (mayT_false.1 hf), itemsF_no hf, meetsF_no (fun g => hm g.1), pointsF_no (fun g => hm g.1), if_neg (by simp), QL.tollbarlaw17_Trees.j0, if_neg (by decide), if_neg (by simp)]
  simp [tollbarlaw0_Num.f, tollbarlaw17_awake.f]
end Go.Proofs.Ytgkjpffbgnljeaa.Man
/- The plain law Trees, as its row asks for it. -/
set_option linter.unusedVariables false
namespace Go.Proofs.Ytgkjpffbgnljeaa.Pure
open Go.RowKit Go.Proofs.Ytgkjpffbgnljeaa.QT Go.Proofs.Ytgkjpffbgnljeaa.QL Go.Proofs.Ytgkjpffbgnljeaa.Man Go.Proofs.Ytgkjpffbgnljeaa.OpsTrees
theorem Trees (x0 : S25) (h0 : I25 x0) (x1 : S27) (h1 : I27 x1) : ∃ k, tollbarlaw17_Trees.f k x0.f0 x0.f1 x0.f2 x1.f0 x1.f1 = some true := by
 obtain ⟨⟨_, h1⟩, _, ⟨_, h2⟩⟩ := h0
 have h1' : x0.f0.length < 2513169434916 := by omega
 have h2' : x0.f2.length < 17592186044416 := by omega
 exact trees_f x0.f0 x0.f1 x0.f2 x1.f0 x1.f1 h1' h2'
end Go.Proofs.Ytgkjpffbgnljeaa.Pure
