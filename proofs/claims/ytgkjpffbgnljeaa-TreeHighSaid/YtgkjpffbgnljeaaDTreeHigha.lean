/- Texts of this claim laid together: QG4, TreePb, TreePc, TreeBi, TreePg, PureTreeHigh. -/
import Derived.Test.YtgkjpffbgnljeaaCax
import Derived.Test.YtgkjpffbgnljeaaCba
import Derived.Below
import Derived.Deep.Draws
import Derived.Deep.AppendLies
import Derived.Maps.AppendAt
import Derived.OwnWalk
import Derived.Laws.BytesArg
import Derived.Laws.MakeOwn
import Derived.Laws.OwnMore
import Derived.Deep.OwnRows
import Derived.Tactics
import Derived.Lib.ConvBytes
import Derived.Laws.Slices
import Derived.WalkKit
import Derived.KernelRfl
import Derived.RowKit3
import Derived.Deep.LoopGhost
import Derived.Deep.QuietTactic
import Derived.BigQuiet
import Derived.WideLaws
import Derived.Deep.DeepCutAuto
import Derived.Deep.CutBlock
import Derived.Deep.RegionHeld3
import Derived.Laws.Rows
import Derived.Lib.AppendStr
import Derived.ArgAppend
import Derived.Laws.IdiomCopy
import Derived.OrdersHeld
import Derived.Laws.BitsLemmas
import Derived.RowKit
import Derived.Test.YtgkjpffbgnljeaaCbd
-- written by this session's program mprint.py: functions of the Go program, and their contracts
namespace Go.Proofs.Ytgkjpffbgnljeaa.QG
open Go.RowKit Go.Proofs.Ytgkjpffbgnljeaa.Au Go.Proofs.Ytgkjpffbgnljeaa.QT Go.Proofs.Ytgkjpffbgnljeaa.Man Go.Proofs.Ytgkjpffbgnljeaa.QA Go.Proofs.YtgkjpffbgnljeaaW.PrintWords Go.Proofs.YtgkjpffbgnljeaaW.PrintLast Go.Proofs.YtgkjpffbgnljeaaW.PrintMore
attribute [local go_sem] max2_int min2_int max_two min_two max_three min_three max_four min_four
set_option linter.unusedVariables false
set_option linter.unusedSimpArgs false
mutual
noncomputable def tollbarlaw17_TreeHigh.l0 : Nat → Bool → Int → Int → List (S64) → Int → List Int → Option (Bool)
 | 0, _, _, _, _, _, _ => none
 | k + 1, x1, x5, x7, xqa, xqb, xqc => if x7 ≤ x5 then (if x1 = true then (tollbarlaw17_TreeHigh.j1 k x1 x5 x7 (wrap64 (100 - x7)) xqa xqb xqc) else (tollbarlaw17_TreeHigh.j1 k x1 x5 x7 x7 xqa xqb xqc)) else (if xqb < 0 then (tollbarlaw17_TreeHigh.j2 k x5 true xqa xqb xqc) else (if xqb ≥ (xqa.length : Int) then (tollbarlaw17_TreeHigh.j2 k x5 true xqa xqb xqc) else ((tree_May.f xqa xqb xqc).bind fun t250 => (if t250 = true then (if 0 ≤ xqb then (if xqb < (xqa.length : Int) then (tollbarlaw17_TreeHigh.j2 k x5 (decide (((rd_T64 xqa xqb).f3) > 6)) xqa xqb xqc) else (none)) else (none)) else (tollbarlaw17_TreeHigh.j2 k x5 true xqa xqb xqc)))))
noncomputable def tollbarlaw17_TreeHigh.j1 : Nat → Bool → Int → Int → Int → List (S64) → Int → List Int → Option (Bool)
 | 0, _, _, _, _, _, _, _ => none
 | k + 1, x1, x5, x7, x8, xqa, xqb, xqc => (tollbarlaw17_item.f x8 (wrap64 (x8 + 1)) 0).bind fun bt237 => ((tree_Insert.f xqa xqb xqc bt237.1 bt237.2.1 bt237.2.2).bind fun bt240 => ((tollbarlaw0_Num.f bt240.2.2.2).bind fun t249 => (if t249 = 0 then (tollbarlaw17_TreeHigh.l0 k x1 x5 (wrap64 (x7 + 1)) bt240.1 bt240.2.1 bt240.2.2.1) else (some false))))
noncomputable def tollbarlaw17_TreeHigh.j2 : Nat → Int → Bool → List (S64) → Int → List Int → Option (Bool)
 | 0, _, _, _, _, _ => none
 | k + 1, x5, x63, xqa, xqb, xqc => if x63 = true then (some false) else ((tollbarlaw17_item.f 200 201 0).bind fun bt252 => ((tree_Insert.f xqa xqb xqc bt252.1 bt252.2.1 bt252.2.2).bind fun bt255 => ((tollbarlaw17_awake.f).bind fun t264 => (if t264 = true then ((tollbarlaw0_Num.f bt255.2.2.2).bind fun t265 => (if ((t265 == 1703) == (x5 == 31)) = true then ((tollbarlaw0_Num.f bt255.2.2.2).bind fun t266 => (some ((t266 == 0) == (decide (x5 < 31))))) else (some false))) else (some false)))))
end
noncomputable def tollbarlaw17_TreeHigh.f (k : Nat) (a0 : Int) (a1 : Bool) : Option (Bool) := (tree_New.f).bind fun bt229 => (tollbarlaw17_TreeHigh.l0 k a1 (Go.bits .and .i64 a0 31) 0 bt229.1 bt229.2.1 bt229.2.2)
noncomputable def tollbarlaw17_TreeHigh.T9 : Bool × List (List Nat × List Nat) := (true, [([], []), ([], []), ([], []), ([2], [2]), ([1, 3], [1, 3]), ([0, 4, 4], [0, 4]), ([5], [5]), ([6], [6]), ([6], [6]), ([], []), ([9, 7, 5, 0, 1, 2, 3, 4, 5, 6, 7, 9], [7, 9]), ([8, 10, 0, 1, 2, 3, 4, 5, 6, 7, 8, 9, 10], [8])])
noncomputable def tollbarlaw17_TreeHigh.B9 : List Nat := [0, 0, 0, 4, 14, 31, 63, 127, 127, 0, 767, 2047]
theorem tollbarlaw17_TreeHigh.tab9 : rtab .any (opsOf Try.f8 9) = tollbarlaw17_TreeHigh.T9 := by kernel_rfl
theorem tollbarlaw17_TreeHigh.bits9 : waitsOk tollbarlaw17_TreeHigh.T9.2 tollbarlaw17_TreeHigh.B9 = true := by kernel_rfl
noncomputable def tollbarlaw17_TreeHigh.T15 : Bool × List (List Nat × List Nat) := (true, [([], []), ([], []), ([0, 1, 1], [0, 1]), ([2], [2]), ([3], [3]), ([3], [3]), ([], []), ([6, 4, 2, 0, 1, 2, 3, 4, 6], [4, 6]), ([5, 7, 0, 1, 2, 3, 4, 5, 6, 7], [5])])
noncomputable def tollbarlaw17_TreeHigh.B15 : List Nat := [0, 0, 3, 7, 15, 15, 0, 95, 255]
theorem tollbarlaw17_TreeHigh.tab15 : rtab .any (opsOf Try.f8 15) = tollbarlaw17_TreeHigh.T15 := by kernel_rfl
theorem tollbarlaw17_TreeHigh.bits15 : waitsOk tollbarlaw17_TreeHigh.T15.2 tollbarlaw17_TreeHigh.B15 = true := by kernel_rfl
set_option maxHeartbeats 8000000 in
set_option maxRecDepth 100000 in
theorem tollbarlaw17_TreeHigh.calls (k : Nat) (a0 : Int) (a1 : Bool) (r : Bool) (w : World) (h : tollbarlaw17_TreeHigh.f k a0 a1 = some r) :
  Calls Try.prog 8 #[.int .i64 a0, .bool a1] w fun e w' => e = .returned (.bool r) ∧ Below w.heap.size w w' := by
 have hu25 := Try.underlying25
 have HB := zK (Below.refl w.heap.size w)
 have H : ((tree_New.f).bind fun bt229 => (tollbarlaw17_TreeHigh.l0 k a1 (Go.bits .and .i64 a0 31) 0 bt229.1 bt229.2.1 bt229.2.2)) = some r := h
 clear h
 replace H := yH.mp H
 obtain ⟨⟨t229, t232, t233⟩, A30, H⟩ := H
 replace H : (tollbarlaw17_TreeHigh.l0 k a1 (Go.bits .and .i64 a0 31) 0 t229 t232 t233) = some r := H
 have A3 := zK A30
 clear A30
 have H' := zK H
 clear H
 go_enter Try.func8, Try.ntmps8
 go_wp2_with (first | ((with_reducible refine gate_callee (f := 33) rfl ?_); refine goesL_ (some 15) rfl rfl Try.func33 (by kernel_rfl) rfl #[] rfl zt ?_; (with_reducible refine (tree_New.calls  t229 t232 t233 _ A3.out).mono ?_); rintro e w4 ⟨v230, v234, rfl, ho0, ho1, hb⟩; refine ⟨_, rfl, ?_⟩; have n0_ := zK (zV ho0 (yG (zl HB.out))); have n1_ := zK (zV ho1 (yG (zl HB.out))); have n2_ := zK (yF (zl HB.out) hb); clear HB; have HO231 := n0_; have HO235 := n1_; have HB := n2_; clear n0_ n1_ n2_; (try clear hb); (try clear hb2); (try clear hk); (try clear hi); (try clear ho0); (try clear ho1)) | ((with_reducible refine gate_dst (N := 6) rfl ?_); (try (refine gate_guard (by rfl) ?_; dsimp only)); refine box_event ?hg (N := 6) ?hd (cs := #[.slice none 0 0, .int .i64 0, .slice none 0 0]) (t := 25) ?hr ?_; (case hd => rfl); (case hg => rfl); (case hr => first | (go_simp; done) | (go_simp; rfl)); intro gb236 hg w5 hbox hb; have n0_ := zK (zO (zr HO231.out) hb); have n1_ := zK (zO (zr HO235.out) hb); have n2_ := zK (yF (zl HB.out) hb); have n3_ := zK (hbox); have n4_ := zK ((by rw [hg]; exact (yG (zl HB.out)) : w.heap.size ≤ gb236)); have n5_ := zK ((by rw [hg]; exact (yG (zl HB.out)) : w.heap.size ≤ gb236)); clear HO231; clear HO235; clear HB; have HO231 := n0_; have HO235 := n1_; have HB := n2_; have BK236 := n3_; have GW236 := n4_; have GE236 := n5_; clear n0_ n1_ n2_ n3_ n4_ n5_; clear hb hbox hg; obtain ⟨Ao6, co6, eo6⟩ := yE HO231.out; subst eo6; have hcz7_0 : w5.cell? ⟨gb236, 0, none⟩ = some (.slice none 0 0) := (zQ BK236.out 0).trans rfl; have hcz7_1 : w5.cell? ⟨gb236, 1, none⟩ = some (.int .i64 0) := (zQ BK236.out 1).trans rfl; have hcz7_2 : w5.cell? ⟨gb236, 2, none⟩ = some (.slice none 0 0) := (zQ BK236.out 2).trans rfl; have hfz7_0 := zR BK236.out 0; have hfz7_1 := zR BK236.out 1; have hfz7_2 := zR BK236.out 2; obtain ⟨Ao8, co8, eo8⟩ := yE HO235.out; subst eo8))
 go_loopg [7] k (fun kq v7 w' => ∃ (x7_1 : Int) (xqa_1 : List (S64)) (xqb_1 : Int) (xqc_1 : List Int) (uqa : Value) (uqc : Value), v7 = .int .i64 x7_1 ∧ Aside0 (tollbarlaw17_TreeHigh.l0 kq a1 (Go.bits .and .i64 a0 31) x7_1 xqa_1 xqb_1 xqc_1 = some r) ∧ Aside0 (kq ≤ k) ∧ Aside0 (Kd.R k64 64 w' w.heap.size (fun _ => True) uqa xqa_1) ∧ Aside0 (Kd.R (Kd.int .i64) 3 w' w.heap.size (fun _ => True) uqc xqc_1) ∧ Aside0 (w'.heap[gb236]? = some (.cells #[uqa, .int .i64 xqb_1, uqc] 25 (0, 0))) ∧ Aside0 (Below w.heap.size w w'))
 case atStart => exact ⟨(0), (t229), (t232), (t233), (.slice Ao6 t229.length co6), (.slice Ao8 t233.length co8), zz, H', ⟨Nat.le_refl _⟩, ⟨by (with_reducible repeat (first | apply zA | apply zB | apply zC)); exact Kd.R_mono (Kd.R_far (p := ⟨gb236, 2, none⟩) (Kd.R_far (p := ⟨gb236, 1, none⟩) (Kd.R_far (p := ⟨gb236, 0, none⟩) (Kd.R_types HO231.out BK236.out (by decide)) (fun _ hk => hk.2) (.slice Ao6 t229.length co6)) (fun _ hk => hk.2) (.int .i64 t232)) (fun _ hk => hk.2) (.slice Ao8 t233.length co8)) (fun _ hk => trivial)⟩, ⟨by (with_reducible repeat (first | apply zA | apply zB | apply zC)); exact Kd.R_mono (Kd.R_far (p := ⟨gb236, 2, none⟩) (Kd.R_far (p := ⟨gb236, 1, none⟩) (Kd.R_far (p := ⟨gb236, 0, none⟩) (Kd.R_types HO235.out BK236.out (by decide)) (fun _ hk => hk.2) (.slice Ao6 t229.length co6)) (fun _ hk => hk.2) (.int .i64 t232)) (fun _ hk => hk.2) (.slice Ao8 t233.length co8)) (fun _ hk => trivial)⟩, ⟨by (with_reducible repeat (first | refine zD ?_ _ | refine zE ?_ | refine zF ?_ _)); refine blk_put (cs := #[.slice Ao6 t229.length co6, .int .i64 t232, .slice none 0 0]) ?_ 2 _ rfl; (with_reducible repeat (first | refine zD ?_ _ | refine zE ?_ | refine zF ?_ _)); refine blk_put (cs := #[.slice Ao6 t229.length co6, .int .i64 0, .slice none 0 0]) ?_ 1 _ rfl; (with_reducible repeat (first | refine zD ?_ _ | refine zE ?_ | refine zF ?_ _)); refine blk_put (cs := #[.slice none 0 0, .int .i64 0, .slice none 0 0]) ?_ 0 _ rfl; (with_reducible repeat (first | refine zD ?_ _ | refine zE ?_ | refine zF ?_ _)); exact BK236.out⟩, ⟨by repeat (first | (with_reducible first | exact HB.out | apply zG | apply zH | apply zI | refine zL ?_ GE236.out) | exact HB.out)⟩⟩
 case round =>
  clear H'
  try clear p2
  try clear c3
  try clear c8
  try clear hcz7_0
  try clear hcz7_1
  try clear hcz7_2
  try clear hfz7_0
  try clear hfz7_1
  try clear hfz7_2
  obtain ⟨x7_1, xqa_1, xqb_1, xqc_1, uqa, uqc, rfl, HA, HK1, HO_qa, HO_qc, BK236, HB⟩ := hrel
  cases gk with
  | zero => exact absurd HA.out (by simp [tollbarlaw17_TreeHigh.l0])
  | succ k1 =>
   have H := HA.out
   clear HA
   simp only [tollbarlaw17_TreeHigh.l0] at H
   by_cases c9 : x7_1 ≤ (Go.bits .and .i64 a0 31)
   ·rw [if_pos c9] at H
    have c9b0 : decide (x7_1 ≤ (Go.bits .and .i64 a0 31)) = true := decide_eq_true c9
    clear c9
    have HC10 := zK H
    clear H
    go_upto_if 22 with (fail)
    go_cut [8] (fun v8 wc => ∃ (kq : Nat) (x8_9 : Int), v8 = .int .i64 x8_9 ∧ Aside0 (tollbarlaw17_TreeHigh.j1 kq a1 (Go.bits .and .i64 a0 31) x7_1 x8_9 xqa_1 xqb_1 xqc_1 = some r) ∧ Aside0 (kq ≤ k1) ∧ Aside0 (Kd.R k64 64 wc w.heap.size (fun _ => True) uqa xqa_1) ∧ Aside0 (Kd.R (Kd.int .i64) 3 wc w.heap.size (fun _ => True) uqc xqc_1) ∧ Aside0 (wc.heap[gb236]? = some (.cells #[uqa, .int .i64 xqb_1, uqc] 25 (0, 0))) ∧ Aside0 (Below w.heap.size w wc))
    case first =>
     have H := HC10.out
     clear HC10
     by_cases c11 : a1 = true
     ·subst c11
      have H1 : (tollbarlaw17_TreeHigh.j1 k1 true (Go.bits .and .i64 a0 31) x7_1 (wrap64 (100 - x7_1)) xqa_1 xqb_1 xqc_1) = some r := by rw [if_pos rfl] at H; exact H
      clear H
      have H := H1
      clear H1
      have H' := zK H
      clear H
      go_wp2
      go_meet
      case rel => exact ⟨_, (wrap64 (100 - x7_1)), zz, H', ⟨by have := HK1.out; first | omega | exact Nat.le_refl _⟩, ⟨by (with_reducible repeat (first | apply zA | apply zB | apply zC)); exact HO_qa.out⟩, ⟨by (with_reducible repeat (first | apply zA | apply zB | apply zC)); exact HO_qc.out⟩, ⟨by (with_reducible repeat (first | refine zD ?_ _ | refine zE ?_ | refine zF ?_ _)); exact BK236.out⟩, ⟨by repeat (first | (with_reducible first | exact HB.out | apply zG | apply zH | apply zI | refine zL ?_ GE236.out) | exact HB.out)⟩⟩
     ·replace c11 := Bool.eq_false_iff.mpr c11
      subst c11
      have H1 : (tollbarlaw17_TreeHigh.j1 k1 false (Go.bits .and .i64 a0 31) x7_1 x7_1 xqa_1 xqb_1 xqc_1) = some r := by rw [if_neg (show ¬ (false = true) by decide)] at H; exact H
      clear H
      have H := H1
      clear H1
      have H' := zK H
      clear H
      go_wp2
      go_meet
      case rel => exact ⟨_, (x7_1), zz, H', ⟨by have := HK1.out; first | omega | exact Nat.le_refl _⟩, ⟨by (with_reducible repeat (first | apply zA | apply zB | apply zC)); exact HO_qa.out⟩, ⟨by (with_reducible repeat (first | apply zA | apply zB | apply zC)); exact HO_qc.out⟩, ⟨by (with_reducible repeat (first | refine zD ?_ _ | refine zE ?_ | refine zF ?_ _)); exact BK236.out⟩, ⟨by repeat (first | (with_reducible first | exact HB.out | apply zG | apply zH | apply zI | refine zL ?_ GE236.out) | exact HB.out)⟩⟩
    case rest =>
     clear HC10
     try clear c1
     try clear p2
     try clear c3
     try clear p6
     try clear c8
     try clear c9
     try clear c9b0
     try clear c11
     try clear hcz7_0
     try clear hcz7_1
     try clear hcz7_2
     try clear hfz7_0
     try clear hfz7_1
     try clear hfz7_2
     try clear p2
     obtain ⟨kq, x8_9, rfl, HA, HJ9, HO_qa, HO_qc, BK236, HB⟩ := hcut
     cases kq with
     | zero => exact absurd HA.out (by simp [tollbarlaw17_TreeHigh.j1])
     | succ kj9 =>
      have H := HA.out
      clear HA
      simp only [tollbarlaw17_TreeHigh.j1] at H
      replace H := yH.mp H
      obtain ⟨⟨t237, t238, t239⟩, A120, H⟩ := H
      replace H : ((tree_Insert.f xqa_1 xqb_1 xqc_1 t237 t238 t239).bind fun bt240 => ((tollbarlaw0_Num.f bt240.2.2.2).bind fun t249 => (if t249 = 0 then (tollbarlaw17_TreeHigh.l0 kj9 a1 (Go.bits .and .i64 a0 31) (wrap64 (x7_1 + 1)) bt240.1 bt240.2.1 bt240.2.2.1) else (some false)))) = some r := H
      have A12 := zK A120
      clear A120
      replace H := yH.mp H
      obtain ⟨⟨t240, t243, t244, t247⟩, A130, H⟩ := H
      replace H : ((tollbarlaw0_Num.f t247).bind fun t249 => (if t249 = 0 then (tollbarlaw17_TreeHigh.l0 kj9 a1 (Go.bits .and .i64 a0 31) (wrap64 (x7_1 + 1)) t240 t243 t244) else (some false))) = some r := H
      have A13 := zK A130
      clear A130
      replace H := yH.mp H
      obtain ⟨t249, A140, H⟩ := H
      replace H : (if t249 = 0 then (tollbarlaw17_TreeHigh.l0 kj9 a1 (Go.bits .and .i64 a0 31) (wrap64 (x7_1 + 1)) t240 t243 t244) else (some false)) = some r := H
      have A14 := zK A140
      clear A140
      by_cases c15 : t249 = 0
      ·rw [if_pos c15] at H
       have c15b0 : (t249 == 0) = true := yI.mpr c15
       have c15b1 : (t249 != 0) = false := yJ.mpr c15
       clear c15
       have H' := zK H
       clear H
       obtain ⟨Ao16, co16, eo16⟩ := yE HO_qa.out
       subst eo16
       obtain ⟨Ao17, co17, eo17⟩ := yE HO_qc.out
       subst eo17
       try go_wp2
       have n0_ := zK (zC HO_qa.out)
       have n1_ := zK (zC HO_qc.out)
       have n2_ := zK (zE BK236.out)
       have n3_ := zK (zI HB.out)
       clear HO_qa
       clear HO_qc
       clear BK236
       clear HB
       have HO_qa := n0_
       have HO_qc := n1_
       have BK236 := n2_
       have HB := n3_
       clear n0_ n1_ n2_ n3_
       refine start_ (n := 12) (S := fun w' => w'.cell? ⟨gb236, 0, none⟩ = some (.slice Ao16 xqa_1.length co16) ∧ w'.cell? ⟨gb236, 1, none⟩ = some (.int .i64 xqb_1) ∧ w'.cell? ⟨gb236, 2, none⟩ = some (.slice Ao17 xqc_1.length co17)) (ds := []) #[false, false, false, false, false, false, false, false, false, false, false, false] (by kernel_rfl) rfl rfl ⟨(zQ BK236.out 0).trans rfl, (zQ BK236.out 1).trans rfl, (zQ BK236.out 2).trans rfl⟩ (fun hHeld => ?_); refine with_tabW tollbarlaw17_TreeHigh.tab9 tollbarlaw17_TreeHigh.bits9 (fun HT_ HW_ => ?_)
       generalize wc.drew = w18 at HO_qa HO_qc BK236 HB hHeld ⊢
       refine pure_ (i := 1) (N := some 27) (v := ?_) (a' := ?_) #[false, true, false, false, false, false, false, false, false, false, false, false] rfl rfl (any_of HT_.out (by kernel_rfl)) (fun _ _ _ h => h) (Or.inl ⟨by rfl, ?_⟩) ?_ ?_
       rotate_left
       ·intro w'
        go_simp
        with_reducible rfl
       rotate_left
       ·simp only [Act.put, zY, zZ, yA, i64_w, i32_w]
        rfl
       refine pure_ (i := 2) (N := some 28) (v := ?_) (a' := ?_) #[false, true, true, false, false, false, false, false, false, false, false, false] rfl rfl (any_of HT_.out (by kernel_rfl)) (fun _ _ _ h => h) (Or.inl ⟨by rfl, ?_⟩) ?_ ?_
       rotate_left
       ·intro w'
        go_simp
        with_reducible rfl
       rotate_left
       ·simp only [Act.put, zY, zZ, yA, i64_w, i32_w]
        rfl
       refine pure_ (i := 3) (N := some 29) (v := ?_) (a' := ?_) #[false, true, true, true, false, false, false, false, false, false, false, false] rfl rfl (any_of HT_.out (by kernel_rfl)) (fun _ _ _ h => h) (Or.inl ⟨by rfl, ?_⟩) ?_ ?_
       rotate_left
       ·intro w'
        go_simp
        with_reducible rfl
       rotate_left
       ·simp only [Act.put, zY, zZ, yA, i64_w, i32_w]
        rfl
       refine take_ (i := 0) (N := some 26) (v := ?_) (a' := ?_) #[true, true, true, true, false, false, false, false, false, false, false, false] rfl rfl (take_ofW HT_.out HW_.out (by kernel_rfl)) (fun _ _ _ h => h) (Or.inl ⟨by rfl, ?_⟩) hHeld ?_ ?_
       rotate_left
       ·rintro w' ⟨s0, s1, s2⟩
        go_simp
        with_reducible rfl
       rotate_left
       ·simp only [Act.put, zY, zZ, yA, i64_w, i32_w]
        rfl
       refine join_ (σ := Value × Value × Nat) 2 #[true, true, true, true, true, true, true, true, true, true, false, false] (fun s_ => [(30, .agg #[.int .i64 t237, .int .i64 t238, .int .i64 t239]), (31, .tuple #[.agg #[s_.1, .int .i64 t243, s_.2.1], .int .i64 t247]), (9, .pointer (some ⟨s_.2.2, 0, none⟩)), (25, .tuple #[.agg #[s_.1, .int .i64 t243, s_.2.1], .int .i64 t247]), (32, .agg #[s_.1, .int .i64 t243, s_.2.1]), (33, .int .i64 t247)]) (fun s_ w' => (w'.cell? ⟨gb236, 0, none⟩ = some (.slice Ao16 xqa_1.length co16) ∧ w'.cell? ⟨gb236, 1, none⟩ = some (.int .i64 xqb_1) ∧ w'.cell? ⟨gb236, 2, none⟩ = some (.slice Ao17 xqc_1.length co17)) ∧ (Kd.R k64 64 w' w.heap.size (fun k_ => some k_ ≠ (.slice Ao16 xqa_1.length co16 : Value).ownBlock) s_.1 t240) ∧ (Kd.R (Kd.int .i64) 3 w' w.heap.size (fun k_ => some k_ ≠ (.slice Ao17 xqc_1.length co17 : Value).ownBlock) s_.2.1 t244) ∧ (Kd.R k64 64 w' w.heap.size (fun k_ => some k_ ≠ (s_.1 : Value).ownBlock) (.slice Ao16 xqa_1.length co16) xqa_1) ∧ (Kd.R (Kd.int .i64) 3 w' w.heap.size (fun k_ => some k_ ≠ (s_.2.1 : Value).ownBlock) (.slice Ao17 xqc_1.length co17) xqc_1) ∧ (w'.heap[gb236]? = some (.cells #[.slice Ao16 xqa_1.length co16, .int .i64 xqb_1, .slice Ao17 xqc_1.length co17] 25 (0, 0))) ∧ (w'.heap[s_.2.2]? = some (.cells #[.slice none 0 0, .int .i64 0, .slice none 0 0] 25 (0, 0))) ∧ (w.heap.size ≤ s_.2.2) ∧ (w.heap.size ≤ s_.2.2) ∧ (gb236 ≠ s_.2.2) ∧ (s_.2.2 ≠ gb236) ∧ (Below w.heap.size w w')) ?_ ?_
       rotate_left
       ·intro hCont
        refine two_ (i := 4) (j := 9) (Ni := some 30) (Nj := some 9) #[true, true, true, true, true, false, false, false, false, false, false, false] #[true, true, true, true, false, false, false, false, false, true, false, false] rfl rfl rfl rfl (two_of HT_.out (by kernel_rfl)) (by decide) (by decide) (fun K hK => ?_) (fun K hK => ?_)
        ·skip
         refine goes_ Try.func35 (by kernel_rfl) rfl #[.int .i64 x8_9, .int .i64 (wrap64 (x8_9 + 1)), .int .i64 0] (by rfl) rfl rfl zt ?_
         with_reducible refine (tollbarlaw17_item.calls x8_9 (wrap64 (x8_9 + 1)) 0 t237 t238 t239 _ A12.out).mono ?_
         rintro e w19 ⟨rfl, hb⟩
         refine ⟨_, rfl, ?_⟩
         have n0_ := zK (zO (zr HO_qa.out) hb)
         have n1_ := zK (zO (zr HO_qc.out) hb)
         have n2_ := zK (zP (g := gb236) (o := .cells #[.slice Ao16 xqa_1.length co16, .int .i64 xqb_1, .slice Ao17 xqc_1.length co17] 25 (0, 0)) (zb BK236.out) hb)
         have n3_ := zK (yF (zl HB.out) hb)
         clear HO_qa
         clear HO_qc
         clear BK236
         clear HB
         have HO_qa := n0_
         have HO_qc := n1_
         have BK236 := n2_
         have HB := n3_
         clear n0_ n1_ n2_ n3_
         (try clear hb)
         (try clear hb2)
         (try clear hk)
         (try clear hi)
         refine hK.out _ _ ⟨(zQ BK236.out 0).trans rfl, (zQ BK236.out 1).trans rfl, (zQ BK236.out 2).trans rfl⟩ (fun hHeld => ?_)
         clear hK K
         refine norm_ (a' := ?_) ?_ ?_
         rotate_left
         ·show Act.put _ (some 30) _ = _
          simp only [Act.put, zY, zZ, yA, i64_w, i32_w]
          rfl
         refine two_ (i := 5) (j := 9) (Ni := some 31) (Nj := some 9) #[true, true, true, true, true, true, false, false, false, false, false, false] #[true, true, true, true, true, false, false, false, false, true, false, false] rfl rfl rfl rfl (two_of HT_.out (by kernel_rfl)) (by decide) (by decide) (fun K hK => ?_) (fun K hK => ?_)
         ·skip
          refine goes_ Try.func26 (by kernel_rfl) rfl #[.agg #[.slice Ao16 xqa_1.length co16, .int .i64 xqb_1, .slice Ao17 xqc_1.length co17], .agg #[.int .i64 t237, .int .i64 t238, .int .i64 t239]] (by rfl) rfl rfl zt ?_
          with_reducible refine (tree_Insert.calls _ _ xqa_1 xqb_1 _ _ xqc_1 t237 t238 t239 t240 t243 t244 t247 _ ?side1 ?side2 ?side3 ?side4 A13.out).mono ?_
          (case side1 => exact zc (zX HO_qa.out).2.2)
          (case side2 => exact (zX HO_qa.out).2.1)
          (case side3 => exact zc (zX HO_qc.out).2.2)
          (case side4 => exact (zX HO_qc.out).2.1)
          rintro e w20 ⟨v241, v245, rfl, ho0, ho1, hb⟩
          refine ⟨_, rfl, ?_⟩
          have n0_ := zK (yC (zr HO_qa.out) (Kd.R_base ho0) hb)
          have n1_ := zK (yC (zr HO_qc.out) (Kd.R_base ho1) hb)
          have n2_ := zK (zV (zW ho0 (yB (zr HO_qa.out))) (yG (zl HB.out)))
          have n3_ := zK (zV (zW ho1 (yB (zr HO_qc.out))) (yG (zl HB.out)))
          have n4_ := zK (zP (g := gb236) (o := .cells #[.slice Ao16 xqa_1.length co16, .int .i64 xqb_1, .slice Ao17 xqc_1.length co17] 25 (0, 0)) (zb BK236.out) hb)
          have n5_ := zK (yF (zl HB.out) hb)
          clear HO_qa
          clear HO_qc
          clear BK236
          clear HB
          have HO_qa := n0_
          have HO_qc := n1_
          have HO242 := n2_
          have HO246 := n3_
          have BK236 := n4_
          have HB := n5_
          clear n0_ n1_ n2_ n3_ n4_ n5_
          (try clear hb)
          (try clear hb2)
          (try clear hk)
          (try clear hi)
          (try clear ho0)
          (try clear ho1)
          refine hK.out _ _ ⟨(zQ BK236.out 0).trans rfl, (zQ BK236.out 1).trans rfl, (zQ BK236.out 2).trans rfl⟩ (fun hHeld => ?_)
          clear hK K
          refine norm_ (a' := ?_) ?_ ?_
          rotate_left
          ·show Act.put _ (some 31) _ = _
           simp only [Act.put, zY, zZ, yA, i64_w, i32_w]
           rfl
          refine pure_ (i := 6) (N := some 25) (v := ?_) (a' := ?_) #[true, true, true, true, true, true, true, false, false, false, false, false] rfl rfl (any_of HT_.out (by kernel_rfl)) (fun _ _ _ h => h) (Or.inl ⟨by rfl, ?_⟩) ?_ ?_
          rotate_left
          ·intro w'
           go_simp
           with_reducible rfl
          rotate_left
          ·simp only [Act.put, zY, zZ, yA, i64_w, i32_w]
           rfl
          refine pure_ (i := 7) (N := some 32) (v := ?_) (a' := ?_) #[true, true, true, true, true, true, true, true, false, false, false, false] rfl rfl (any_of HT_.out (by kernel_rfl)) (fun _ _ _ h => h) (Or.inl ⟨by rfl, ?_⟩) ?_ ?_
          rotate_left
          ·intro w'
           go_simp
           with_reducible rfl
          rotate_left
          ·simp only [Act.put, zY, zZ, yA, i64_w, i32_w]
           rfl
          refine pure_ (i := 8) (N := some 33) (v := ?_) (a' := ?_) #[true, true, true, true, true, true, true, true, true, false, false, false] rfl rfl (any_of HT_.out (by kernel_rfl)) (fun _ _ _ h => h) (Or.inl ⟨by rfl, ?_⟩) ?_ ?_
          rotate_left
          ·intro w'
           go_simp
           with_reducible rfl
          rotate_left
          ·simp only [Act.put, zY, zZ, yA, i64_w, i32_w]
           rfl
          refine one_ (i := 9) (N := some 9) #[true, true, true, true, true, true, true, true, true, true, false, false] rfl rfl (one_of HT_.out (by kernel_rfl)) (by decide) (fun K hK => ?_)
          refine box_step ?hg (N := 9) ?hd (cs := #[.slice none 0 0, .int .i64 0, .slice none 0 0]) (t := 25) ?hr ?_; (case hd => rfl); (case hg => rfl); (case hr => first | (go_simp; done) | (go_simp; rfl))
          intro gb248 hg w21 hbox hb
          have n0_ := zK (zO (zr HO_qa.out) hb)
          have n1_ := zK (zO (zr HO_qc.out) hb)
          have n2_ := zK (zO (zr HO242.out) hb)
          have n3_ := zK (zO (zr HO246.out) hb)
          have n4_ := zK (zP (g := gb236) (o := .cells #[.slice Ao16 xqa_1.length co16, .int .i64 xqb_1, .slice Ao17 xqc_1.length co17] 25 (0, 0)) (zb BK236.out) hb)
          have n5_ := zK (yF (zl HB.out) hb)
          have n6_ := zK (hbox)
          have n7_ := zK ((by rw [hg]; exact (yG (zl HB.out)) : w.heap.size ≤ gb248))
          have n8_ := zK ((by rw [hg]; exact (yG (zl HB.out)) : w.heap.size ≤ gb248))
          have n9_ := zK ((by rw [hg]; exact zN (blk_lt (g := gb236) (o := .cells #[.slice Ao16 xqa_1.length co16, .int .i64 xqb_1, .slice Ao17 xqc_1.length co17] 25 (0, 0)) (zb BK236.out)) : gb236 ≠ gb248))
          have n10_ := zK ((by rw [hg]; exact Nat.ne_of_gt (blk_lt (g := gb236) (o := .cells #[.slice Ao16 xqa_1.length co16, .int .i64 xqb_1, .slice Ao17 xqc_1.length co17] 25 (0, 0)) (zb BK236.out)) : gb248 ≠ gb236))
          clear HO_qa
          clear HO_qc
          clear HO242
          clear HO246
          clear BK236
          clear HB
          have HO_qa := n0_
          have HO_qc := n1_
          have HO242 := n2_
          have HO246 := n3_
          have BK236 := n4_
          have HB := n5_
          have BK248 := n6_
          have GW248 := n7_
          have GE248 := n8_
          have NB236_248 := n9_
          have NB248_236 := n10_
          clear n0_ n1_ n2_ n3_ n4_ n5_ n6_ n7_ n8_ n9_ n10_
          clear hb hbox hg
          refine hK.out _ _ ⟨(zQ BK236.out 0).trans rfl, (zQ BK236.out 1).trans rfl, (zQ BK236.out 2).trans rfl⟩ (fun hHeld => ?_)
          clear hK K
          refine norm_ (a' := ?_) ?_ ?_
          rotate_left
          ·show Act.put _ (some 9) _ = _
           simp only [Act.put, zY, zZ, yA, i64_w, i32_w]
           rfl
          exact norm_ (by simp only [putAll, Act.put, zY, zZ, yA]) (hCont (v241, v245, gb248) _ ⟨hHeld, (by (with_reducible repeat (first | apply zA | apply zB | apply zC)); exact Kd.R_mono HO242.out (fun _ hk => hk.2)), (by (with_reducible repeat (first | apply zA | apply zB | apply zC)); exact Kd.R_mono HO246.out (fun _ hk => hk.2)), (by (with_reducible repeat (first | apply zA | apply zB | apply zC)); exact Kd.R_mono HO_qa.out (fun _ hk => hk.2)), (by (with_reducible repeat (first | apply zA | apply zB | apply zC)); exact Kd.R_mono HO_qc.out (fun _ hk => hk.2)), (zb BK236.out), (zb BK248.out), GW248.out, GE248.out, NB236_248.out, NB248_236.out, (zl HB.out)⟩)
         ·skip
          refine box_step ?hg (N := 9) ?hd (cs := #[.slice none 0 0, .int .i64 0, .slice none 0 0]) (t := 25) ?hr ?_; (case hd => rfl); (case hg => rfl); (case hr => first | (go_simp; done) | (go_simp; rfl))
          intro gb248 hg w20 hbox hb
          have n0_ := zK (zO (zr HO_qa.out) hb)
          have n1_ := zK (zO (zr HO_qc.out) hb)
          have n2_ := zK (zP (g := gb236) (o := .cells #[.slice Ao16 xqa_1.length co16, .int .i64 xqb_1, .slice Ao17 xqc_1.length co17] 25 (0, 0)) (zb BK236.out) hb)
          have n3_ := zK (yF (zl HB.out) hb)
          have n4_ := zK (hbox)
          have n5_ := zK ((by rw [hg]; exact (yG (zl HB.out)) : w.heap.size ≤ gb248))
          have n6_ := zK ((by rw [hg]; exact (yG (zl HB.out)) : w.heap.size ≤ gb248))
          have n7_ := zK ((by rw [hg]; exact zN (blk_lt (g := gb236) (o := .cells #[.slice Ao16 xqa_1.length co16, .int .i64 xqb_1, .slice Ao17 xqc_1.length co17] 25 (0, 0)) (zb BK236.out)) : gb236 ≠ gb248))
          have n8_ := zK ((by rw [hg]; exact Nat.ne_of_gt (blk_lt (g := gb236) (o := .cells #[.slice Ao16 xqa_1.length co16, .int .i64 xqb_1, .slice Ao17 xqc_1.length co17] 25 (0, 0)) (zb BK236.out)) : gb248 ≠ gb236))
          clear HO_qa
          clear HO_qc
          clear BK236
          clear HB
          have HO_qa := n0_
          have HO_qc := n1_
          have BK236 := n2_
          have HB := n3_
          have BK248 := n4_
          have GW248 := n5_
          have GE248 := n6_
          have NB236_248 := n7_
          have NB248_236 := n8_
          clear n0_ n1_ n2_ n3_ n4_ n5_ n6_ n7_ n8_
          clear hb hbox hg
          refine hK.out _ _ ⟨(zQ BK236.out 0).trans rfl, (zQ BK236.out 1).trans rfl, (zQ BK236.out 2).trans rfl⟩ (fun hHeld => ?_)
          clear hK K
          refine norm_ (a' := ?_) ?_ ?_
          rotate_left
          ·show Act.put _ (some 9) _ = _
           simp only [Act.put, zY, zZ, yA, i64_w, i32_w]
           rfl
          refine one_ (i := 5) (N := some 31) #[true, true, true, true, true, true, false, false, false, true, false, false] rfl rfl (one_of HT_.out (by kernel_rfl)) (by decide) (fun K hK => ?_)
          refine goes_ Try.func26 (by kernel_rfl) rfl #[.agg #[.slice Ao16 xqa_1.length co16, .int .i64 xqb_1, .slice Ao17 xqc_1.length co17], .agg #[.int .i64 t237, .int .i64 t238, .int .i64 t239]] (by rfl) rfl rfl zt ?_
          with_reducible refine (tree_Insert.calls _ _ xqa_1 xqb_1 _ _ xqc_1 t237 t238 t239 t240 t243 t244 t247 _ ?side1 ?side2 ?side3 ?side4 A13.out).mono ?_
          (case side1 => exact zc (zX HO_qa.out).2.2)
          (case side2 => exact (zX HO_qa.out).2.1)
          (case side3 => exact zc (zX HO_qc.out).2.2)
          (case side4 => exact (zX HO_qc.out).2.1)
          rintro e w21 ⟨v241, v245, rfl, ho0, ho1, hb⟩
          refine ⟨_, rfl, ?_⟩
          have n0_ := zK (yC (zr HO_qa.out) (Kd.R_base ho0) hb)
          have n1_ := zK (yC (zr HO_qc.out) (Kd.R_base ho1) hb)
          have n2_ := zK (zV (zW ho0 (yB (zr HO_qa.out))) (yG (zl HB.out)))
          have n3_ := zK (zV (zW ho1 (yB (zr HO_qc.out))) (yG (zl HB.out)))
          have n4_ := zK (zP (g := gb236) (o := .cells #[.slice Ao16 xqa_1.length co16, .int .i64 xqb_1, .slice Ao17 xqc_1.length co17] 25 (0, 0)) (zb BK236.out) hb)
          have n5_ := zK (zP (g := gb248) (o := .cells #[.slice none 0 0, .int .i64 0, .slice none 0 0] 25 (0, 0)) (zb BK248.out) hb)
          have n6_ := zK (yF (zl HB.out) hb)
          clear HO_qa
          clear HO_qc
          clear BK236
          clear BK248
          clear HB
          have HO_qa := n0_
          have HO_qc := n1_
          have HO242 := n2_
          have HO246 := n3_
          have BK236 := n4_
          have BK248 := n5_
          have HB := n6_
          clear n0_ n1_ n2_ n3_ n4_ n5_ n6_
          (try clear hb)
          (try clear hb2)
          (try clear hk)
          (try clear hi)
          (try clear ho0)
          (try clear ho1)
          refine hK.out _ _ ⟨(zQ BK236.out 0).trans rfl, (zQ BK236.out 1).trans rfl, (zQ BK236.out 2).trans rfl⟩ (fun hHeld => ?_)
          clear hK K
          refine norm_ (a' := ?_) ?_ ?_
          rotate_left
          ·show Act.put _ (some 31) _ = _
           simp only [Act.put, zY, zZ, yA, i64_w, i32_w]
           rfl
          refine pure_ (i := 6) (N := some 25) (v := ?_) (a' := ?_) #[true, true, true, true, true, true, true, false, false, true, false, false] rfl rfl (any_of HT_.out (by kernel_rfl)) (fun _ _ _ h => h) (Or.inl ⟨by rfl, ?_⟩) ?_ ?_
          rotate_left
          ·intro w'
           go_simp
           with_reducible rfl
          rotate_left
          ·simp only [Act.put, zY, zZ, yA, i64_w, i32_w]
           rfl
          refine pure_ (i := 7) (N := some 32) (v := ?_) (a' := ?_) #[true, true, true, true, true, true, true, true, false, true, false, false] rfl rfl (any_of HT_.out (by kernel_rfl)) (fun _ _ _ h => h) (Or.inl ⟨by rfl, ?_⟩) ?_ ?_
          rotate_left
          ·intro w'
           go_simp
           with_reducible rfl
          rotate_left
          ·simp only [Act.put, zY, zZ, yA, i64_w, i32_w]
           rfl
          refine pure_ (i := 8) (N := some 33) (v := ?_) (a' := ?_) #[true, true, true, true, true, true, true, true, true, true, false, false] rfl rfl (any_of HT_.out (by kernel_rfl)) (fun _ _ _ h => h) (Or.inl ⟨by rfl, ?_⟩) ?_ ?_
          rotate_left
          ·intro w'
           go_simp
           with_reducible rfl
          rotate_left
          ·simp only [Act.put, zY, zZ, yA, i64_w, i32_w]
           rfl
          exact norm_ (by simp only [putAll, Act.put, zY, zZ, yA]) (hCont (v241, v245, gb248) _ ⟨hHeld, (by (with_reducible repeat (first | apply zA | apply zB | apply zC)); exact Kd.R_mono HO242.out (fun _ hk => hk.2)), (by (with_reducible repeat (first | apply zA | apply zB | apply zC)); exact Kd.R_mono HO246.out (fun _ hk => hk.2)), (by (with_reducible repeat (first | apply zA | apply zB | apply zC)); exact Kd.R_mono HO_qa.out (fun _ hk => hk.2)), (by (with_reducible repeat (first | apply zA | apply zB | apply zC)); exact Kd.R_mono HO_qc.out (fun _ hk => hk.2)), (zb BK236.out), (zb BK248.out), GW248.out, GE248.out, NB236_248.out, NB248_236.out, (zl HB.out)⟩)
        ·skip
         refine box_step ?hg (N := 9) ?hd (cs := #[.slice none 0 0, .int .i64 0, .slice none 0 0]) (t := 25) ?hr ?_; (case hd => rfl); (case hg => rfl); (case hr => first | (go_simp; done) | (go_simp; rfl))
         intro gb248 hg w19 hbox hb
         have n0_ := zK (zO (zr HO_qa.out) hb)
         have n1_ := zK (zO (zr HO_qc.out) hb)
         have n2_ := zK (zP (g := gb236) (o := .cells #[.slice Ao16 xqa_1.length co16, .int .i64 xqb_1, .slice Ao17 xqc_1.length co17] 25 (0, 0)) (zb BK236.out) hb)
         have n3_ := zK (yF (zl HB.out) hb)
         have n4_ := zK (hbox)
         have n5_ := zK ((by rw [hg]; exact (yG (zl HB.out)) : w.heap.size ≤ gb248))
         have n6_ := zK ((by rw [hg]; exact (yG (zl HB.out)) : w.heap.size ≤ gb248))
         have n7_ := zK ((by rw [hg]; exact zN (blk_lt (g := gb236) (o := .cells #[.slice Ao16 xqa_1.length co16, .int .i64 xqb_1, .slice Ao17 xqc_1.length co17] 25 (0, 0)) (zb BK236.out)) : gb236 ≠ gb248))
         have n8_ := zK ((by rw [hg]; exact Nat.ne_of_gt (blk_lt (g := gb236) (o := .cells #[.slice Ao16 xqa_1.length co16, .int .i64 xqb_1, .slice Ao17 xqc_1.length co17] 25 (0, 0)) (zb BK236.out)) : gb248 ≠ gb236))
         clear HO_qa
         clear HO_qc
         clear BK236
         clear HB
         have HO_qa := n0_
         have HO_qc := n1_
         have BK236 := n2_
         have HB := n3_
         have BK248 := n4_
         have GW248 := n5_
         have GE248 := n6_
         have NB236_248 := n7_
         have NB248_236 := n8_
         clear n0_ n1_ n2_ n3_ n4_ n5_ n6_ n7_ n8_
         clear hb hbox hg
         refine hK.out _ _ ⟨(zQ BK236.out 0).trans rfl, (zQ BK236.out 1).trans rfl, (zQ BK236.out 2).trans rfl⟩ (fun hHeld => ?_)
         clear hK K
         refine norm_ (a' := ?_) ?_ ?_
         rotate_left
         ·show Act.put _ (some 9) _ = _
          simp only [Act.put, zY, zZ, yA, i64_w, i32_w]
          rfl
         refine one_ (i := 4) (N := some 30) #[true, true, true, true, true, false, false, false, false, true, false, false] rfl rfl (one_of HT_.out (by kernel_rfl)) (by decide) (fun K hK => ?_)
         refine goes_ Try.func35 (by kernel_rfl) rfl #[.int .i64 x8_9, .int .i64 (wrap64 (x8_9 + 1)), .int .i64 0] (by rfl) rfl rfl zt ?_
         with_reducible refine (tollbarlaw17_item.calls x8_9 (wrap64 (x8_9 + 1)) 0 t237 t238 t239 _ A12.out).mono ?_
         rintro e w20 ⟨rfl, hb⟩
         refine ⟨_, rfl, ?_⟩
         have n0_ := zK (zO (zr HO_qa.out) hb)
         have n1_ := zK (zO (zr HO_qc.out) hb)
         have n2_ := zK (zP (g := gb236) (o := .cells #[.slice Ao16 xqa_1.length co16, .int .i64 xqb_1, .slice Ao17 xqc_1.length co17] 25 (0, 0)) (zb BK236.out) hb)
         have n3_ := zK (zP (g := gb248) (o := .cells #[.slice none 0 0, .int .i64 0, .slice none 0 0] 25 (0, 0)) (zb BK248.out) hb)
         have n4_ := zK (yF (zl HB.out) hb)
         clear HO_qa
         clear HO_qc
         clear BK236
         clear BK248
         clear HB
         have HO_qa := n0_
         have HO_qc := n1_
         have BK236 := n2_
         have BK248 := n3_
         have HB := n4_
         clear n0_ n1_ n2_ n3_ n4_
         (try clear hb)
         (try clear hb2)
         (try clear hk)
         (try clear hi)
         refine hK.out _ _ ⟨(zQ BK236.out 0).trans rfl, (zQ BK236.out 1).trans rfl, (zQ BK236.out 2).trans rfl⟩ (fun hHeld => ?_)
         clear hK K
         refine norm_ (a' := ?_) ?_ ?_
         rotate_left
         ·show Act.put _ (some 30) _ = _
          simp only [Act.put, zY, zZ, yA, i64_w, i32_w]
          rfl
         refine one_ (i := 5) (N := some 31) #[true, true, true, true, true, true, false, false, false, true, false, false] rfl rfl (one_of HT_.out (by kernel_rfl)) (by decide) (fun K hK => ?_)
         refine goes_ Try.func26 (by kernel_rfl) rfl #[.agg #[.slice Ao16 xqa_1.length co16, .int .i64 xqb_1, .slice Ao17 xqc_1.length co17], .agg #[.int .i64 t237, .int .i64 t238, .int .i64 t239]] (by rfl) rfl rfl zt ?_
         with_reducible refine (tree_Insert.calls _ _ xqa_1 xqb_1 _ _ xqc_1 t237 t238 t239 t240 t243 t244 t247 _ ?side1 ?side2 ?side3 ?side4 A13.out).mono ?_
         (case side1 => exact zc (zX HO_qa.out).2.2)
         (case side2 => exact (zX HO_qa.out).2.1)
         (case side3 => exact zc (zX HO_qc.out).2.2)
         (case side4 => exact (zX HO_qc.out).2.1)
         rintro e w21 ⟨v241, v245, rfl, ho0, ho1, hb⟩
         refine ⟨_, rfl, ?_⟩
         have n0_ := zK (yC (zr HO_qa.out) (Kd.R_base ho0) hb)
         have n1_ := zK (yC (zr HO_qc.out) (Kd.R_base ho1) hb)
         have n2_ := zK (zV (zW ho0 (yB (zr HO_qa.out))) (yG (zl HB.out)))
         have n3_ := zK (zV (zW ho1 (yB (zr HO_qc.out))) (yG (zl HB.out)))
         have n4_ := zK (zP (g := gb236) (o := .cells #[.slice Ao16 xqa_1.length co16, .int .i64 xqb_1, .slice Ao17 xqc_1.length co17] 25 (0, 0)) (zb BK236.out) hb)
         have n5_ := zK (zP (g := gb248) (o := .cells #[.slice none 0 0, .int .i64 0, .slice none 0 0] 25 (0, 0)) (zb BK248.out) hb)
         have n6_ := zK (yF (zl HB.out) hb)
         clear HO_qa
         clear HO_qc
         clear BK236
         clear BK248
         clear HB
         have HO_qa := n0_
         have HO_qc := n1_
         have HO242 := n2_
         have HO246 := n3_
         have BK236 := n4_
         have BK248 := n5_
         have HB := n6_
         clear n0_ n1_ n2_ n3_ n4_ n5_ n6_
         (try clear hb)
         (try clear hb2)
         (try clear hk)
         (try clear hi)
         (try clear ho0)
         (try clear ho1)
         refine hK.out _ _ ⟨(zQ BK236.out 0).trans rfl, (zQ BK236.out 1).trans rfl, (zQ BK236.out 2).trans rfl⟩ (fun hHeld => ?_)
         clear hK K
         refine norm_ (a' := ?_) ?_ ?_
         rotate_left
         ·show Act.put _ (some 31) _ = _
          simp only [Act.put, zY, zZ, yA, i64_w, i32_w]
          rfl
         refine pure_ (i := 6) (N := some 25) (v := ?_) (a' := ?_) #[true, true, true, true, true, true, true, false, false, true, false, false] rfl rfl (any_of HT_.out (by kernel_rfl)) (fun _ _ _ h => h) (Or.inl ⟨by rfl, ?_⟩) ?_ ?_
         rotate_left
         ·intro w'
          go_simp
          with_reducible rfl
         rotate_left
         ·simp only [Act.put, zY, zZ, yA, i64_w, i32_w]
          rfl
         refine pure_ (i := 7) (N := some 32) (v := ?_) (a' := ?_) #[true, true, true, true, true, true, true, true, false, true, false, false] rfl rfl (any_of HT_.out (by kernel_rfl)) (fun _ _ _ h => h) (Or.inl ⟨by rfl, ?_⟩) ?_ ?_
         rotate_left
         ·intro w'
          go_simp
          with_reducible rfl
         rotate_left
         ·simp only [Act.put, zY, zZ, yA, i64_w, i32_w]
          rfl
         refine pure_ (i := 8) (N := some 33) (v := ?_) (a' := ?_) #[true, true, true, true, true, true, true, true, true, true, false, false] rfl rfl (any_of HT_.out (by kernel_rfl)) (fun _ _ _ h => h) (Or.inl ⟨by rfl, ?_⟩) ?_ ?_
         rotate_left
         ·intro w'
          go_simp
          with_reducible rfl
         rotate_left
         ·simp only [Act.put, zY, zZ, yA, i64_w, i32_w]
          rfl
         exact norm_ (by simp only [putAll, Act.put, zY, zZ, yA]) (hCont (v241, v245, gb248) _ ⟨hHeld, (by (with_reducible repeat (first | apply zA | apply zB | apply zC)); exact Kd.R_mono HO242.out (fun _ hk => hk.2)), (by (with_reducible repeat (first | apply zA | apply zB | apply zC)); exact Kd.R_mono HO246.out (fun _ hk => hk.2)), (by (with_reducible repeat (first | apply zA | apply zB | apply zC)); exact Kd.R_mono HO_qa.out (fun _ hk => hk.2)), (by (with_reducible repeat (first | apply zA | apply zB | apply zC)); exact Kd.R_mono HO_qc.out (fun _ hk => hk.2)), (zb BK236.out), (zb BK248.out), GW248.out, GE248.out, NB236_248.out, NB248_236.out, (zl HB.out)⟩)
       rintro ⟨v241, v245, gb248⟩ w22 ⟨hS_, h0_, h1_, h2_, h3_, h4_, h5_, h6_, h7_, h8_, h9_, h10_⟩
       have n0_ : Aside0 (Kd.R k64 64 w22 w.heap.size (fun k_ => some k_ ≠ (.slice Ao16 xqa_1.length co16 : Value).ownBlock) v241 t240) := ⟨h0_⟩
       have n1_ : Aside0 (Kd.R (Kd.int .i64) 3 w22 w.heap.size (fun k_ => some k_ ≠ (.slice Ao17 xqc_1.length co17 : Value).ownBlock) v245 t244) := ⟨h1_⟩
       have n2_ : Aside0 (Kd.R k64 64 w22 w.heap.size (fun k_ => some k_ ≠ (v241 : Value).ownBlock) (.slice Ao16 xqa_1.length co16) xqa_1) := ⟨h2_⟩
       have n3_ : Aside0 (Kd.R (Kd.int .i64) 3 w22 w.heap.size (fun k_ => some k_ ≠ (v245 : Value).ownBlock) (.slice Ao17 xqc_1.length co17) xqc_1) := ⟨h3_⟩
       have n4_ : Aside0 (w22.heap[gb236]? = some (.cells #[.slice Ao16 xqa_1.length co16, .int .i64 xqb_1, .slice Ao17 xqc_1.length co17] 25 (0, 0))) := ⟨h4_⟩
       have n5_ : Aside0 (w22.heap[gb248]? = some (.cells #[.slice none 0 0, .int .i64 0, .slice none 0 0] 25 (0, 0))) := ⟨h5_⟩
       have n6_ : Aside0 (w.heap.size ≤ gb248) := ⟨h6_⟩
       have n7_ : Aside0 (w.heap.size ≤ gb248) := ⟨h7_⟩
       have n8_ : Aside0 (gb236 ≠ gb248) := ⟨h8_⟩
       have n9_ : Aside0 (gb248 ≠ gb236) := ⟨h9_⟩
       have n10_ : Aside0 (Below w.heap.size w w22) := ⟨h10_⟩
       clear HO_qa
       clear HO_qc
       clear BK236
       clear HB
       clear h0_ h1_ h2_ h3_ h4_ h5_ h6_ h7_ h8_ h9_ h10_
       have HO242 := n0_
       have HO246 := n1_
       have HO_qa := n2_
       have HO_qc := n3_
       have BK236 := n4_
       have BK248 := n5_
       have GW248 := n6_
       have GE248 := n7_
       have NB236_248 := n8_
       have NB248_236 := n9_
       have HB := n10_
       clear n0_ n1_ n2_ n3_ n4_ n5_ n6_ n7_ n8_ n9_ n10_
       have hHeld : w22.cell? ⟨gb236, 0, none⟩ = some (.slice Ao16 xqa_1.length co16) ∧ w22.cell? ⟨gb236, 1, none⟩ = some (.int .i64 xqb_1) ∧ w22.cell? ⟨gb236, 2, none⟩ = some (.slice Ao17 xqc_1.length co17) := hS_
       obtain ⟨Ao23, co23, eo23⟩ := yE HO242.out
       (first | subst eo23 | (injection eo23 with f1_ f2_ f3_; have f4_ := f1_.symm; have f5_ := f3_.symm; clear f1_ f2_ f3_; subst f4_; subst f5_))
       obtain ⟨Ao26, co26, eo26⟩ := yE HO246.out
       (first | subst eo26 | (injection eo26 with f1_ f2_ f3_; have f4_ := f1_.symm; have f5_ := f3_.symm; clear f1_ f2_ f3_; subst f4_; subst f5_))
       refine norm_ (a' := ?_) ?_ ?_
       rotate_left
       ·simp only [putAll, Act.put, zY, zZ, yA]
        rfl
       refine one_ (i := 10) (N := none) #[true, true, true, true, true, true, true, true, true, true, true, false] rfl rfl (one_of HT_.out (by kernel_rfl)) (by decide) (fun K hK => ?_)
       have hs24 : w22.cell? ⟨gb248, 0, none⟩ = some (.slice none 0 0) := (zQ BK248.out 0).trans rfl
       have hfs24 := zR BK248.out 0
       have hns24_0 := NB236_248.out
       have hms24_0 := NB248_236.out
       have hs25 : w22.cell? ⟨gb248, 1, none⟩ = some (.int .i64 0) := (zQ BK248.out 1).trans rfl
       have hfs25 := zR BK248.out 1
       have hns25_0 := NB236_248.out
       have hms25_0 := NB248_236.out
       have hs27 : w22.cell? ⟨gb248, 2, none⟩ = some (.slice none 0 0) := (zQ BK248.out 2).trans rfl
       have hfs27 := zR BK248.out 2
       have hns27_0 := NB236_248.out
       have hms27_0 := NB248_236.out
       refine skip_ (w1 := ?_) (by rfl) rfl ?_ ?_
       rotate_left
       ·go_simp
        rfl
       refine hK.out _ _ ⟨((cell_far (p := ⟨gb248, _, none⟩) NB236_248.out _).trans (((cell_far (p := ⟨gb248, _, none⟩) NB236_248.out _).trans (((cell_far (p := ⟨gb248, _, none⟩) NB236_248.out _).trans (hHeld.1)))))), ((cell_far (p := ⟨gb248, _, none⟩) NB236_248.out _).trans (((cell_far (p := ⟨gb248, _, none⟩) NB236_248.out _).trans (((cell_far (p := ⟨gb248, _, none⟩) NB236_248.out _).trans (hHeld.2.1)))))), ((cell_far (p := ⟨gb248, _, none⟩) NB236_248.out _).trans (((cell_far (p := ⟨gb248, _, none⟩) NB236_248.out _).trans (((cell_far (p := ⟨gb248, _, none⟩) NB236_248.out _).trans (hHeld.2.2))))))⟩ (fun hHeld => ?_)
       clear hK K
       refine pure_ (i := 11) (N := some 10) (v := ?_) (a' := ?_) #[true, true, true, true, true, true, true, true, true, true, true, true] rfl rfl (any_of HT_.out (by kernel_rfl)) (fun _ _ _ h => h) (Or.inl ⟨by rfl, ?_⟩) ?_ ?_
       rotate_left
       ·intro w'
        go_simp
        with_reducible rfl
       rotate_left
       ·simp only [Act.put, zY, zZ, yA, i64_w, i32_w]
        rfl
       refine done_ (done_of HT_.out (by kernel_rfl)) ?_
       try go_wp2_with (first | ((with_reducible refine gate_callee (f := 19) rfl ?_); refine goesL_ (some 35) rfl rfl Try.func19 (by kernel_rfl) rfl #[.int .i64 t247] rfl zt ?_; (with_reducible refine (tollbarlaw0_Num.calls t247 t249 _ A14.out).mono ?_); rintro e w' ⟨rfl, ⟨nd, rfl⟩⟩; refine ⟨_, rfl, ?_⟩; have hnb28 := NB248_236.out; have hnc28 := NB236_248.out; have hcz29_0 : w22.cell? ⟨gb248, 0, none⟩ = some (.slice none 0 0) := (zQ BK248.out 0).trans rfl; have hcz29_1 : w22.cell? ⟨gb248, 1, none⟩ = some (.int .i64 0) := (zQ BK248.out 1).trans rfl; have hcz29_2 : w22.cell? ⟨gb248, 2, none⟩ = some (.slice none 0 0) := (zQ BK248.out 2).trans rfl; have hfz29_0 := zR BK248.out 0; have hfz29_1 := zR BK248.out 1; have hfz29_2 := zR BK248.out 2; have hcz30_0 : w22.cell? ⟨gb236, 0, none⟩ = some (.slice Ao16 xqa_1.length co16) := (zQ BK236.out 0).trans rfl; have hcz30_1 : w22.cell? ⟨gb236, 1, none⟩ = some (.int .i64 xqb_1) := (zQ BK236.out 1).trans rfl; have hcz30_2 : w22.cell? ⟨gb236, 2, none⟩ = some (.slice Ao17 xqc_1.length co17) := (zQ BK236.out 2).trans rfl; have hfz30_0 := zR BK236.out 0; have hfz30_1 := zR BK236.out 1; have hfz30_2 := zR BK236.out 2))
       go_roundg kj9
       case measure => have := HK1.out; have := HJ9.out; omega
       case rel => exact ⟨(wrap64 (x7_1 + 1)), (t240), (t243), (t244), (.slice Ao23 t240.length co23), (.slice Ao26 t244.length co26), zz, H', ⟨by have := HK1.out; have := HJ9.out; omega⟩, ⟨by (with_reducible repeat (first | apply zA | apply zB | apply zC)); exact Kd.R_mono (Kd.R_far (p := ⟨gb236, 2, none⟩) (Kd.R_far (p := ⟨gb236, 1, none⟩) (Kd.R_far (p := ⟨gb236, 0, none⟩) (Kd.R_far (p := ⟨gb248, 2, none⟩) (Kd.R_far (p := ⟨gb248, 1, none⟩) (Kd.R_far (p := ⟨gb248, 0, none⟩) (Kd.R_types (Kd.R_types HO242.out BK248.out (by decide)) BK236.out (by decide)) (fun _ hk => hk.1.2) (.slice Ao23 t240.length co23)) (fun _ hk => hk.1.2) (.int .i64 t243)) (fun _ hk => hk.1.2) (.slice Ao26 t244.length co26)) (fun _ hk => hk.2) (.slice Ao23 t240.length co23)) (fun _ hk => hk.2) (.int .i64 t243)) (fun _ hk => hk.2) (.slice Ao26 t244.length co26)) (fun _ hk => trivial)⟩, ⟨by (with_reducible repeat (first | apply zA | apply zB | apply zC)); exact Kd.R_mono (Kd.R_far (p := ⟨gb236, 2, none⟩) (Kd.R_far (p := ⟨gb236, 1, none⟩) (Kd.R_far (p := ⟨gb236, 0, none⟩) (Kd.R_far (p := ⟨gb248, 2, none⟩) (Kd.R_far (p := ⟨gb248, 1, none⟩) (Kd.R_far (p := ⟨gb248, 0, none⟩) (Kd.R_types (Kd.R_types HO246.out BK248.out (by decide)) BK236.out (by decide)) (fun _ hk => hk.1.2) (.slice Ao23 t240.length co23)) (fun _ hk => hk.1.2) (.int .i64 t243)) (fun _ hk => hk.1.2) (.slice Ao26 t244.length co26)) (fun _ hk => hk.2) (.slice Ao23 t240.length co23)) (fun _ hk => hk.2) (.int .i64 t243)) (fun _ hk => hk.2) (.slice Ao26 t244.length co26)) (fun _ hk => trivial)⟩, ⟨by (with_reducible repeat (first | refine zD ?_ _ | refine zE ?_ | refine zF ?_ _)); refine blk_put (cs := #[.slice Ao23 t240.length co23, .int .i64 t243, .slice Ao17 xqc_1.length co17]) ?_ 2 _ rfl; (with_reducible repeat (first | refine zD ?_ _ | refine zE ?_ | refine zF ?_ _)); refine blk_put (cs := #[.slice Ao23 t240.length co23, .int .i64 xqb_1, .slice Ao17 xqc_1.length co17]) ?_ 1 _ rfl; (with_reducible repeat (first | refine zD ?_ _ | refine zE ?_ | refine zF ?_ _)); refine blk_put (cs := #[.slice Ao16 xqa_1.length co16, .int .i64 xqb_1, .slice Ao17 xqc_1.length co17]) ?_ 0 _ rfl; (with_reducible repeat (first | refine zD ?_ _ | refine zE ?_ | refine zF ?_ _)); refine blk_far ?_ NB236_248.out _; (with_reducible repeat (first | refine zD ?_ _ | refine zE ?_ | refine zF ?_ _)); refine blk_far ?_ NB236_248.out _; (with_reducible repeat (first | refine zD ?_ _ | refine zE ?_ | refine zF ?_ _)); refine blk_far ?_ NB236_248.out _; (with_reducible repeat (first | refine zD ?_ _ | refine zE ?_ | refine zF ?_ _)); exact BK236.out⟩, ⟨by repeat (first | (with_reducible first | exact HB.out | apply zG | apply zH | apply zI | refine zL ?_ GE236.out | refine zL ?_ GE248.out) | exact HB.out)⟩⟩
      ·rw [if_neg c15] at H
       have c15b0 : (t249 == 0) = false := yK.mpr c15
       have c15b1 : (t249 != 0) = true := yL.mpr c15
       obtain rfl := Option.some.inj H
       obtain ⟨Ao31, co31, eo31⟩ := yE HO_qa.out
       subst eo31
       obtain ⟨Ao32, co32, eo32⟩ := yE HO_qc.out
       subst eo32
       try go_wp2
       have n0_ := zK (zC HO_qa.out)
       have n1_ := zK (zC HO_qc.out)
       have n2_ := zK (zE BK236.out)
       have n3_ := zK (zI HB.out)
       clear HO_qa
       clear HO_qc
       clear BK236
       clear HB
       have HO_qa := n0_
       have HO_qc := n1_
       have BK236 := n2_
       have HB := n3_
       clear n0_ n1_ n2_ n3_
       refine start_ (n := 12) (S := fun w' => w'.cell? ⟨gb236, 0, none⟩ = some (.slice Ao31 xqa_1.length co31) ∧ w'.cell? ⟨gb236, 1, none⟩ = some (.int .i64 xqb_1) ∧ w'.cell? ⟨gb236, 2, none⟩ = some (.slice Ao32 xqc_1.length co32)) (ds := []) #[false, false, false, false, false, false, false, false, false, false, false, false] (by kernel_rfl) rfl rfl ⟨(zQ BK236.out 0).trans rfl, (zQ BK236.out 1).trans rfl, (zQ BK236.out 2).trans rfl⟩ (fun hHeld => ?_); refine with_tabW tollbarlaw17_TreeHigh.tab9 tollbarlaw17_TreeHigh.bits9 (fun HT_ HW_ => ?_)
       generalize wc.drew = w33 at HO_qa HO_qc BK236 HB hHeld ⊢
       refine pure_ (i := 1) (N := some 27) (v := ?_) (a' := ?_) #[false, true, false, false, false, false, false, false, false, false, false, false] rfl rfl (any_of HT_.out (by kernel_rfl)) (fun _ _ _ h => h) (Or.inl ⟨by rfl, ?_⟩) ?_ ?_
       rotate_left
       ·intro w'
        go_simp
        with_reducible rfl
       rotate_left
       ·simp only [Act.put, zY, zZ, yA, i64_w, i32_w]
        rfl
       refine pure_ (i := 2) (N := some 28) (v := ?_) (a' := ?_) #[false, true, true, false, false, false, false, false, false, false, false, false] rfl rfl (any_of HT_.out (by kernel_rfl)) (fun _ _ _ h => h) (Or.inl ⟨by rfl, ?_⟩) ?_ ?_
       rotate_left
       ·intro w'
        go_simp
        with_reducible rfl
       rotate_left
       ·simp only [Act.put, zY, zZ, yA, i64_w, i32_w]
        rfl
       refine pure_ (i := 3) (N := some 29) (v := ?_) (a' := ?_) #[false, true, true, true, false, false, false, false, false, false, false, false] rfl rfl (any_of HT_.out (by kernel_rfl)) (fun _ _ _ h => h) (Or.inl ⟨by rfl, ?_⟩) ?_ ?_
       rotate_left
       ·intro w'
        go_simp
        with_reducible rfl
       rotate_left
       ·simp only [Act.put, zY, zZ, yA, i64_w, i32_w]
        rfl
       refine take_ (i := 0) (N := some 26) (v := ?_) (a' := ?_) #[true, true, true, true, false, false, false, false, false, false, false, false] rfl rfl (take_ofW HT_.out HW_.out (by kernel_rfl)) (fun _ _ _ h => h) (Or.inl ⟨by rfl, ?_⟩) hHeld ?_ ?_
       rotate_left
       ·rintro w' ⟨s0, s1, s2⟩
        go_simp
        with_reducible rfl
       rotate_left
       ·simp only [Act.put, zY, zZ, yA, i64_w, i32_w]
        rfl
       refine join_ (σ := Value × Value × Nat) 2 #[true, true, true, true, true, true, true, true, true, true, false, false] (fun s_ => [(30, .agg #[.int .i64 t237, .int .i64 t238, .int .i64 t239]), (31, .tuple #[.agg #[s_.1, .int .i64 t243, s_.2.1], .int .i64 t247]), (9, .pointer (some ⟨s_.2.2, 0, none⟩)), (25, .tuple #[.agg #[s_.1, .int .i64 t243, s_.2.1], .int .i64 t247]), (32, .agg #[s_.1, .int .i64 t243, s_.2.1]), (33, .int .i64 t247)]) (fun s_ w' => (w'.cell? ⟨gb236, 0, none⟩ = some (.slice Ao31 xqa_1.length co31) ∧ w'.cell? ⟨gb236, 1, none⟩ = some (.int .i64 xqb_1) ∧ w'.cell? ⟨gb236, 2, none⟩ = some (.slice Ao32 xqc_1.length co32)) ∧ (Kd.R k64 64 w' w.heap.size (fun k_ => some k_ ≠ (.slice Ao31 xqa_1.length co31 : Value).ownBlock) s_.1 t240) ∧ (Kd.R (Kd.int .i64) 3 w' w.heap.size (fun k_ => some k_ ≠ (.slice Ao32 xqc_1.length co32 : Value).ownBlock) s_.2.1 t244) ∧ (Kd.R k64 64 w' w.heap.size (fun k_ => some k_ ≠ (s_.1 : Value).ownBlock) (.slice Ao31 xqa_1.length co31) xqa_1) ∧ (Kd.R (Kd.int .i64) 3 w' w.heap.size (fun k_ => some k_ ≠ (s_.2.1 : Value).ownBlock) (.slice Ao32 xqc_1.length co32) xqc_1) ∧ (w'.heap[gb236]? = some (.cells #[.slice Ao31 xqa_1.length co31, .int .i64 xqb_1, .slice Ao32 xqc_1.length co32] 25 (0, 0))) ∧ (w'.heap[s_.2.2]? = some (.cells #[.slice none 0 0, .int .i64 0, .slice none 0 0] 25 (0, 0))) ∧ (w.heap.size ≤ s_.2.2) ∧ (w.heap.size ≤ s_.2.2) ∧ (gb236 ≠ s_.2.2) ∧ (s_.2.2 ≠ gb236) ∧ (Below w.heap.size w w')) ?_ ?_
       rotate_left
       ·intro hCont
        refine two_ (i := 4) (j := 9) (Ni := some 30) (Nj := some 9) #[true, true, true, true, true, false, false, false, false, false, false, false] #[true, true, true, true, false, false, false, false, false, true, false, false] rfl rfl rfl rfl (two_of HT_.out (by kernel_rfl)) (by decide) (by decide) (fun K hK => ?_) (fun K hK => ?_)
        ·skip
         refine goes_ Try.func35 (by kernel_rfl) rfl #[.int .i64 x8_9, .int .i64 (wrap64 (x8_9 + 1)), .int .i64 0] (by rfl) rfl rfl zt ?_
         with_reducible refine (tollbarlaw17_item.calls x8_9 (wrap64 (x8_9 + 1)) 0 t237 t238 t239 _ A12.out).mono ?_
         rintro e w34 ⟨rfl, hb⟩
         refine ⟨_, rfl, ?_⟩
         have n0_ := zK (zO (zr HO_qa.out) hb)
         have n1_ := zK (zO (zr HO_qc.out) hb)
         have n2_ := zK (zP (g := gb236) (o := .cells #[.slice Ao31 xqa_1.length co31, .int .i64 xqb_1, .slice Ao32 xqc_1.length co32] 25 (0, 0)) (zb BK236.out) hb)
         have n3_ := zK (yF (zl HB.out) hb)
         clear HO_qa
         clear HO_qc
         clear BK236
         clear HB
         have HO_qa := n0_
         have HO_qc := n1_
         have BK236 := n2_
         have HB := n3_
         clear n0_ n1_ n2_ n3_
         (try clear hb)
         (try clear hb2)
         (try clear hk)
         (try clear hi)
         refine hK.out _ _ ⟨(zQ BK236.out 0).trans rfl, (zQ BK236.out 1).trans rfl, (zQ BK236.out 2).trans rfl⟩ (fun hHeld => ?_)
         clear hK K
         refine norm_ (a' := ?_) ?_ ?_
         rotate_left
         ·show Act.put _ (some 30) _ = _
          simp only [Act.put, zY, zZ, yA, i64_w, i32_w]
          rfl
         refine two_ (i := 5) (j := 9) (Ni := some 31) (Nj := some 9) #[true, true, true, true, true, true, false, false, false, false, false, false] #[true, true, true, true, true, false, false, false, false, true, false, false] rfl rfl rfl rfl (two_of HT_.out (by kernel_rfl)) (by decide) (by decide) (fun K hK => ?_) (fun K hK => ?_)
         ·skip
          refine goes_ Try.func26 (by kernel_rfl) rfl #[.agg #[.slice Ao31 xqa_1.length co31, .int .i64 xqb_1, .slice Ao32 xqc_1.length co32], .agg #[.int .i64 t237, .int .i64 t238, .int .i64 t239]] (by rfl) rfl rfl zt ?_
          with_reducible refine (tree_Insert.calls _ _ xqa_1 xqb_1 _ _ xqc_1 t237 t238 t239 t240 t243 t244 t247 _ ?side1 ?side2 ?side3 ?side4 A13.out).mono ?_
          (case side1 => exact zc (zX HO_qa.out).2.2)
          (case side2 => exact (zX HO_qa.out).2.1)
          (case side3 => exact zc (zX HO_qc.out).2.2)
          (case side4 => exact (zX HO_qc.out).2.1)
          rintro e w35 ⟨v241, v245, rfl, ho0, ho1, hb⟩
          refine ⟨_, rfl, ?_⟩
          have n0_ := zK (yC (zr HO_qa.out) (Kd.R_base ho0) hb)
          have n1_ := zK (yC (zr HO_qc.out) (Kd.R_base ho1) hb)
          have n2_ := zK (zV (zW ho0 (yB (zr HO_qa.out))) (yG (zl HB.out)))
          have n3_ := zK (zV (zW ho1 (yB (zr HO_qc.out))) (yG (zl HB.out)))
          have n4_ := zK (zP (g := gb236) (o := .cells #[.slice Ao31 xqa_1.length co31, .int .i64 xqb_1, .slice Ao32 xqc_1.length co32] 25 (0, 0)) (zb BK236.out) hb)
          have n5_ := zK (yF (zl HB.out) hb)
          clear HO_qa
          clear HO_qc
          clear BK236
          clear HB
          have HO_qa := n0_
          have HO_qc := n1_
          have HO242 := n2_
          have HO246 := n3_
          have BK236 := n4_
          have HB := n5_
          clear n0_ n1_ n2_ n3_ n4_ n5_
          (try clear hb)
          (try clear hb2)
          (try clear hk)
          (try clear hi)
          (try clear ho0)
          (try clear ho1)
          refine hK.out _ _ ⟨(zQ BK236.out 0).trans rfl, (zQ BK236.out 1).trans rfl, (zQ BK236.out 2).trans rfl⟩ (fun hHeld => ?_)
          clear hK K
          refine norm_ (a' := ?_) ?_ ?_
          rotate_left
          ·show Act.put _ (some 31) _ = _
           simp only [Act.put, zY, zZ, yA, i64_w, i32_w]
           rfl
          refine pure_ (i := 6) (N := some 25) (v := ?_) (a' := ?_) #[true, true, true, true, true, true, true, false, false, false, false, false] rfl rfl (any_of HT_.out (by kernel_rfl)) (fun _ _ _ h => h) (Or.inl ⟨by rfl, ?_⟩) ?_ ?_
          rotate_left
          ·intro w'
           go_simp
           with_reducible rfl
          rotate_left
          ·simp only [Act.put, zY, zZ, yA, i64_w, i32_w]
           rfl
          refine pure_ (i := 7) (N := some 32) (v := ?_) (a' := ?_) #[true, true, true, true, true, true, true, true, false, false, false, false] rfl rfl (any_of HT_.out (by kernel_rfl)) (fun _ _ _ h => h) (Or.inl ⟨by rfl, ?_⟩) ?_ ?_
          rotate_left
          ·intro w'
           go_simp
           with_reducible rfl
          rotate_left
          ·simp only [Act.put, zY, zZ, yA, i64_w, i32_w]
           rfl
          refine pure_ (i := 8) (N := some 33) (v := ?_) (a' := ?_) #[true, true, true, true, true, true, true, true, true, false, false, false] rfl rfl (any_of HT_.out (by kernel_rfl)) (fun _ _ _ h => h) (Or.inl ⟨by rfl, ?_⟩) ?_ ?_
          rotate_left
          ·intro w'
           go_simp
           with_reducible rfl
          rotate_left
          ·simp only [Act.put, zY, zZ, yA, i64_w, i32_w]
           rfl
          refine one_ (i := 9) (N := some 9) #[true, true, true, true, true, true, true, true, true, true, false, false] rfl rfl (one_of HT_.out (by kernel_rfl)) (by decide) (fun K hK => ?_)
          refine box_step ?hg (N := 9) ?hd (cs := #[.slice none 0 0, .int .i64 0, .slice none 0 0]) (t := 25) ?hr ?_; (case hd => rfl); (case hg => rfl); (case hr => first | (go_simp; done) | (go_simp; rfl))
          intro gb248 hg w36 hbox hb
          have n0_ := zK (zO (zr HO_qa.out) hb)
          have n1_ := zK (zO (zr HO_qc.out) hb)
          have n2_ := zK (zO (zr HO242.out) hb)
          have n3_ := zK (zO (zr HO246.out) hb)
          have n4_ := zK (zP (g := gb236) (o := .cells #[.slice Ao31 xqa_1.length co31, .int .i64 xqb_1, .slice Ao32 xqc_1.length co32] 25 (0, 0)) (zb BK236.out) hb)
          have n5_ := zK (yF (zl HB.out) hb)
          have n6_ := zK (hbox)
          have n7_ := zK ((by rw [hg]; exact (yG (zl HB.out)) : w.heap.size ≤ gb248))
          have n8_ := zK ((by rw [hg]; exact (yG (zl HB.out)) : w.heap.size ≤ gb248))
          have n9_ := zK ((by rw [hg]; exact zN (blk_lt (g := gb236) (o := .cells #[.slice Ao31 xqa_1.length co31, .int .i64 xqb_1, .slice Ao32 xqc_1.length co32] 25 (0, 0)) (zb BK236.out)) : gb236 ≠ gb248))
          have n10_ := zK ((by rw [hg]; exact Nat.ne_of_gt (blk_lt (g := gb236) (o := .cells #[.slice Ao31 xqa_1.length co31, .int .i64 xqb_1, .slice Ao32 xqc_1.length co32] 25 (0, 0)) (zb BK236.out)) : gb248 ≠ gb236))
          clear HO_qa
          clear HO_qc
          clear HO242
          clear HO246
          clear BK236
          clear HB
          have HO_qa := n0_
          have HO_qc := n1_
          have HO242 := n2_
          have HO246 := n3_
          have BK236 := n4_
          have HB := n5_
          have BK248 := n6_
          have GW248 := n7_
          have GE248 := n8_
          have NB236_248 := n9_
          have NB248_236 := n10_
          clear n0_ n1_ n2_ n3_ n4_ n5_ n6_ n7_ n8_ n9_ n10_
          clear hb hbox hg
          refine hK.out _ _ ⟨(zQ BK236.out 0).trans rfl, (zQ BK236.out 1).trans rfl, (zQ BK236.out 2).trans rfl⟩ (fun hHeld => ?_)
          clear hK K
          refine norm_ (a' := ?_) ?_ ?_
          rotate_left
          ·show Act.put _ (some 9) _ = _
           simp only [Act.put, zY, zZ, yA, i64_w, i32_w]
           rfl
          exact norm_ (by simp only [putAll, Act.put, zY, zZ, yA]) (hCont (v241, v245, gb248) _ ⟨hHeld, (by (with_reducible repeat (first | apply zA | apply zB | apply zC)); exact Kd.R_mono HO242.out (fun _ hk => hk.2)), (by (with_reducible repeat (first | apply zA | apply zB | apply zC)); exact Kd.R_mono HO246.out (fun _ hk => hk.2)), (by (with_reducible repeat (first | apply zA | apply zB | apply zC)); exact Kd.R_mono HO_qa.out (fun _ hk => hk.2)), (by (with_reducible repeat (first | apply zA | apply zB | apply zC)); exact Kd.R_mono HO_qc.out (fun _ hk => hk.2)), (zb BK236.out), (zb BK248.out), GW248.out, GE248.out, NB236_248.out, NB248_236.out, (zl HB.out)⟩)
         ·skip
          refine box_step ?hg (N := 9) ?hd (cs := #[.slice none 0 0, .int .i64 0, .slice none 0 0]) (t := 25) ?hr ?_; (case hd => rfl); (case hg => rfl); (case hr => first | (go_simp; done) | (go_simp; rfl))
          intro gb248 hg w35 hbox hb
          have n0_ := zK (zO (zr HO_qa.out) hb)
          have n1_ := zK (zO (zr HO_qc.out) hb)
          have n2_ := zK (zP (g := gb236) (o := .cells #[.slice Ao31 xqa_1.length co31, .int .i64 xqb_1, .slice Ao32 xqc_1.length co32] 25 (0, 0)) (zb BK236.out) hb)
          have n3_ := zK (yF (zl HB.out) hb)
          have n4_ := zK (hbox)
          have n5_ := zK ((by rw [hg]; exact (yG (zl HB.out)) : w.heap.size ≤ gb248))
          have n6_ := zK ((by rw [hg]; exact (yG (zl HB.out)) : w.heap.size ≤ gb248))
          have n7_ := zK ((by rw [hg]; exact zN (blk_lt (g := gb236) (o := .cells #[.slice Ao31 xqa_1.length co31, .int .i64 xqb_1, .slice Ao32 xqc_1.length co32] 25 (0, 0)) (zb BK236.out)) : gb236 ≠ gb248))
          have n8_ := zK ((by rw [hg]; exact Nat.ne_of_gt (blk_lt (g := gb236) (o := .cells #[.slice Ao31 xqa_1.length co31, .int .i64 xqb_1, .slice Ao32 xqc_1.length co32] 25 (0, 0)) (zb BK236.out)) : gb248 ≠ gb236))
          clear HO_qa
          clear HO_qc
          clear BK236
          clear HB
          have HO_qa := n0_
          have HO_qc := n1_
          have BK236 := n2_
          have HB := n3_
          have BK248 := n4_
          have GW248 := n5_
          have GE248 := n6_
          have NB236_248 := n7_
          have NB248_236 := n8_
          clear n0_ n1_ n2_ n3_ n4_ n5_ n6_ n7_ n8_
          clear hb hbox hg
          refine hK.out _ _ ⟨(zQ BK236.out 0).trans rfl, (zQ BK236.out 1).trans rfl, (zQ BK236.out 2).trans rfl⟩ (fun hHeld => ?_)
          clear hK K
          refine norm_ (a' := ?_) ?_ ?_
          rotate_left
          ·show Act.put _ (some 9) _ = _
           simp only [Act.put, zY, zZ, yA, i64_w, i32_w]
           rfl
          refine one_ (i := 5) (N := some 31) #[true, true, true, true, true, true, false, false, false, true, false, false] rfl rfl (one_of HT_.out (by kernel_rfl)) (by decide) (fun K hK => ?_)
          refine goes_ Try.func26 (by kernel_rfl) rfl #[.agg #[.slice Ao31 xqa_1.length co31, .int .i64 xqb_1, .slice Ao32 xqc_1.length co32], .agg #[.int .i64 t237, .int .i64 t238, .int .i64 t239]] (by rfl) rfl rfl zt ?_
          with_reducible refine (tree_Insert.calls _ _ xqa_1 xqb_1 _ _ xqc_1 t237 t238 t239 t240 t243 t244 t247 _ ?side1 ?side2 ?side3 ?side4 A13.out).mono ?_
          (case side1 => exact zc (zX HO_qa.out).2.2)
          (case side2 => exact (zX HO_qa.out).2.1)
          (case side3 => exact zc (zX HO_qc.out).2.2)
          (case side4 => exact (zX HO_qc.out).2.1)
          rintro e w36 ⟨v241, v245, rfl, ho0, ho1, hb⟩
          refine ⟨_, rfl, ?_⟩
          have n0_ := zK (yC (zr HO_qa.out) (Kd.R_base ho0) hb)
          have n1_ := zK (yC (zr HO_qc.out) (Kd.R_base ho1) hb)
          have n2_ := zK (zV (zW ho0 (yB (zr HO_qa.out))) (yG (zl HB.out)))
          have n3_ := zK (zV (zW ho1 (yB (zr HO_qc.out))) (yG (zl HB.out)))
          have n4_ := zK (zP (g := gb236) (o := .cells #[.slice Ao31 xqa_1.length co31, .int .i64 xqb_1, .slice Ao32 xqc_1.length co32] 25 (0, 0)) (zb BK236.out) hb)
          have n5_ := zK (zP (g := gb248) (o := .cells #[.slice none 0 0, .int .i64 0, .slice none 0 0] 25 (0, 0)) (zb BK248.out) hb)
          have n6_ := zK (yF (zl HB.out) hb)
          clear HO_qa
          clear HO_qc
          clear BK236
          clear BK248
          clear HB
          have HO_qa := n0_
          have HO_qc := n1_
          have HO242 := n2_
          have HO246 := n3_
          have BK236 := n4_
          have BK248 := n5_
          have HB := n6_
          clear n0_ n1_ n2_ n3_ n4_ n5_ n6_
          (try clear hb)
          (try clear hb2)
          (try clear hk)
          (try clear hi)
          (try clear ho0)
          (try clear ho1)
          refine hK.out _ _ ⟨(zQ BK236.out 0).trans rfl, (zQ BK236.out 1).trans rfl, (zQ BK236.out 2).trans rfl⟩ (fun hHeld => ?_)
          clear hK K
          refine norm_ (a' := ?_) ?_ ?_
          rotate_left
          ·show Act.put _ (some 31) _ = _
           simp only [Act.put, zY, zZ, yA, i64_w, i32_w]
           rfl
          refine pure_ (i := 6) (N := some 25) (v := ?_) (a' := ?_) #[true, true, true, true, true, true, true, false, false, true, false, false] rfl rfl (any_of HT_.out (by kernel_rfl)) (fun _ _ _ h => h) (Or.inl ⟨by rfl, ?_⟩) ?_ ?_
          rotate_left
          ·intro w'
           go_simp
           with_reducible rfl
          rotate_left
          ·simp only [Act.put, zY, zZ, yA, i64_w, i32_w]
           rfl
          refine pure_ (i := 7) (N := some 32) (v := ?_) (a' := ?_) #[true, true, true, true, true, true, true, true, false, true, false, false] rfl rfl (any_of HT_.out (by kernel_rfl)) (fun _ _ _ h => h) (Or.inl ⟨by rfl, ?_⟩) ?_ ?_
          rotate_left
          ·intro w'
           go_simp
           with_reducible rfl
          rotate_left
          ·simp only [Act.put, zY, zZ, yA, i64_w, i32_w]
           rfl
          refine pure_ (i := 8) (N := some 33) (v := ?_) (a' := ?_) #[true, true, true, true, true, true, true, true, true, true, false, false] rfl rfl (any_of HT_.out (by kernel_rfl)) (fun _ _ _ h => h) (Or.inl ⟨by rfl, ?_⟩) ?_ ?_
          rotate_left
          ·intro w'
           go_simp
           with_reducible rfl
          rotate_left
          ·simp only [Act.put, zY, zZ, yA, i64_w, i32_w]
           rfl
          exact norm_ (by simp only [putAll, Act.put, zY, zZ, yA]) (hCont (v241, v245, gb248) _ ⟨hHeld, (by (with_reducible repeat (first | apply zA | apply zB | apply zC)); exact Kd.R_mono HO242.out (fun _ hk => hk.2)), (by (with_reducible repeat (first | apply zA | apply zB | apply zC)); exact Kd.R_mono HO246.out (fun _ hk => hk.2)), (by (with_reducible repeat (first | apply zA | apply zB | apply zC)); exact Kd.R_mono HO_qa.out (fun _ hk => hk.2)), (by (with_reducible repeat (first | apply zA | apply zB | apply zC)); exact Kd.R_mono HO_qc.out (fun _ hk => hk.2)), (zb BK236.out), (zb BK248.out), GW248.out, GE248.out, NB236_248.out, NB248_236.out, (zl HB.out)⟩)
        ·skip
         refine box_step ?hg (N := 9) ?hd (cs := #[.slice none 0 0, .int .i64 0, .slice none 0 0]) (t := 25) ?hr ?_; (case hd => rfl); (case hg => rfl); (case hr => first | (go_simp; done) | (go_simp; rfl))
         intro gb248 hg w34 hbox hb
         have n0_ := zK (zO (zr HO_qa.out) hb)
         have n1_ := zK (zO (zr HO_qc.out) hb)
         have n2_ := zK (zP (g := gb236) (o := .cells #[.slice Ao31 xqa_1.length co31, .int .i64 xqb_1, .slice Ao32 xqc_1.length co32] 25 (0, 0)) (zb BK236.out) hb)
         have n3_ := zK (yF (zl HB.out) hb)
         have n4_ := zK (hbox)
         have n5_ := zK ((by rw [hg]; exact (yG (zl HB.out)) : w.heap.size ≤ gb248))
         have n6_ := zK ((by rw [hg]; exact (yG (zl HB.out)) : w.heap.size ≤ gb248))
         have n7_ := zK ((by rw [hg]; exact zN (blk_lt (g := gb236) (o := .cells #[.slice Ao31 xqa_1.length co31, .int .i64 xqb_1, .slice Ao32 xqc_1.length co32] 25 (0, 0)) (zb BK236.out)) : gb236 ≠ gb248))
         have n8_ := zK ((by rw [hg]; exact Nat.ne_of_gt (blk_lt (g := gb236) (o := .cells #[.slice Ao31 xqa_1.length co31, .int .i64 xqb_1, .slice Ao32 xqc_1.length co32] 25 (0, 0)) (zb BK236.out)) : gb248 ≠ gb236))
         clear HO_qa
         clear HO_qc
         clear BK236
         clear HB
         have HO_qa := n0_
         have HO_qc := n1_
         have BK236 := n2_
         have HB := n3_
         have BK248 := n4_
         have GW248 := n5_
         have GE248 := n6_
         have NB236_248 := n7_
         have NB248_236 := n8_
         clear n0_ n1_ n2_ n3_ n4_ n5_ n6_ n7_ n8_
         clear hb hbox hg
         refine hK.out _ _ ⟨(zQ BK236.out 0).trans rfl, (zQ BK236.out 1).trans rfl, (zQ BK236.out 2).trans rfl⟩ (fun hHeld => ?_)
         clear hK K
         refine norm_ (a' := ?_) ?_ ?_
         rotate_left
         ·show Act.put _ (some 9) _ = _
          simp only [Act.put, zY, zZ, yA, i64_w, i32_w]
          rfl
         refine one_ (i := 4) (N := some 30) #[true, true, true, true, true, false, false, false, false, true, false, false] rfl rfl (one_of HT_.out (by kernel_rfl)) (by decide) (fun K hK => ?_)
         refine goes_ Try.func35 (by kernel_rfl) rfl #[.int .i64 x8_9, .int .i64 (wrap64 (x8_9 + 1)), .int .i64 0] (by rfl) rfl rfl zt ?_
         with_reducible refine (tollbarlaw17_item.calls x8_9 (wrap64 (x8_9 + 1)) 0 t237 t238 t239 _ A12.out).mono ?_
         rintro e w35 ⟨rfl, hb⟩
         refine ⟨_, rfl, ?_⟩
         have n0_ := zK (zO (zr HO_qa.out) hb)
         have n1_ := zK (zO (zr HO_qc.out) hb)
         have n2_ := zK (zP (g := gb236) (o := .cells #[.slice Ao31 xqa_1.length co31, .int .i64 xqb_1, .slice Ao32 xqc_1.length co32] 25 (0, 0)) (zb BK236.out) hb)
         have n3_ := zK (zP (g := gb248) (o := .cells #[.slice none 0 0, .int .i64 0, .slice none 0 0] 25 (0, 0)) (zb BK248.out) hb)
         have n4_ := zK (yF (zl HB.out) hb)
         clear HO_qa
         clear HO_qc
         clear BK236
         clear BK248
         clear HB
         have HO_qa := n0_
         have HO_qc := n1_
         have BK236 := n2_
         have BK248 := n3_
         have HB := n4_
         clear n0_ n1_ n2_ n3_ n4_
         (try clear hb)
         (try clear hb2)
         (try clear hk)
         (try clear hi)
         refine hK.out _ _ ⟨(zQ BK236.out 0).trans rfl, (zQ BK236.out 1).trans rfl, (zQ BK236.out 2).trans rfl⟩ (fun hHeld => ?_)
         clear hK K
         refine norm_ (a' := ?_) ?_ ?_
         rotate_left
         ·show Act.put _ (some 30) _ = _
          simp only [Act.put, zY, zZ, yA, i64_w, i32_w]
          rfl
         refine one_ (i := 5) (N := some 31) #[true, true, true, true, true, true, false, false, false, true, false, false] rfl rfl (one_of HT_.out (by kernel_rfl)) (by decide) (fun K hK => ?_)
         refine goes_ Try.func26 (by kernel_rfl) rfl #[.agg #[.slice Ao31 xqa_1.length co31, .int .i64 xqb_1, .slice Ao32 xqc_1.length co32], .agg #[.int .i64 t237, .int .i64 t238, .int .i64 t239]] (by rfl) rfl rfl zt ?_
         with_reducible refine (tree_Insert.calls _ _ xqa_1 xqb_1 _ _ xqc_1 t237 t238 t239 t240 t243 t244 t247 _ ?side1 ?side2 ?side3 ?side4 A13.out).mono ?_
         (case side1 => exact zc (zX HO_qa.out).2.2)
         (case side2 => exact (zX HO_qa.out).2.1)
         (case side3 => exact zc (zX HO_qc.out).2.2)
         (case side4 => exact (zX HO_qc.out).2.1)
         rintro e w36 ⟨v241, v245, rfl, ho0, ho1, hb⟩
         refine ⟨_, rfl, ?_⟩
         have n0_ := zK (yC (zr HO_qa.out) (Kd.R_base ho0) hb)
         have n1_ := zK (yC (zr HO_qc.out) (Kd.R_base ho1) hb)
         have n2_ := zK (zV (zW ho0 (yB (zr HO_qa.out))) (yG (zl HB.out)))
         have n3_ := zK (zV (zW ho1 (yB (zr HO_qc.out))) (yG (zl HB.out)))
         have n4_ := zK (zP (g := gb236) (o := .cells #[.slice Ao31 xqa_1.length co31, .int .i64 xqb_1, .slice Ao32 xqc_1.length co32] 25 (0, 0)) (zb BK236.out) hb)
         have n5_ := zK (zP (g := gb248) (o := .cells #[.slice none 0 0, .int .i64 0, .slice none 0 0] 25 (0, 0)) (zb BK248.out) hb)
         have n6_ := zK (yF (zl HB.out) hb)
         clear HO_qa
         clear HO_qc
         clear BK236
         clear BK248
         clear HB
         have HO_qa := n0_
         have HO_qc := n1_
         have HO242 := n2_
         have HO246 := n3_
         have BK236 := n4_
         have BK248 := n5_
         have HB := n6_
         clear n0_ n1_ n2_ n3_ n4_ n5_ n6_
         (try clear hb)
         (try clear hb2)
         (try clear hk)
         (try clear hi)
         (try clear ho0)
         (try clear ho1)
         refine hK.out _ _ ⟨(zQ BK236.out 0).trans rfl, (zQ BK236.out 1).trans rfl, (zQ BK236.out 2).trans rfl⟩ (fun hHeld => ?_)
         clear hK K
         refine norm_ (a' := ?_) ?_ ?_
         rotate_left
         ·show Act.put _ (some 31) _ = _
          simp only [Act.put, zY, zZ, yA, i64_w, i32_w]
          rfl
         refine pure_ (i := 6) (N := some 25) (v := ?_) (a' := ?_) #[true, true, true, true, true, true, true, false, false, true, false, false] rfl rfl (any_of HT_.out (by kernel_rfl)) (fun _ _ _ h => h) (Or.inl ⟨by rfl, ?_⟩) ?_ ?_
         rotate_left
         ·intro w'
          go_simp
          with_reducible rfl
         rotate_left
         ·simp only [Act.put, zY, zZ, yA, i64_w, i32_w]
          rfl
         refine pure_ (i := 7) (N := some 32) (v := ?_) (a' := ?_) #[true, true, true, true, true, true, true, true, false, true, false, false] rfl rfl (any_of HT_.out (by kernel_rfl)) (fun _ _ _ h => h) (Or.inl ⟨by rfl, ?_⟩) ?_ ?_
         rotate_left
         ·intro w'
          go_simp
          with_reducible rfl
         rotate_left
         ·simp only [Act.put, zY, zZ, yA, i64_w, i32_w]
          rfl
         refine pure_ (i := 8) (N := some 33) (v := ?_) (a' := ?_) #[true, true, true, true, true, true, true, true, true, true, false, false] rfl rfl (any_of HT_.out (by kernel_rfl)) (fun _ _ _ h => h) (Or.inl ⟨by rfl, ?_⟩) ?_ ?_
         rotate_left
         ·intro w'
          go_simp
          with_reducible rfl
         rotate_left
         ·simp only [Act.put, zY, zZ, yA, i64_w, i32_w]
          rfl
         exact norm_ (by simp only [putAll, Act.put, zY, zZ, yA]) (hCont (v241, v245, gb248) _ ⟨hHeld, (by (with_reducible repeat (first | apply zA | apply zB | apply zC)); exact Kd.R_mono HO242.out (fun _ hk => hk.2)), (by (with_reducible repeat (first | apply zA | apply zB | apply zC)); exact Kd.R_mono HO246.out (fun _ hk => hk.2)), (by (with_reducible repeat (first | apply zA | apply zB | apply zC)); exact Kd.R_mono HO_qa.out (fun _ hk => hk.2)), (by (with_reducible repeat (first | apply zA | apply zB | apply zC)); exact Kd.R_mono HO_qc.out (fun _ hk => hk.2)), (zb BK236.out), (zb BK248.out), GW248.out, GE248.out, NB236_248.out, NB248_236.out, (zl HB.out)⟩)
       rintro ⟨v241, v245, gb248⟩ w37 ⟨hS_, h0_, h1_, h2_, h3_, h4_, h5_, h6_, h7_, h8_, h9_, h10_⟩
       have n0_ : Aside0 (Kd.R k64 64 w37 w.heap.size (fun k_ => some k_ ≠ (.slice Ao31 xqa_1.length co31 : Value).ownBlock) v241 t240) := ⟨h0_⟩
       have n1_ : Aside0 (Kd.R (Kd.int .i64) 3 w37 w.heap.size (fun k_ => some k_ ≠ (.slice Ao32 xqc_1.length co32 : Value).ownBlock) v245 t244) := ⟨h1_⟩
       have n2_ : Aside0 (Kd.R k64 64 w37 w.heap.size (fun k_ => some k_ ≠ (v241 : Value).ownBlock) (.slice Ao31 xqa_1.length co31) xqa_1) := ⟨h2_⟩
       have n3_ : Aside0 (Kd.R (Kd.int .i64) 3 w37 w.heap.size (fun k_ => some k_ ≠ (v245 : Value).ownBlock) (.slice Ao32 xqc_1.length co32) xqc_1) := ⟨h3_⟩
       have n4_ : Aside0 (w37.heap[gb236]? = some (.cells #[.slice Ao31 xqa_1.length co31, .int .i64 xqb_1, .slice Ao32 xqc_1.length co32] 25 (0, 0))) := ⟨h4_⟩
       have n5_ : Aside0 (w37.heap[gb248]? = some (.cells #[.slice none 0 0, .int .i64 0, .slice none 0 0] 25 (0, 0))) := ⟨h5_⟩
       have n6_ : Aside0 (w.heap.size ≤ gb248) := ⟨h6_⟩
       have n7_ : Aside0 (w.heap.size ≤ gb248) := ⟨h7_⟩
       have n8_ : Aside0 (gb236 ≠ gb248) := ⟨h8_⟩
       have n9_ : Aside0 (gb248 ≠ gb236) := ⟨h9_⟩
       have n10_ : Aside0 (Below w.heap.size w w37) := ⟨h10_⟩
       clear HO_qa
       clear HO_qc
       clear BK236
       clear HB
       clear h0_ h1_ h2_ h3_ h4_ h5_ h6_ h7_ h8_ h9_ h10_
       have HO242 := n0_
       have HO246 := n1_
       have HO_qa := n2_
       have HO_qc := n3_
       have BK236 := n4_
       have BK248 := n5_
       have GW248 := n6_
       have GE248 := n7_
       have NB236_248 := n8_
       have NB248_236 := n9_
       have HB := n10_
       clear n0_ n1_ n2_ n3_ n4_ n5_ n6_ n7_ n8_ n9_ n10_
       have hHeld : w37.cell? ⟨gb236, 0, none⟩ = some (.slice Ao31 xqa_1.length co31) ∧ w37.cell? ⟨gb236, 1, none⟩ = some (.int .i64 xqb_1) ∧ w37.cell? ⟨gb236, 2, none⟩ = some (.slice Ao32 xqc_1.length co32) := hS_
       obtain ⟨Ao38, co38, eo38⟩ := yE HO242.out
       (first | subst eo38 | (injection eo38 with f1_ f2_ f3_; have f4_ := f1_.symm; have f5_ := f3_.symm; clear f1_ f2_ f3_; subst f4_; subst f5_))
       obtain ⟨Ao41, co41, eo41⟩ := yE HO246.out
       (first | subst eo41 | (injection eo41 with f1_ f2_ f3_; have f4_ := f1_.symm; have f5_ := f3_.symm; clear f1_ f2_ f3_; subst f4_; subst f5_))
       refine norm_ (a' := ?_) ?_ ?_
       rotate_left
       ·simp only [putAll, Act.put, zY, zZ, yA]
        rfl
       refine one_ (i := 10) (N := none) #[true, true, true, true, true, true, true, true, true, true, true, false] rfl rfl (one_of HT_.out (by kernel_rfl)) (by decide) (fun K hK => ?_)
       have hs39 : w37.cell? ⟨gb248, 0, none⟩ = some (.slice none 0 0) := (zQ BK248.out 0).trans rfl
       have hfs39 := zR BK248.out 0
       have hns39_0 := NB236_248.out
       have hms39_0 := NB248_236.out
       have hs40 : w37.cell? ⟨gb248, 1, none⟩ = some (.int .i64 0) := (zQ BK248.out 1).trans rfl
       have hfs40 := zR BK248.out 1
       have hns40_0 := NB236_248.out
       have hms40_0 := NB248_236.out
       have hs42 : w37.cell? ⟨gb248, 2, none⟩ = some (.slice none 0 0) := (zQ BK248.out 2).trans rfl
       have hfs42 := zR BK248.out 2
       have hns42_0 := NB236_248.out
       have hms42_0 := NB248_236.out
       refine skip_ (w1 := ?_) (by rfl) rfl ?_ ?_
       rotate_left
       ·go_simp
        rfl
       refine hK.out _ _ ⟨((cell_far (p := ⟨gb248, _, none⟩) NB236_248.out _).trans (((cell_far (p := ⟨gb248, _, none⟩) NB236_248.out _).trans (((cell_far (p := ⟨gb248, _, none⟩) NB236_248.out _).trans (hHeld.1)))))), ((cell_far (p := ⟨gb248, _, none⟩) NB236_248.out _).trans (((cell_far (p := ⟨gb248, _, none⟩) NB236_248.out _).trans (((cell_far (p := ⟨gb248, _, none⟩) NB236_248.out _).trans (hHeld.2.1)))))), ((cell_far (p := ⟨gb248, _, none⟩) NB236_248.out _).trans (((cell_far (p := ⟨gb248, _, none⟩) NB236_248.out _).trans (((cell_far (p := ⟨gb248, _, none⟩) NB236_248.out _).trans (hHeld.2.2))))))⟩ (fun hHeld => ?_)
       clear hK K
       refine pure_ (i := 11) (N := some 10) (v := ?_) (a' := ?_) #[true, true, true, true, true, true, true, true, true, true, true, true] rfl rfl (any_of HT_.out (by kernel_rfl)) (fun _ _ _ h => h) (Or.inl ⟨by rfl, ?_⟩) ?_ ?_
       rotate_left
       ·intro w'
        go_simp
        with_reducible rfl
       rotate_left
       ·simp only [Act.put, zY, zZ, yA, i64_w, i32_w]
        rfl
       refine done_ (done_of HT_.out (by kernel_rfl)) ?_
       try go_wp2_with (first | ((with_reducible refine gate_callee (f := 19) rfl ?_); refine goesL_ (some 35) rfl rfl Try.func19 (by kernel_rfl) rfl #[.int .i64 t247] rfl zt ?_; (with_reducible refine (tollbarlaw0_Num.calls t247 t249 _ A14.out).mono ?_); rintro e w' ⟨rfl, ⟨nd, rfl⟩⟩; refine ⟨_, rfl, ?_⟩))
       go_ret
       exact ⟨by first | rfl | (rw [Option.some.inj (A67.out.symm.trans A69.out)]; rfl) | (simp [errW_none, errW_some] <;> rfl) | (simp [*, errW_none, errW_some] <;> rfl), zl HB.out⟩
   ·rw [if_neg c9] at H
    have c9b0 : decide (x7_1 ≤ (Go.bits .and .i64 a0 31)) = false := decide_eq_false c9
    clear c9
    have HC43 := zK H
    clear H
    go_upto_region 13 with (fail)
    go_cut [63] (fun v63 wc => ∃ (kq : Nat) (x63_42 : Bool), v63 = .bool x63_42 ∧ Aside0 (tollbarlaw17_TreeHigh.j2 kq (Go.bits .and .i64 a0 31) x63_42 xqa_1 xqb_1 xqc_1 = some r) ∧ Aside0 (kq ≤ k1) ∧ Aside0 (Kd.R k64 64 wc w.heap.size (fun _ => True) uqa xqa_1) ∧ Aside0 (Kd.R (Kd.int .i64) 3 wc w.heap.size (fun _ => True) uqc xqc_1) ∧ Aside0 (wc.heap[gb236]? = some (.cells #[uqa, .int .i64 xqb_1, uqc] 25 (0, 0))) ∧ Aside0 (Below w.heap.size w wc))
    case first =>
     have H := HC43.out
     clear HC43
     by_cases c44 : xqb_1 < 0
     ·rw [if_pos c44] at H
      have c44b0 : decide (xqb_1 < 0) = true := decide_eq_true c44
      clear c44
      (first | rw [c44b0] | (simp only [i64_w, i32_w]; rw [c44b0]) | skip)
      have H' := zK H
      clear H
      have hcz45_0 : wr.cell? ⟨gb236, 0, none⟩ = some (uqa) := (zQ BK236.out 0).trans rfl
      have hcz45_1 : wr.cell? ⟨gb236, 1, none⟩ = some (.int .i64 xqb_1) := (zQ BK236.out 1).trans rfl
      have hcz45_2 : wr.cell? ⟨gb236, 2, none⟩ = some (uqc) := (zQ BK236.out 2).trans rfl
      have hfz45_0 := zR BK236.out 0
      have hfz45_1 := zR BK236.out 1
      have hfz45_2 := zR BK236.out 2
      go_wp2
      go_meet
      case rel => exact ⟨_, (true), zz, H', ⟨by have := HK1.out; first | omega | exact Nat.le_refl _⟩, ⟨by (with_reducible repeat (first | apply zA | apply zB | apply zC)); exact HO_qa.out⟩, ⟨by (with_reducible repeat (first | apply zA | apply zB | apply zC)); exact HO_qc.out⟩, ⟨by (with_reducible repeat (first | refine zD ?_ _ | refine zE ?_ | refine zF ?_ _)); exact BK236.out⟩, ⟨by repeat (first | (with_reducible first | exact HB.out | apply zG | apply zH | apply zI | refine zL ?_ GE236.out) | exact HB.out)⟩⟩
     ·rw [if_neg c44] at H
      have c44b0 : decide (xqb_1 < 0) = false := decide_eq_false c44
      clear c44
      (first | rw [c44b0] | (simp only [i64_w, i32_w]; rw [c44b0]) | skip)
      by_cases c46 : xqb_1 ≥ (xqa_1.length : Int)
      ·rw [if_pos c46] at H
       have c46b0 : decide ((xqa_1.length : Int) ≤ xqb_1) = true := decide_eq_true c46
       clear c46
       have H' := zK H
       clear H
       have hcz47_0 : wr.cell? ⟨gb236, 0, none⟩ = some (uqa) := (zQ BK236.out 0).trans rfl
       have hcz47_1 : wr.cell? ⟨gb236, 1, none⟩ = some (.int .i64 xqb_1) := (zQ BK236.out 1).trans rfl
       have hcz47_2 : wr.cell? ⟨gb236, 2, none⟩ = some (uqc) := (zQ BK236.out 2).trans rfl
       have hfz47_0 := zR BK236.out 0
       have hfz47_1 := zR BK236.out 1
       have hfz47_2 := zR BK236.out 2
       obtain ⟨Ao48, co48, eo48⟩ := yE HO_qa.out
       subst eo48
       go_wp2
       go_meet
       case rel => exact ⟨_, (true), zz, H', ⟨by have := HK1.out; first | omega | exact Nat.le_refl _⟩, ⟨by (with_reducible repeat (first | apply zA | apply zB | apply zC)); exact HO_qa.out⟩, ⟨by (with_reducible repeat (first | apply zA | apply zB | apply zC)); exact HO_qc.out⟩, ⟨by (with_reducible repeat (first | refine zD ?_ _ | refine zE ?_ | refine zF ?_ _)); exact BK236.out⟩, ⟨by repeat (first | (with_reducible first | exact HB.out | apply zG | apply zH | apply zI | refine zL ?_ GE236.out) | exact HB.out)⟩⟩
      ·rw [if_neg c46] at H
       have c46b0 : decide ((xqa_1.length : Int) ≤ xqb_1) = false := decide_eq_false c46
       clear c46
       replace H := yH.mp H
       obtain ⟨t250, A490, H⟩ := H
       replace H : (if t250 = true then (if 0 ≤ xqb_1 then (if xqb_1 < (xqa_1.length : Int) then (tollbarlaw17_TreeHigh.j2 k1 (Go.bits .and .i64 a0 31) (decide (((rd_T64 xqa_1 xqb_1).f3) > 6)) xqa_1 xqb_1 xqc_1) else (none)) else (none)) else (tollbarlaw17_TreeHigh.j2 k1 (Go.bits .and .i64 a0 31) true xqa_1 xqb_1 xqc_1)) = some r := H
       have A49 := zK A490
       clear A490
       by_cases c50 : t250 = true
       ·subst c50
        have H1 : (if 0 ≤ xqb_1 then (if xqb_1 < (xqa_1.length : Int) then (tollbarlaw17_TreeHigh.j2 k1 (Go.bits .and .i64 a0 31) (decide (((rd_T64 xqa_1 xqb_1).f3) > 6)) xqa_1 xqb_1 xqc_1) else (none)) else (none)) = some r := by rw [if_pos rfl] at H; exact H
        clear H
        have H := H1
        clear H1
        by_cases c51 : 0 ≤ xqb_1
        ·rw [if_pos c51] at H
         have c51b0 : decide (0 ≤ xqb_1) = true := decide_eq_true c51
         clear c51
         by_cases c52 : xqb_1 < (xqa_1.length : Int)
         ·rw [if_pos c52] at H
          have c52b0 : decide (xqb_1 < (xqa_1.length : Int)) = true := decide_eq_true c52
          clear c52
          have H' := zK H
          clear H
          have hcz53_0 : wr.cell? ⟨gb236, 0, none⟩ = some (uqa) := (zQ BK236.out 0).trans rfl
          have hcz53_1 : wr.cell? ⟨gb236, 1, none⟩ = some (.int .i64 xqb_1) := (zQ BK236.out 1).trans rfl
          have hcz53_2 : wr.cell? ⟨gb236, 2, none⟩ = some (uqc) := (zQ BK236.out 2).trans rfl
          have hfz53_0 := zR BK236.out 0
          have hfz53_1 := zR BK236.out 1
          have hfz53_2 := zR BK236.out 2
          obtain ⟨Ao54, co54, eo54⟩ := yE HO_qa.out
          subst eo54
          obtain ⟨Ao55, co55, eo55⟩ := yE HO_qc.out
          subst eo55
          go_wp2_with (first | (go_at_call 16; (with_reducible refine (tree_May.calls _ _ xqa_1 xqb_1 _ _ xqc_1 true _ ?side1 ?side2 ?side3 ?side4 A49.out).mono ?_); (case side1 => exact zc (zX HO_qa.out).2.2); (case side2 => exact (zX HO_qa.out).2.1); (case side3 => exact zc (zX HO_qc.out).2.2); (case side4 => exact (zX HO_qc.out).2.1); rintro e w56 ⟨rfl, hb⟩; have n0_ := zK (zO (zr HO_qa.out) hb); have n1_ := zK (zO (zr HO_qc.out) hb); have n2_ := zK (zP (g := gb236) (o := .cells #[.slice Ao54 xqa_1.length co54, .int .i64 xqb_1, .slice Ao55 xqc_1.length co55] 25 (0, 0)) (zb BK236.out) hb); have n3_ := zK (yF (zl HB.out) hb); clear HO_qa; clear HO_qc; clear BK236; clear HB; have HO_qa := n0_; have HO_qc := n1_; have BK236 := n2_; have HB := n3_; clear n0_ n1_ n2_ n3_; (try clear hb); (try clear hb2); (try clear hk); (try clear hi); have hcz57_0 : w56.cell? ⟨gb236, 0, none⟩ = some (.slice Ao54 xqa_1.length co54) := (zQ BK236.out 0).trans rfl; have hcz57_1 : w56.cell? ⟨gb236, 1, none⟩ = some (.int .i64 xqb_1) := (zQ BK236.out 1).trans rfl; have hcz57_2 : w56.cell? ⟨gb236, 2, none⟩ = some (.slice Ao55 xqc_1.length co55) := (zQ BK236.out 2).trans rfl; have hfz57_0 := zR BK236.out 0; have hfz57_1 := zR BK236.out 1; have hfz57_2 := zR BK236.out 2; have p251 : 0 ≤ (xqb_1 : Int) := of_decide_eq_true (by first | (with_reducible assumption) | assumption); have q251 : xqb_1 < (xqa_1.length : Int) := of_decide_eq_true (by first | (with_reducible assumption) | assumption); obtain ⟨ad251, e251, hx251_0, hx251_1, hx251_2, hx251_3, hx251_4, hx251_5, hx251_6⟩ := at_T64 (zX HO_qa.out).2.2 xqb_1 p251 q251; cases e251; replace p251 := eq_true p251; replace q251 := eq_true q251))
          go_meet
          case rel => exact ⟨_, (decide (((rd_T64 xqa_1 xqb_1).f3) > 6)), zz, H', ⟨by have := HK1.out; first | omega | exact Nat.le_refl _⟩, ⟨by (with_reducible repeat (first | apply zA | apply zB | apply zC)); exact HO_qa.out⟩, ⟨by (with_reducible repeat (first | apply zA | apply zB | apply zC)); exact HO_qc.out⟩, ⟨by (with_reducible repeat (first | refine zD ?_ _ | refine zE ?_ | refine zF ?_ _)); exact BK236.out⟩, ⟨by repeat (first | (with_reducible first | exact HB.out | apply zG | apply zH | apply zI | refine zL ?_ GE236.out) | exact HB.out)⟩⟩
         ·rw [if_neg c52] at H
          exact absurd H (by simp)
        ·rw [if_neg c51] at H
         exact absurd H (by simp)
       ·replace c50 := Bool.eq_false_iff.mpr c50
        subst c50
        have H1 : (tollbarlaw17_TreeHigh.j2 k1 (Go.bits .and .i64 a0 31) true xqa_1 xqb_1 xqc_1) = some r := by rw [if_neg (show ¬ (false = true) by decide)] at H; exact H
        clear H
        have H := H1
        clear H1
        have H' := zK H
        clear H
        have hcz58_0 : wr.cell? ⟨gb236, 0, none⟩ = some (uqa) := (zQ BK236.out 0).trans rfl
        have hcz58_1 : wr.cell? ⟨gb236, 1, none⟩ = some (.int .i64 xqb_1) := (zQ BK236.out 1).trans rfl
        have hcz58_2 : wr.cell? ⟨gb236, 2, none⟩ = some (uqc) := (zQ BK236.out 2).trans rfl
        have hfz58_0 := zR BK236.out 0
        have hfz58_1 := zR BK236.out 1
        have hfz58_2 := zR BK236.out 2
        obtain ⟨Ao59, co59, eo59⟩ := yE HO_qa.out
        subst eo59
        obtain ⟨Ao60, co60, eo60⟩ := yE HO_qc.out
        subst eo60
        go_wp2_with (first | (go_at_call 16; (with_reducible refine (tree_May.calls _ _ xqa_1 xqb_1 _ _ xqc_1 false _ ?side1 ?side2 ?side3 ?side4 A49.out).mono ?_); (case side1 => exact zc (zX HO_qa.out).2.2); (case side2 => exact (zX HO_qa.out).2.1); (case side3 => exact zc (zX HO_qc.out).2.2); (case side4 => exact (zX HO_qc.out).2.1); rintro e w61 ⟨rfl, hb⟩; have n0_ := zK (zO (zr HO_qa.out) hb); have n1_ := zK (zO (zr HO_qc.out) hb); have n2_ := zK (zP (g := gb236) (o := .cells #[.slice Ao59 xqa_1.length co59, .int .i64 xqb_1, .slice Ao60 xqc_1.length co60] 25 (0, 0)) (zb BK236.out) hb); have n3_ := zK (yF (zl HB.out) hb); clear HO_qa; clear HO_qc; clear BK236; clear HB; have HO_qa := n0_; have HO_qc := n1_; have BK236 := n2_; have HB := n3_; clear n0_ n1_ n2_ n3_; (try clear hb); (try clear hb2); (try clear hk); (try clear hi)))
        go_meet
        case rel => exact ⟨_, (true), zz, H', ⟨by have := HK1.out; first | omega | exact Nat.le_refl _⟩, ⟨by (with_reducible repeat (first | apply zA | apply zB | apply zC)); exact HO_qa.out⟩, ⟨by (with_reducible repeat (first | apply zA | apply zB | apply zC)); exact HO_qc.out⟩, ⟨by (with_reducible repeat (first | refine zD ?_ _ | refine zE ?_ | refine zF ?_ _)); exact BK236.out⟩, ⟨by repeat (first | (with_reducible first | exact HB.out | apply zG | apply zH | apply zI | refine zL ?_ GE236.out) | exact HB.out)⟩⟩
    case rest =>
     clear HC43
     try clear c1
     try clear c2
     try clear p2
     try clear q2
     try clear hx2
     try clear c3
     try clear c4
     try clear c5
     try clear p6
     try clear c9
     try clear c9b0
     try clear c19
     try clear p25
     try clear q25
     try clear hx25
     try clear c26
     try clear c35
     try clear c44
     try clear c44b0
     try clear c46
     try clear c46b0
     try clear c50
     try clear c51
     try clear c51b0
     try clear c52
     try clear c52b0
     try clear hcz45_0
     try clear hcz45_1
     try clear hcz45_2
     try clear hcz47_0
     try clear hcz47_1
     try clear hcz47_2
     try clear hcz53_0
     try clear hcz53_1
     try clear hcz53_2
     try clear hcz57_0
     try clear hcz57_1
     try clear hcz57_2
     try clear hcz58_0
     try clear hcz58_1
     try clear hcz58_2
     try clear hfz45_0
     try clear hfz45_1
     try clear hfz45_2
     try clear hfz47_0
     try clear hfz47_1
     try clear hfz47_2
     try clear hfz53_0
     try clear hfz53_1
     try clear hfz53_2
     try clear hfz57_0
     try clear hfz57_1
     try clear hfz57_2
     try clear hfz58_0
     try clear hfz58_1
     try clear hfz58_2
     try clear hx251_0
     try clear hx251_1
     try clear hx251_2
     try clear hx251_3
     try clear hx251_4
     try clear hx251_5
     try clear hx251_6
     try clear p251
     try clear q251
     obtain ⟨kq, x63_42, rfl, HA, HJ42, HO_qa, HO_qc, BK236, HB⟩ := hcut
     cases kq with
     | zero => exact absurd HA.out (by simp [tollbarlaw17_TreeHigh.j2])
     | succ kj42 =>
      have H := HA.out
      clear HA
      simp only [tollbarlaw17_TreeHigh.j2] at H
      by_cases c62 : x63_42 = true
      ·subst c62
       have H1 : (some false) = some r := by rw [if_pos rfl] at H; exact H
       clear H
       have H := H1
       clear H1
       obtain rfl := Option.some.inj H
       go_wp2
       go_ret
       exact ⟨by first | rfl | (rw [Option.some.inj (A67.out.symm.trans A69.out)]; rfl) | (simp [errW_none, errW_some] <;> rfl) | (simp [*, errW_none, errW_some] <;> rfl), zl HB.out⟩
      ·replace c62 := Bool.eq_false_iff.mpr c62
       subst c62
       have H1 : ((tollbarlaw17_item.f 200 201 0).bind fun bt252 => ((tree_Insert.f xqa_1 xqb_1 xqc_1 bt252.1 bt252.2.1 bt252.2.2).bind fun bt255 => ((tollbarlaw17_awake.f).bind fun t264 => (if t264 = true then ((tollbarlaw0_Num.f bt255.2.2.2).bind fun t265 => (if ((t265 == 1703) == ((Go.bits .and .i64 a0 31) == 31)) = true then ((tollbarlaw0_Num.f bt255.2.2.2).bind fun t266 => (some ((t266 == 0) == (decide ((Go.bits .and .i64 a0 31) < 31))))) else (some false))) else (some false))))) = some r := by rw [if_neg (show ¬ (false = true) by decide)] at H; exact H
       clear H
       have H := H1
       clear H1
       replace H := yH.mp H
       obtain ⟨⟨t252, t253, t254⟩, A630, H⟩ := H
       replace H : ((tree_Insert.f xqa_1 xqb_1 xqc_1 t252 t253 t254).bind fun bt255 => ((tollbarlaw17_awake.f).bind fun t264 => (if t264 = true then ((tollbarlaw0_Num.f bt255.2.2.2).bind fun t265 => (if ((t265 == 1703) == ((Go.bits .and .i64 a0 31) == 31)) = true then ((tollbarlaw0_Num.f bt255.2.2.2).bind fun t266 => (some ((t266 == 0) == (decide ((Go.bits .and .i64 a0 31) < 31))))) else (some false))) else (some false)))) = some r := H
       have A63 := zK A630
       clear A630
       replace H := yH.mp H
       obtain ⟨⟨t255, t258, t259, t262⟩, A640, H⟩ := H
       replace H : ((tollbarlaw17_awake.f).bind fun t264 => (if t264 = true then ((tollbarlaw0_Num.f t262).bind fun t265 => (if ((t265 == 1703) == ((Go.bits .and .i64 a0 31) == 31)) = true then ((tollbarlaw0_Num.f t262).bind fun t266 => (some ((t266 == 0) == (decide ((Go.bits .and .i64 a0 31) < 31))))) else (some false))) else (some false))) = some r := H
       have A64 := zK A640
       clear A640
       replace H := yH.mp H
       obtain ⟨t264, A650, H⟩ := H
       replace H : (if t264 = true then ((tollbarlaw0_Num.f t262).bind fun t265 => (if ((t265 == 1703) == ((Go.bits .and .i64 a0 31) == 31)) = true then ((tollbarlaw0_Num.f t262).bind fun t266 => (some ((t266 == 0) == (decide ((Go.bits .and .i64 a0 31) < 31))))) else (some false))) else (some false)) = some r := H
       have A65 := zK A650
       clear A650
       by_cases c66 : t264 = true
       ·subst c66
        have H1 : ((tollbarlaw0_Num.f t262).bind fun t265 => (if ((t265 == 1703) == ((Go.bits .and .i64 a0 31) == 31)) = true then ((tollbarlaw0_Num.f t262).bind fun t266 => (some ((t266 == 0) == (decide ((Go.bits .and .i64 a0 31) < 31))))) else (some false))) = some r := by rw [if_pos rfl] at H; exact H
        clear H
        have H := H1
        clear H1
        replace H := yH.mp H
        obtain ⟨t265, A670, H⟩ := H
        replace H : (if ((t265 == 1703) == ((Go.bits .and .i64 a0 31) == 31)) = true then ((tollbarlaw0_Num.f t262).bind fun t266 => (some ((t266 == 0) == (decide ((Go.bits .and .i64 a0 31) < 31))))) else (some false)) = some r := H
        have A67 := zK A670
        clear A670
        by_cases c68 : ((t265 == 1703) == ((Go.bits .and .i64 a0 31) == 31)) = true
        ·rw [if_pos c68] at H
         have c68b0 : ((t265 == 1703) == ((Go.bits .and .i64 a0 31) == 31)) = true := c68
         (try (have c68b1 : decide ((t265 == 1703) = ((Go.bits .and .i64 a0 31) == 31)) = true := by simpa using c68))
         (try (have c68b2 : ((t265 == 1703) == ((Go.bits .and .i64 a0 31) == 31)) = true := by simpa using c68))
         clear c68
         replace H := yH.mp H
         obtain ⟨t266, A690, H⟩ := H
         replace H : (some ((t266 == 0) == (decide ((Go.bits .and .i64 a0 31) < 31)))) = some r := H
         have A69 := zK A690
         clear A690
         obtain rfl := Option.some.inj H
         obtain ⟨Ao70, co70, eo70⟩ := yE HO_qa.out
         subst eo70
         obtain ⟨Ao71, co71, eo71⟩ := yE HO_qc.out
         subst eo71
         try go_wp2
         have n0_ := zK (zC HO_qa.out)
         have n1_ := zK (zC HO_qc.out)
         have n2_ := zK (zE BK236.out)
         have n3_ := zK (zI HB.out)
         clear HO_qa
         clear HO_qc
         clear BK236
         clear HB
         have HO_qa := n0_
         have HO_qc := n1_
         have BK236 := n2_
         have HB := n3_
         clear n0_ n1_ n2_ n3_
         refine start_ (n := 9) (S := fun w' => w'.cell? ⟨gb236, 0, none⟩ = some (.slice Ao70 xqa_1.length co70) ∧ w'.cell? ⟨gb236, 1, none⟩ = some (.int .i64 xqb_1) ∧ w'.cell? ⟨gb236, 2, none⟩ = some (.slice Ao71 xqc_1.length co71)) (ds := []) #[false, false, false, false, false, false, false, false, false] (by kernel_rfl) rfl rfl ⟨(zQ BK236.out 0).trans rfl, (zQ BK236.out 1).trans rfl, (zQ BK236.out 2).trans rfl⟩ (fun hHeld => ?_); refine with_tabW tollbarlaw17_TreeHigh.tab15 tollbarlaw17_TreeHigh.bits15 (fun HT_ HW_ => ?_)
         generalize wc.drew = w72 at HO_qa HO_qc BK236 HB hHeld ⊢
         refine take_ (i := 0) (N := some 65) (v := ?_) (a' := ?_) #[true, false, false, false, false, false, false, false, false] rfl rfl (take_ofW HT_.out HW_.out (by kernel_rfl)) (fun _ _ _ h => h) (Or.inl ⟨by rfl, ?_⟩) hHeld ?_ ?_
         rotate_left
         ·rintro w' ⟨s0, s1, s2⟩
          go_simp
          with_reducible rfl
         rotate_left
         ·simp only [Act.put, zY, zZ, yA, i64_w, i32_w]
          rfl
         refine join_ (σ := Value × Value × Nat) 2 #[true, true, true, true, true, true, true, false, false] (fun s_ => [(66, .agg #[.int .i64 t252, .int .i64 t253, .int .i64 t254]), (67, .tuple #[.agg #[s_.1, .int .i64 t258, s_.2.1], .int .i64 t262]), (11, .pointer (some ⟨s_.2.2, 0, none⟩)), (64, .tuple #[.agg #[s_.1, .int .i64 t258, s_.2.1], .int .i64 t262]), (68, .agg #[s_.1, .int .i64 t258, s_.2.1]), (69, .int .i64 t262)]) (fun s_ w' => (w'.cell? ⟨gb236, 0, none⟩ = some (.slice Ao70 xqa_1.length co70) ∧ w'.cell? ⟨gb236, 1, none⟩ = some (.int .i64 xqb_1) ∧ w'.cell? ⟨gb236, 2, none⟩ = some (.slice Ao71 xqc_1.length co71)) ∧ (Kd.R k64 64 w' w.heap.size (fun k_ => some k_ ≠ (.slice Ao70 xqa_1.length co70 : Value).ownBlock) s_.1 t255) ∧ (Kd.R (Kd.int .i64) 3 w' w.heap.size (fun k_ => some k_ ≠ (.slice Ao71 xqc_1.length co71 : Value).ownBlock) s_.2.1 t259) ∧ (Kd.R k64 64 w' w.heap.size (fun k_ => some k_ ≠ (s_.1 : Value).ownBlock) (.slice Ao70 xqa_1.length co70) xqa_1) ∧ (Kd.R (Kd.int .i64) 3 w' w.heap.size (fun k_ => some k_ ≠ (s_.2.1 : Value).ownBlock) (.slice Ao71 xqc_1.length co71) xqc_1) ∧ (w'.heap[gb236]? = some (.cells #[.slice Ao70 xqa_1.length co70, .int .i64 xqb_1, .slice Ao71 xqc_1.length co71] 25 (0, 0))) ∧ (w'.heap[s_.2.2]? = some (.cells #[.slice none 0 0, .int .i64 0, .slice none 0 0] 25 (0, 0))) ∧ (w.heap.size ≤ s_.2.2) ∧ (w.heap.size ≤ s_.2.2) ∧ (gb236 ≠ s_.2.2) ∧ (s_.2.2 ≠ gb236) ∧ (Below w.heap.size w w')) ?_ ?_
         rotate_left
         ·intro hCont
          refine two_ (i := 1) (j := 6) (Ni := some 66) (Nj := some 11) #[true, true, false, false, false, false, false, false, false] #[true, false, false, false, false, false, true, false, false] rfl rfl rfl rfl (two_of HT_.out (by kernel_rfl)) (by decide) (by decide) (fun K hK => ?_) (fun K hK => ?_)
          ·skip
           refine goes_ Try.func35 (by kernel_rfl) rfl #[.int .i64 200, .int .i64 201, .int .i64 0] (by rfl) rfl rfl zt ?_
           with_reducible refine (tollbarlaw17_item.calls 200 201 0 t252 t253 t254 _ A63.out).mono ?_
           rintro e w73 ⟨rfl, hb⟩
           refine ⟨_, rfl, ?_⟩
           have n0_ := zK (zO (zr HO_qa.out) hb)
           have n1_ := zK (zO (zr HO_qc.out) hb)
           have n2_ := zK (zP (g := gb236) (o := .cells #[.slice Ao70 xqa_1.length co70, .int .i64 xqb_1, .slice Ao71 xqc_1.length co71] 25 (0, 0)) (zb BK236.out) hb)
           have n3_ := zK (yF (zl HB.out) hb)
           clear HO_qa
           clear HO_qc
           clear BK236
           clear HB
           have HO_qa := n0_
           have HO_qc := n1_
           have BK236 := n2_
           have HB := n3_
           clear n0_ n1_ n2_ n3_
           (try clear hb)
           (try clear hb2)
           (try clear hk)
           (try clear hi)
           refine hK.out _ _ ⟨(zQ BK236.out 0).trans rfl, (zQ BK236.out 1).trans rfl, (zQ BK236.out 2).trans rfl⟩ (fun hHeld => ?_)
           clear hK K
           refine norm_ (a' := ?_) ?_ ?_
           rotate_left
           ·show Act.put _ (some 66) _ = _
            simp only [Act.put, zY, zZ, yA, i64_w, i32_w]
            rfl
           refine two_ (i := 2) (j := 6) (Ni := some 67) (Nj := some 11) #[true, true, true, false, false, false, false, false, false] #[true, true, false, false, false, false, true, false, false] rfl rfl rfl rfl (two_of HT_.out (by kernel_rfl)) (by decide) (by decide) (fun K hK => ?_) (fun K hK => ?_)
           ·skip
            refine goes_ Try.func26 (by kernel_rfl) rfl #[.agg #[.slice Ao70 xqa_1.length co70, .int .i64 xqb_1, .slice Ao71 xqc_1.length co71], .agg #[.int .i64 t252, .int .i64 t253, .int .i64 t254]] (by rfl) rfl rfl zt ?_
            with_reducible refine (tree_Insert.calls _ _ xqa_1 xqb_1 _ _ xqc_1 t252 t253 t254 t255 t258 t259 t262 _ ?side1 ?side2 ?side3 ?side4 A64.out).mono ?_
            (case side1 => exact zc (zX HO_qa.out).2.2)
            (case side2 => exact (zX HO_qa.out).2.1)
            (case side3 => exact zc (zX HO_qc.out).2.2)
            (case side4 => exact (zX HO_qc.out).2.1)
            rintro e w74 ⟨v256, v260, rfl, ho0, ho1, hb⟩
            refine ⟨_, rfl, ?_⟩
            have n0_ := zK (yC (zr HO_qa.out) (Kd.R_base ho0) hb)
            have n1_ := zK (yC (zr HO_qc.out) (Kd.R_base ho1) hb)
            have n2_ := zK (zV (zW ho0 (yB (zr HO_qa.out))) (yG (zl HB.out)))
            have n3_ := zK (zV (zW ho1 (yB (zr HO_qc.out))) (yG (zl HB.out)))
            have n4_ := zK (zP (g := gb236) (o := .cells #[.slice Ao70 xqa_1.length co70, .int .i64 xqb_1, .slice Ao71 xqc_1.length co71] 25 (0, 0)) (zb BK236.out) hb)
            have n5_ := zK (yF (zl HB.out) hb)
            clear HO_qa
            clear HO_qc
            clear BK236
            clear HB
            have HO_qa := n0_
            have HO_qc := n1_
            have HO257 := n2_
            have HO261 := n3_
            have BK236 := n4_
            have HB := n5_
            clear n0_ n1_ n2_ n3_ n4_ n5_
            (try clear hb)
            (try clear hb2)
            (try clear hk)
            (try clear hi)
            (try clear ho0)
            (try clear ho1)
            refine hK.out _ _ ⟨(zQ BK236.out 0).trans rfl, (zQ BK236.out 1).trans rfl, (zQ BK236.out 2).trans rfl⟩ (fun hHeld => ?_)
            clear hK K
            refine norm_ (a' := ?_) ?_ ?_
            rotate_left
            ·show Act.put _ (some 67) _ = _
             simp only [Act.put, zY, zZ, yA, i64_w, i32_w]
             rfl
            refine pure_ (i := 3) (N := some 64) (v := ?_) (a' := ?_) #[true, true, true, true, false, false, false, false, false] rfl rfl (any_of HT_.out (by kernel_rfl)) (fun _ _ _ h => h) (Or.inl ⟨by rfl, ?_⟩) ?_ ?_
            rotate_left
            ·intro w'
             go_simp
             with_reducible rfl
            rotate_left
            ·simp only [Act.put, zY, zZ, yA, i64_w, i32_w]
             rfl
            refine pure_ (i := 4) (N := some 68) (v := ?_) (a' := ?_) #[true, true, true, true, true, false, false, false, false] rfl rfl (any_of HT_.out (by kernel_rfl)) (fun _ _ _ h => h) (Or.inl ⟨by rfl, ?_⟩) ?_ ?_
            rotate_left
            ·intro w'
             go_simp
             with_reducible rfl
            rotate_left
            ·simp only [Act.put, zY, zZ, yA, i64_w, i32_w]
             rfl
            refine pure_ (i := 5) (N := some 69) (v := ?_) (a' := ?_) #[true, true, true, true, true, true, false, false, false] rfl rfl (any_of HT_.out (by kernel_rfl)) (fun _ _ _ h => h) (Or.inl ⟨by rfl, ?_⟩) ?_ ?_
            rotate_left
            ·intro w'
             go_simp
             with_reducible rfl
            rotate_left
            ·simp only [Act.put, zY, zZ, yA, i64_w, i32_w]
             rfl
            refine one_ (i := 6) (N := some 11) #[true, true, true, true, true, true, true, false, false] rfl rfl (one_of HT_.out (by kernel_rfl)) (by decide) (fun K hK => ?_)
            refine box_step ?hg (N := 11) ?hd (cs := #[.slice none 0 0, .int .i64 0, .slice none 0 0]) (t := 25) ?hr ?_; (case hd => rfl); (case hg => rfl); (case hr => first | (go_simp; done) | (go_simp; rfl))
            intro gb263 hg w75 hbox hb
            have n0_ := zK (zO (zr HO_qa.out) hb)
            have n1_ := zK (zO (zr HO_qc.out) hb)
            have n2_ := zK (zO (zr HO257.out) hb)
            have n3_ := zK (zO (zr HO261.out) hb)
            have n4_ := zK (zP (g := gb236) (o := .cells #[.slice Ao70 xqa_1.length co70, .int .i64 xqb_1, .slice Ao71 xqc_1.length co71] 25 (0, 0)) (zb BK236.out) hb)
            have n5_ := zK (yF (zl HB.out) hb)
            have n6_ := zK (hbox)
            have n7_ := zK ((by rw [hg]; exact (yG (zl HB.out)) : w.heap.size ≤ gb263))
            have n8_ := zK ((by rw [hg]; exact (yG (zl HB.out)) : w.heap.size ≤ gb263))
            have n9_ := zK ((by rw [hg]; exact zN (blk_lt (g := gb236) (o := .cells #[.slice Ao70 xqa_1.length co70, .int .i64 xqb_1, .slice Ao71 xqc_1.length co71] 25 (0, 0)) (zb BK236.out)) : gb236 ≠ gb263))
            have n10_ := zK ((by rw [hg]; exact Nat.ne_of_gt (blk_lt (g := gb236) (o := .cells #[.slice Ao70 xqa_1.length co70, .int .i64 xqb_1, .slice Ao71 xqc_1.length co71] 25 (0, 0)) (zb BK236.out)) : gb263 ≠ gb236))
            clear HO_qa
            clear HO_qc
            clear HO257
            clear HO261
            clear BK236
            clear HB
            have HO_qa := n0_
            have HO_qc := n1_
            have HO257 := n2_
            have HO261 := n3_
            have BK236 := n4_
            have HB := n5_
            have BK263 := n6_
            have GW263 := n7_
            have GE263 := n8_
            have NB236_263 := n9_
            have NB263_236 := n10_
            clear n0_ n1_ n2_ n3_ n4_ n5_ n6_ n7_ n8_ n9_ n10_
            clear hb hbox hg
            refine hK.out _ _ ⟨(zQ BK236.out 0).trans rfl, (zQ BK236.out 1).trans rfl, (zQ BK236.out 2).trans rfl⟩ (fun hHeld => ?_)
            clear hK K
            refine norm_ (a' := ?_) ?_ ?_
            rotate_left
            ·show Act.put _ (some 11) _ = _
             simp only [Act.put, zY, zZ, yA, i64_w, i32_w]
             rfl
            exact norm_ (by simp only [putAll, Act.put, zY, zZ, yA]) (hCont (v256, v260, gb263) _ ⟨hHeld, (by (with_reducible repeat (first | apply zA | apply zB | apply zC)); exact Kd.R_mono HO257.out (fun _ hk => hk.2)), (by (with_reducible repeat (first | apply zA | apply zB | apply zC)); exact Kd.R_mono HO261.out (fun _ hk => hk.2)), (by (with_reducible repeat (first | apply zA | apply zB | apply zC)); exact Kd.R_mono HO_qa.out (fun _ hk => hk.2)), (by (with_reducible repeat (first | apply zA | apply zB | apply zC)); exact Kd.R_mono HO_qc.out (fun _ hk => hk.2)), (zb BK236.out), (zb BK263.out), GW263.out, GE263.out, NB236_263.out, NB263_236.out, (zl HB.out)⟩)
           ·skip
            refine box_step ?hg (N := 11) ?hd (cs := #[.slice none 0 0, .int .i64 0, .slice none 0 0]) (t := 25) ?hr ?_; (case hd => rfl); (case hg => rfl); (case hr => first | (go_simp; done) | (go_simp; rfl))
            intro gb263 hg w74 hbox hb
            have n0_ := zK (zO (zr HO_qa.out) hb)
            have n1_ := zK (zO (zr HO_qc.out) hb)
            have n2_ := zK (zP (g := gb236) (o := .cells #[.slice Ao70 xqa_1.length co70, .int .i64 xqb_1, .slice Ao71 xqc_1.length co71] 25 (0, 0)) (zb BK236.out) hb)
            have n3_ := zK (yF (zl HB.out) hb)
            have n4_ := zK (hbox)
            have n5_ := zK ((by rw [hg]; exact (yG (zl HB.out)) : w.heap.size ≤ gb263))
            have n6_ := zK ((by rw [hg]; exact (yG (zl HB.out)) : w.heap.size ≤ gb263))
            have n7_ := zK ((by rw [hg]; exact zN (blk_lt (g := gb236) (o := .cells #[.slice Ao70 xqa_1.length co70, .int .i64 xqb_1, .slice Ao71 xqc_1.length co71] 25 (0, 0)) (zb BK236.out)) : gb236 ≠ gb263))
            have n8_ := zK ((by rw [hg]; exact Nat.ne_of_gt (blk_lt (g := gb236) (o := .cells #[.slice Ao70 xqa_1.length co70, .int .i64 xqb_1, .slice Ao71 xqc_1.length co71] 25 (0, 0)) (zb BK236.out)) : gb263 ≠ gb236))
            clear HO_qa
            clear HO_qc
            clear BK236
            clear HB
            have HO_qa := n0_
            have HO_qc := n1_
            have BK236 := n2_
            have HB := n3_
            have BK263 := n4_
            have GW263 := n5_
            have GE263 := n6_
            have NB236_263 := n7_
            have NB263_236 := n8_
            clear n0_ n1_ n2_ n3_ n4_ n5_ n6_ n7_ n8_
            clear hb hbox hg
            refine hK.out _ _ ⟨(zQ BK236.out 0).trans rfl, (zQ BK236.out 1).trans rfl, (zQ BK236.out 2).trans rfl⟩ (fun hHeld => ?_)
            clear hK K
            refine norm_ (a' := ?_) ?_ ?_
            rotate_left
            ·show Act.put _ (some 11) _ = _
             simp only [Act.put, zY, zZ, yA, i64_w, i32_w]
             rfl
            refine one_ (i := 2) (N := some 67) #[true, true, true, false, false, false, true, false, false] rfl rfl (one_of HT_.out (by kernel_rfl)) (by decide) (fun K hK => ?_)
            refine goes_ Try.func26 (by kernel_rfl) rfl #[.agg #[.slice Ao70 xqa_1.length co70, .int .i64 xqb_1, .slice Ao71 xqc_1.length co71], .agg #[.int .i64 t252, .int .i64 t253, .int .i64 t254]] (by rfl) rfl rfl zt ?_
            with_reducible refine (tree_Insert.calls _ _ xqa_1 xqb_1 _ _ xqc_1 t252 t253 t254 t255 t258 t259 t262 _ ?side1 ?side2 ?side3 ?side4 A64.out).mono ?_
            (case side1 => exact zc (zX HO_qa.out).2.2)
            (case side2 => exact (zX HO_qa.out).2.1)
            (case side3 => exact zc (zX HO_qc.out).2.2)
            (case side4 => exact (zX HO_qc.out).2.1)
            rintro e w75 ⟨v256, v260, rfl, ho0, ho1, hb⟩
            refine ⟨_, rfl, ?_⟩
            have n0_ := zK (yC (zr HO_qa.out) (Kd.R_base ho0) hb)
            have n1_ := zK (yC (zr HO_qc.out) (Kd.R_base ho1) hb)
            have n2_ := zK (zV (zW ho0 (yB (zr HO_qa.out))) (yG (zl HB.out)))
            have n3_ := zK (zV (zW ho1 (yB (zr HO_qc.out))) (yG (zl HB.out)))
            have n4_ := zK (zP (g := gb236) (o := .cells #[.slice Ao70 xqa_1.length co70, .int .i64 xqb_1, .slice Ao71 xqc_1.length co71] 25 (0, 0)) (zb BK236.out) hb)
            have n5_ := zK (zP (g := gb263) (o := .cells #[.slice none 0 0, .int .i64 0, .slice none 0 0] 25 (0, 0)) (zb BK263.out) hb)
            have n6_ := zK (yF (zl HB.out) hb)
            clear HO_qa
            clear HO_qc
            clear BK236
            clear BK263
            clear HB
            have HO_qa := n0_
            have HO_qc := n1_
            have HO257 := n2_
            have HO261 := n3_
            have BK236 := n4_
            have BK263 := n5_
            have HB := n6_
            clear n0_ n1_ n2_ n3_ n4_ n5_ n6_
            (try clear hb)
            (try clear hb2)
            (try clear hk)
            (try clear hi)
            (try clear ho0)
            (try clear ho1)
            refine hK.out _ _ ⟨(zQ BK236.out 0).trans rfl, (zQ BK236.out 1).trans rfl, (zQ BK236.out 2).trans rfl⟩ (fun hHeld => ?_)
            clear hK K
            refine norm_ (a' := ?_) ?_ ?_
            rotate_left
            ·show Act.put _ (some 67) _ = _
             simp only [Act.put, zY, zZ, yA, i64_w, i32_w]
             rfl
            refine pure_ (i := 3) (N := some 64) (v := ?_) (a' := ?_) #[true, true, true, true, false, false, true, false, false] rfl rfl (any_of HT_.out (by kernel_rfl)) (fun _ _ _ h => h) (Or.inl ⟨by rfl, ?_⟩) ?_ ?_
            rotate_left
            ·intro w'
             go_simp
             with_reducible rfl
            rotate_left
            ·simp only [Act.put, zY, zZ, yA, i64_w, i32_w]
             rfl
            refine pure_ (i := 4) (N := some 68) (v := ?_) (a' := ?_) #[true, true, true, true, true, false, true, false, false] rfl rfl (any_of HT_.out (by kernel_rfl)) (fun _ _ _ h => h) (Or.inl ⟨by rfl, ?_⟩) ?_ ?_
            rotate_left
            ·intro w'
             go_simp
             with_reducible rfl
            rotate_left
            ·simp only [Act.put, zY, zZ, yA, i64_w, i32_w]
             rfl
            refine pure_ (i := 5) (N := some 69) (v := ?_) (a' := ?_) #[true, true, true, true, true, true, true, false, false] rfl rfl (any_of HT_.out (by kernel_rfl)) (fun _ _ _ h => h) (Or.inl ⟨by rfl, ?_⟩) ?_ ?_
            rotate_left
            ·intro w'
             go_simp
             with_reducible rfl
            rotate_left
            ·simp only [Act.put, zY, zZ, yA, i64_w, i32_w]
             rfl
            exact norm_ (by simp only [putAll, Act.put, zY, zZ, yA]) (hCont (v256, v260, gb263) _ ⟨hHeld, (by (with_reducible repeat (first | apply zA | apply zB | apply zC)); exact Kd.R_mono HO257.out (fun _ hk => hk.2)), (by (with_reducible repeat (first | apply zA | apply zB | apply zC)); exact Kd.R_mono HO261.out (fun _ hk => hk.2)), (by (with_reducible repeat (first | apply zA | apply zB | apply zC)); exact Kd.R_mono HO_qa.out (fun _ hk => hk.2)), (by (with_reducible repeat (first | apply zA | apply zB | apply zC)); exact Kd.R_mono HO_qc.out (fun _ hk => hk.2)), (zb BK236.out), (zb BK263.out), GW263.out, GE263.out, NB236_263.out, NB263_236.out, (zl HB.out)⟩)
          ·skip
           refine box_step ?hg (N := 11) ?hd (cs := #[.slice none 0 0, .int .i64 0, .slice none 0 0]) (t := 25) ?hr ?_; (case hd => rfl); (case hg => rfl); (case hr => first | (go_simp; done) | (go_simp; rfl))
           intro gb263 hg w73 hbox hb
           have n0_ := zK (zO (zr HO_qa.out) hb)
           have n1_ := zK (zO (zr HO_qc.out) hb)
           have n2_ := zK (zP (g := gb236) (o := .cells #[.slice Ao70 xqa_1.length co70, .int .i64 xqb_1, .slice Ao71 xqc_1.length co71] 25 (0, 0)) (zb BK236.out) hb)
           have n3_ := zK (yF (zl HB.out) hb)
           have n4_ := zK (hbox)
           have n5_ := zK ((by rw [hg]; exact (yG (zl HB.out)) : w.heap.size ≤ gb263))
           have n6_ := zK ((by rw [hg]; exact (yG (zl HB.out)) : w.heap.size ≤ gb263))
           have n7_ := zK ((by rw [hg]; exact zN (blk_lt (g := gb236) (o := .cells #[.slice Ao70 xqa_1.length co70, .int .i64 xqb_1, .slice Ao71 xqc_1.length co71] 25 (0, 0)) (zb BK236.out)) : gb236 ≠ gb263))
           have n8_ := zK ((by rw [hg]; exact Nat.ne_of_gt (blk_lt (g := gb236) (o := .cells #[.slice Ao70 xqa_1.length co70, .int .i64 xqb_1, .slice Ao71 xqc_1.length co71] 25 (0, 0)) (zb BK236.out)) : gb263 ≠ gb236))
           clear HO_qa
           clear HO_qc
           clear BK236
           clear HB
           have HO_qa := n0_
           have HO_qc := n1_
           have BK236 := n2_
           have HB := n3_
           have BK263 := n4_
           have GW263 := n5_
           have GE263 := n6_
           have NB236_263 := n7_
           have NB263_236 := n8_
           clear n0_ n1_ n2_ n3_ n4_ n5_ n6_ n7_ n8_
           clear hb hbox hg
           refine hK.out _ _ ⟨(zQ BK236.out 0).trans rfl, (zQ BK236.out 1).trans rfl, (zQ BK236.out 2).trans rfl⟩ (fun hHeld => ?_)
           clear hK K
           refine norm_ (a' := ?_) ?_ ?_
           rotate_left
           ·show Act.put _ (some 11) _ = _
            simp only [Act.put, zY, zZ, yA, i64_w, i32_w]
            rfl
           refine one_ (i := 1) (N := some 66) #[true, true, false, false, false, false, true, false, false] rfl rfl (one_of HT_.out (by kernel_rfl)) (by decide) (fun K hK => ?_)
           refine goes_ Try.func35 (by kernel_rfl) rfl #[.int .i64 200, .int .i64 201, .int .i64 0] (by rfl) rfl rfl zt ?_
           with_reducible refine (tollbarlaw17_item.calls 200 201 0 t252 t253 t254 _ A63.out).mono ?_
           rintro e w74 ⟨rfl, hb⟩
           refine ⟨_, rfl, ?_⟩
           have n0_ := zK (zO (zr HO_qa.out) hb)
           have n1_ := zK (zO (zr HO_qc.out) hb)
           have n2_ := zK (zP (g := gb236) (o := .cells #[.slice Ao70 xqa_1.length co70, .int .i64 xqb_1, .slice Ao71 xqc_1.length co71] 25 (0, 0)) (zb BK236.out) hb)
           have n3_ := zK (zP (g := gb263) (o := .cells #[.slice none 0 0, .int .i64 0, .slice none 0 0] 25 (0, 0)) (zb BK263.out) hb)
           have n4_ := zK (yF (zl HB.out) hb)
           clear HO_qa
           clear HO_qc
           clear BK236
           clear BK263
           clear HB
           have HO_qa := n0_
           have HO_qc := n1_
           have BK236 := n2_
           have BK263 := n3_
           have HB := n4_
           clear n0_ n1_ n2_ n3_ n4_
           (try clear hb)
           (try clear hb2)
           (try clear hk)
           (try clear hi)
           refine hK.out _ _ ⟨(zQ BK236.out 0).trans rfl, (zQ BK236.out 1).trans rfl, (zQ BK236.out 2).trans rfl⟩ (fun hHeld => ?_)
           clear hK K
           refine norm_ (a' := ?_) ?_ ?_
           rotate_left
           ·show Act.put _ (some 66) _ = _
            simp only [Act.put, zY, zZ, yA, i64_w, i32_w]
            rfl
           refine one_ (i := 2) (N := some 67) #[true, true, true, false, false, false, true, false, false] rfl rfl (one_of HT_.out (by kernel_rfl)) (by decide) (fun K hK => ?_)
           refine goes_ Try.func26 (by kernel_rfl) rfl #[.agg #[.slice Ao70 xqa_1.length co70, .int .i64 xqb_1, .slice Ao71 xqc_1.length co71], .agg #[.int .i64 t252, .int .i64 t253, .int .i64 t254]] (by rfl) rfl rfl zt ?_
           with_reducible refine (tree_Insert.calls _ _ xqa_1 xqb_1 _ _ xqc_1 t252 t253 t254 t255 t258 t259 t262 _ ?side1 ?side2 ?side3 ?side4 A64.out).mono ?_
           (case side1 => exact zc (zX HO_qa.out).2.2)
           (case side2 => exact (zX HO_qa.out).2.1)
           (case side3 => exact zc (zX HO_qc.out).2.2)
           (case side4 => exact (zX HO_qc.out).2.1)
           rintro e w75 ⟨v256, v260, rfl, ho0, ho1, hb⟩
           refine ⟨_, rfl, ?_⟩
           have n0_ := zK (yC (zr HO_qa.out) (Kd.R_base ho0) hb)
           have n1_ := zK (yC (zr HO_qc.out) (Kd.R_base ho1) hb)
           have n2_ := zK (zV (zW ho0 (yB (zr HO_qa.out))) (yG (zl HB.out)))
           have n3_ := zK (zV (zW ho1 (yB (zr HO_qc.out))) (yG (zl HB.out)))
           have n4_ := zK (zP (g := gb236) (o := .cells #[.slice Ao70 xqa_1.length co70, .int .i64 xqb_1, .slice Ao71 xqc_1.length co71] 25 (0, 0)) (zb BK236.out) hb)
           have n5_ := zK (zP (g := gb263) (o := .cells #[.slice none 0 0, .int .i64 0, .slice none 0 0] 25 (0, 0)) (zb BK263.out) hb)
           have n6_ := zK (yF (zl HB.out) hb)
           clear HO_qa
           clear HO_qc
           clear BK236
           clear BK263
           clear HB
           have HO_qa := n0_
           have HO_qc := n1_
           have HO257 := n2_
           have HO261 := n3_
           have BK236 := n4_
           have BK263 := n5_
           have HB := n6_
           clear n0_ n1_ n2_ n3_ n4_ n5_ n6_
           (try clear hb)
           (try clear hb2)
           (try clear hk)
           (try clear hi)
           (try clear ho0)
           (try clear ho1)
           refine hK.out _ _ ⟨(zQ BK236.out 0).trans rfl, (zQ BK236.out 1).trans rfl, (zQ BK236.out 2).trans rfl⟩ (fun hHeld => ?_)
           clear hK K
           refine norm_ (a' := ?_) ?_ ?_
           rotate_left
           ·show Act.put _ (some 67) _ = _
            simp only [Act.put, zY, zZ, yA, i64_w, i32_w]
            rfl
           refine pure_ (i := 3) (N := some 64) (v := ?_) (a' := ?_) #[true, true, true, true, false, false, true, false, false] rfl rfl (any_of HT_.out (by kernel_rfl)) (fun _ _ _ h => h) (Or.inl ⟨by rfl, ?_⟩) ?_ ?_
           rotate_left
           ·intro w'
            go_simp
            with_reducible rfl
           rotate_left
           ·simp only [Act.put, zY, zZ, yA, i64_w, i32_w]
            rfl
           refine pure_ (i := 4) (N := some 68) (v := ?_) (a' := ?_) #[true, true, true, true, true, false, true, false, false] rfl rfl (any_of HT_.out (by kernel_rfl)) (fun _ _ _ h => h) (Or.inl ⟨by rfl, ?_⟩) ?_ ?_
           rotate_left
           ·intro w'
            go_simp
            with_reducible rfl
           rotate_left
           ·simp only [Act.put, zY, zZ, yA, i64_w, i32_w]
            rfl
           refine pure_ (i := 5) (N := some 69) (v := ?_) (a' := ?_) #[true, true, true, true, true, true, true, false, false] rfl rfl (any_of HT_.out (by kernel_rfl)) (fun _ _ _ h => h) (Or.inl ⟨by rfl, ?_⟩) ?_ ?_
           rotate_left
           ·intro w'
            go_simp
            with_reducible rfl
           rotate_left
           ·simp only [Act.put, zY, zZ, yA, i64_w, i32_w]
            rfl
           exact norm_ (by simp only [putAll, Act.put, zY, zZ, yA]) (hCont (v256, v260, gb263) _ ⟨hHeld, (by (with_reducible repeat (first | apply zA | apply zB | apply zC)); exact Kd.R_mono HO257.out (fun _ hk => hk.2)), (by (with_reducible repeat (first | apply zA | apply zB | apply zC)); exact Kd.R_mono HO261.out (fun _ hk => hk.2)), (by (with_reducible repeat (first | apply zA | apply zB | apply zC)); exact Kd.R_mono HO_qa.out (fun _ hk => hk.2)), (by (with_reducible repeat (first | apply zA | apply zB | apply zC)); exact Kd.R_mono HO_qc.out (fun _ hk => hk.2)), (zb BK236.out), (zb BK263.out), GW263.out, GE263.out, NB236_263.out, NB263_236.out, (zl HB.out)⟩)
         rintro ⟨v256, v260, gb263⟩ w76 ⟨hS_, h0_, h1_, h2_, h3_, h4_, h5_, h6_, h7_, h8_, h9_, h10_⟩
         have n0_ : Aside0 (Kd.R k64 64 w76 w.heap.size (fun k_ => some k_ ≠ (.slice Ao70 xqa_1.length co70 : Value).ownBlock) v256 t255) := ⟨h0_⟩
         have n1_ : Aside0 (Kd.R (Kd.int .i64) 3 w76 w.heap.size (fun k_ => some k_ ≠ (.slice Ao71 xqc_1.length co71 : Value).ownBlock) v260 t259) := ⟨h1_⟩
         have n2_ : Aside0 (Kd.R k64 64 w76 w.heap.size (fun k_ => some k_ ≠ (v256 : Value).ownBlock) (.slice Ao70 xqa_1.length co70) xqa_1) := ⟨h2_⟩
         have n3_ : Aside0 (Kd.R (Kd.int .i64) 3 w76 w.heap.size (fun k_ => some k_ ≠ (v260 : Value).ownBlock) (.slice Ao71 xqc_1.length co71) xqc_1) := ⟨h3_⟩
         have n4_ : Aside0 (w76.heap[gb236]? = some (.cells #[.slice Ao70 xqa_1.length co70, .int .i64 xqb_1, .slice Ao71 xqc_1.length co71] 25 (0, 0))) := ⟨h4_⟩
         have n5_ : Aside0 (w76.heap[gb263]? = some (.cells #[.slice none 0 0, .int .i64 0, .slice none 0 0] 25 (0, 0))) := ⟨h5_⟩
         have n6_ : Aside0 (w.heap.size ≤ gb263) := ⟨h6_⟩
         have n7_ : Aside0 (w.heap.size ≤ gb263) := ⟨h7_⟩
         have n8_ : Aside0 (gb236 ≠ gb263) := ⟨h8_⟩
         have n9_ : Aside0 (gb263 ≠ gb236) := ⟨h9_⟩
         have n10_ : Aside0 (Below w.heap.size w w76) := ⟨h10_⟩
         clear HO_qa
         clear HO_qc
         clear BK236
         clear HB
         clear h0_ h1_ h2_ h3_ h4_ h5_ h6_ h7_ h8_ h9_ h10_
         have HO257 := n0_
         have HO261 := n1_
         have HO_qa := n2_
         have HO_qc := n3_
         have BK236 := n4_
         have BK263 := n5_
         have GW263 := n6_
         have GE263 := n7_
         have NB236_263 := n8_
         have NB263_236 := n9_
         have HB := n10_
         clear n0_ n1_ n2_ n3_ n4_ n5_ n6_ n7_ n8_ n9_ n10_
         have hHeld : w76.cell? ⟨gb236, 0, none⟩ = some (.slice Ao70 xqa_1.length co70) ∧ w76.cell? ⟨gb236, 1, none⟩ = some (.int .i64 xqb_1) ∧ w76.cell? ⟨gb236, 2, none⟩ = some (.slice Ao71 xqc_1.length co71) := hS_
         obtain ⟨Ao77, co77, eo77⟩ := yE HO257.out
         (first | subst eo77 | (injection eo77 with f1_ f2_ f3_; have f4_ := f1_.symm; have f5_ := f3_.symm; clear f1_ f2_ f3_; subst f4_; subst f5_))
         obtain ⟨Ao80, co80, eo80⟩ := yE HO261.out
         (first | subst eo80 | (injection eo80 with f1_ f2_ f3_; have f4_ := f1_.symm; have f5_ := f3_.symm; clear f1_ f2_ f3_; subst f4_; subst f5_))
         refine norm_ (a' := ?_) ?_ ?_
         rotate_left
         ·simp only [putAll, Act.put, zY, zZ, yA]
          rfl
         refine one_ (i := 7) (N := none) #[true, true, true, true, true, true, true, true, false] rfl rfl (one_of HT_.out (by kernel_rfl)) (by decide) (fun K hK => ?_)
         have hs78 : w76.cell? ⟨gb263, 0, none⟩ = some (.slice none 0 0) := (zQ BK263.out 0).trans rfl
         have hfs78 := zR BK263.out 0
         have hns78_0 := NB236_263.out
         have hms78_0 := NB263_236.out
         have hs79 : w76.cell? ⟨gb263, 1, none⟩ = some (.int .i64 0) := (zQ BK263.out 1).trans rfl
         have hfs79 := zR BK263.out 1
         have hns79_0 := NB236_263.out
         have hms79_0 := NB263_236.out
         have hs81 : w76.cell? ⟨gb263, 2, none⟩ = some (.slice none 0 0) := (zQ BK263.out 2).trans rfl
         have hfs81 := zR BK263.out 2
         have hns81_0 := NB236_263.out
         have hms81_0 := NB263_236.out
         refine skip_ (w1 := ?_) (by rfl) rfl ?_ ?_
         rotate_left
         ·go_simp
          rfl
         refine hK.out _ _ ⟨((cell_far (p := ⟨gb263, _, none⟩) NB236_263.out _).trans (((cell_far (p := ⟨gb263, _, none⟩) NB236_263.out _).trans (((cell_far (p := ⟨gb263, _, none⟩) NB236_263.out _).trans (hHeld.1)))))), ((cell_far (p := ⟨gb263, _, none⟩) NB236_263.out _).trans (((cell_far (p := ⟨gb263, _, none⟩) NB236_263.out _).trans (((cell_far (p := ⟨gb263, _, none⟩) NB236_263.out _).trans (hHeld.2.1)))))), ((cell_far (p := ⟨gb263, _, none⟩) NB236_263.out _).trans (((cell_far (p := ⟨gb263, _, none⟩) NB236_263.out _).trans (((cell_far (p := ⟨gb263, _, none⟩) NB236_263.out _).trans (hHeld.2.2))))))⟩ (fun hHeld => ?_)
         clear hK K
         refine pure_ (i := 8) (N := some 12) (v := ?_) (a' := ?_) #[true, true, true, true, true, true, true, true, true] rfl rfl (any_of HT_.out (by kernel_rfl)) (fun _ _ _ h => h) (Or.inl ⟨by rfl, ?_⟩) ?_ ?_
         rotate_left
         ·intro w'
          go_simp
          with_reducible rfl
         rotate_left
         ·simp only [Act.put, zY, zZ, yA, i64_w, i32_w]
          rfl
         refine done_ (done_of HT_.out (by kernel_rfl)) ?_
         try go_wp2_with (first | ((with_reducible refine gate_callee (f := 18) rfl ?_); refine goesL_ (some 70) rfl rfl Try.func18 (by kernel_rfl) rfl #[] rfl zt ?_; (with_reducible refine (tollbarlaw17_awake.calls  true _ A65.out).mono ?_); rintro e w82 ⟨rfl, hb⟩; refine ⟨_, rfl, ?_⟩; have n0_ := zK (zO (by (with_reducible repeat (first | apply zA | apply zB | apply zC)); exact (Kd.R_mono (Kd.R_far (p := ⟨gb263, 2, none⟩) (Kd.R_far (p := ⟨gb263, 1, none⟩) (Kd.R_far (p := ⟨gb263, 0, none⟩) (Kd.R_types HO_qa.out BK263.out (by decide)) (fun _ hk => hk.2) (.slice Ao77 t255.length co77)) (fun _ hk => hk.2) (.int .i64 t258)) (fun _ hk => hk.2) (.slice Ao80 t259.length co80)) (fun _ h_ => h_.1))) hb); have n1_ := zK (zO (by (with_reducible repeat (first | apply zA | apply zB | apply zC)); exact (Kd.R_mono (Kd.R_far (p := ⟨gb263, 2, none⟩) (Kd.R_far (p := ⟨gb263, 1, none⟩) (Kd.R_far (p := ⟨gb263, 0, none⟩) (Kd.R_types HO_qc.out BK263.out (by decide)) (fun _ hk => hk.2) (.slice Ao77 t255.length co77)) (fun _ hk => hk.2) (.int .i64 t258)) (fun _ hk => hk.2) (.slice Ao80 t259.length co80)) (fun _ h_ => h_.1))) hb); have n2_ := zK (zO (by (with_reducible repeat (first | apply zA | apply zB | apply zC)); exact (Kd.R_mono (Kd.R_far (p := ⟨gb263, 2, none⟩) (Kd.R_far (p := ⟨gb263, 1, none⟩) (Kd.R_far (p := ⟨gb263, 0, none⟩) (Kd.R_types HO257.out BK263.out (by decide)) (fun _ hk => hk.2) (.slice Ao77 t255.length co77)) (fun _ hk => hk.2) (.int .i64 t258)) (fun _ hk => hk.2) (.slice Ao80 t259.length co80)) (fun _ h_ => h_.1))) hb); have n3_ := zK (zO (by (with_reducible repeat (first | apply zA | apply zB | apply zC)); exact (Kd.R_mono (Kd.R_far (p := ⟨gb263, 2, none⟩) (Kd.R_far (p := ⟨gb263, 1, none⟩) (Kd.R_far (p := ⟨gb263, 0, none⟩) (Kd.R_types HO261.out BK263.out (by decide)) (fun _ hk => hk.2) (.slice Ao77 t255.length co77)) (fun _ hk => hk.2) (.int .i64 t258)) (fun _ hk => hk.2) (.slice Ao80 t259.length co80)) (fun _ h_ => h_.1))) hb); have n4_ := zK (zP (g := gb236) (o := .cells #[.slice Ao70 xqa_1.length co70, .int .i64 xqb_1, .slice Ao71 xqc_1.length co71] 25 (0, 0)) (by (with_reducible repeat (first | refine zD ?_ _ | refine zE ?_ | refine zF ?_ _)); refine blk_far ?_ NB236_263.out _; (with_reducible repeat (first | refine zD ?_ _ | refine zE ?_ | refine zF ?_ _)); refine blk_far ?_ NB236_263.out _; (with_reducible repeat (first | refine zD ?_ _ | refine zE ?_ | refine zF ?_ _)); refine blk_far ?_ NB236_263.out _; (with_reducible repeat (first | refine zD ?_ _ | refine zE ?_ | refine zF ?_ _)); exact BK236.out) hb); have n5_ := zK (zP (g := gb263) (o := .cells #[.slice Ao77 t255.length co77, .int .i64 t258, .slice Ao80 t259.length co80] 25 (0, 0)) (by (with_reducible repeat (first | refine zD ?_ _ | refine zE ?_ | refine zF ?_ _)); refine blk_put (cs := #[.slice Ao77 t255.length co77, .int .i64 t258, .slice none 0 0]) ?_ 2 _ rfl; (with_reducible repeat (first | refine zD ?_ _ | refine zE ?_ | refine zF ?_ _)); refine blk_put (cs := #[.slice Ao77 t255.length co77, .int .i64 0, .slice none 0 0]) ?_ 1 _ rfl; (with_reducible repeat (first | refine zD ?_ _ | refine zE ?_ | refine zF ?_ _)); refine blk_put (cs := #[.slice none 0 0, .int .i64 0, .slice none 0 0]) ?_ 0 _ rfl; (with_reducible repeat (first | refine zD ?_ _ | refine zE ?_ | refine zF ?_ _)); exact BK263.out) hb); have n6_ := zK (yF (zl HB.out) hb); clear HO_qa; clear HO_qc; clear HO257; clear HO261; clear BK236; clear BK263; clear HB; have HO_qa := n0_; have HO_qc := n1_; have HO257 := n2_; have HO261 := n3_; have BK236 := n4_; have BK263 := n5_; have HB := n6_; clear n0_ n1_ n2_ n3_ n4_ n5_ n6_; (try clear hb); (try clear hb2); (try clear hk); (try clear hi)) | (go_at_call 19; (with_reducible refine (tollbarlaw0_Num.calls t262 t265 _ A67.out).mono ?_); rintro e w' ⟨rfl, ⟨nd, rfl⟩⟩) | (go_at_call 19; (with_reducible refine (tollbarlaw0_Num.calls t262 t266 _ A69.out).mono ?_); rintro e w' ⟨rfl, ⟨nd, rfl⟩⟩))
         go_ret
         exact ⟨by first | rfl | (rw [Option.some.inj (A67.out.symm.trans A69.out)]; rfl) | (simp [errW_none, errW_some] <;> rfl) | (simp [*, errW_none, errW_some] <;> rfl), zl HB.out⟩
        ·rw [if_neg c68] at H
         have c68b0 : ((t265 == 1703) == ((Go.bits .and .i64 a0 31) == 31)) = false := by simpa using c68
         (try (have c68b1 : decide ((t265 == 1703) = ((Go.bits .and .i64 a0 31) == 31)) = false := by simpa using c68))
         (try (have c68b2 : ((t265 == 1703) == ((Go.bits .and .i64 a0 31) == 31)) = false := by simpa using c68))
         (try (have c68b3 : ¬ ((t265 == 1703) = ((Go.bits .and .i64 a0 31) == 31)) := by simpa using c68))
         clear c68
         obtain rfl := Option.some.inj H
         obtain ⟨Ao83, co83, eo83⟩ := yE HO_qa.out
         subst eo83
         obtain ⟨Ao84, co84, eo84⟩ := yE HO_qc.out
         subst eo84
         try go_wp2
         have n0_ := zK (zC HO_qa.out)
         have n1_ := zK (zC HO_qc.out)
         have n2_ := zK (zE BK236.out)
         have n3_ := zK (zI HB.out)
         clear HO_qa
         clear HO_qc
         clear BK236
         clear HB
         have HO_qa := n0_
         have HO_qc := n1_
         have BK236 := n2_
         have HB := n3_
         clear n0_ n1_ n2_ n3_
         refine start_ (n := 9) (S := fun w' => w'.cell? ⟨gb236, 0, none⟩ = some (.slice Ao83 xqa_1.length co83) ∧ w'.cell? ⟨gb236, 1, none⟩ = some (.int .i64 xqb_1) ∧ w'.cell? ⟨gb236, 2, none⟩ = some (.slice Ao84 xqc_1.length co84)) (ds := []) #[false, false, false, false, false, false, false, false, false] (by kernel_rfl) rfl rfl ⟨(zQ BK236.out 0).trans rfl, (zQ BK236.out 1).trans rfl, (zQ BK236.out 2).trans rfl⟩ (fun hHeld => ?_); refine with_tabW tollbarlaw17_TreeHigh.tab15 tollbarlaw17_TreeHigh.bits15 (fun HT_ HW_ => ?_)
         generalize wc.drew = w85 at HO_qa HO_qc BK236 HB hHeld ⊢
         refine take_ (i := 0) (N := some 65) (v := ?_) (a' := ?_) #[true, false, false, false, false, false, false, false, false] rfl rfl (take_ofW HT_.out HW_.out (by kernel_rfl)) (fun _ _ _ h => h) (Or.inl ⟨by rfl, ?_⟩) hHeld ?_ ?_
         rotate_left
         ·rintro w' ⟨s0, s1, s2⟩
          go_simp
          with_reducible rfl
         rotate_left
         ·simp only [Act.put, zY, zZ, yA, i64_w, i32_w]
          rfl
         refine join_ (σ := Value × Value × Nat) 2 #[true, true, true, true, true, true, true, false, false] (fun s_ => [(66, .agg #[.int .i64 t252, .int .i64 t253, .int .i64 t254]), (67, .tuple #[.agg #[s_.1, .int .i64 t258, s_.2.1], .int .i64 t262]), (11, .pointer (some ⟨s_.2.2, 0, none⟩)), (64, .tuple #[.agg #[s_.1, .int .i64 t258, s_.2.1], .int .i64 t262]), (68, .agg #[s_.1, .int .i64 t258, s_.2.1]), (69, .int .i64 t262)]) (fun s_ w' => (w'.cell? ⟨gb236, 0, none⟩ = some (.slice Ao83 xqa_1.length co83) ∧ w'.cell? ⟨gb236, 1, none⟩ = some (.int .i64 xqb_1) ∧ w'.cell? ⟨gb236, 2, none⟩ = some (.slice Ao84 xqc_1.length co84)) ∧ (Kd.R k64 64 w' w.heap.size (fun k_ => some k_ ≠ (.slice Ao83 xqa_1.length co83 : Value).ownBlock) s_.1 t255) ∧ (Kd.R (Kd.int .i64) 3 w' w.heap.size (fun k_ => some k_ ≠ (.slice Ao84 xqc_1.length co84 : Value).ownBlock) s_.2.1 t259) ∧ (Kd.R k64 64 w' w.heap.size (fun k_ => some k_ ≠ (s_.1 : Value).ownBlock) (.slice Ao83 xqa_1.length co83) xqa_1) ∧ (Kd.R (Kd.int .i64) 3 w' w.heap.size (fun k_ => some k_ ≠ (s_.2.1 : Value).ownBlock) (.slice Ao84 xqc_1.length co84) xqc_1) ∧ (w'.heap[gb236]? = some (.cells #[.slice Ao83 xqa_1.length co83, .int .i64 xqb_1, .slice Ao84 xqc_1.length co84] 25 (0, 0))) ∧ (w'.heap[s_.2.2]? = some (.cells #[.slice none 0 0, .int .i64 0, .slice none 0 0] 25 (0, 0))) ∧ (w.heap.size ≤ s_.2.2) ∧ (w.heap.size ≤ s_.2.2) ∧ (gb236 ≠ s_.2.2) ∧ (s_.2.2 ≠ gb236) ∧ (Below w.heap.size w w')) ?_ ?_
         rotate_left
         ·intro hCont
          refine two_ (i := 1) (j := 6) (Ni := some 66) (Nj := some 11) #[true, true, false, false, false, false, false, false, false] #[true, false, false, false, false, false, true, false, false] rfl rfl rfl rfl (two_of HT_.out (by kernel_rfl)) (by decide) (by decide) (fun K hK => ?_) (fun K hK => ?_)
          ·skip
           refine goes_ Try.func35 (by kernel_rfl) rfl #[.int .i64 200, .int .i64 201, .int .i64 0] (by rfl) rfl rfl zt ?_
           with_reducible refine (tollbarlaw17_item.calls 200 201 0 t252 t253 t254 _ A63.out).mono ?_
           rintro e w86 ⟨rfl, hb⟩
           refine ⟨_, rfl, ?_⟩
           have n0_ := zK (zO (zr HO_qa.out) hb)
           have n1_ := zK (zO (zr HO_qc.out) hb)
           have n2_ := zK (zP (g := gb236) (o := .cells #[.slice Ao83 xqa_1.length co83, .int .i64 xqb_1, .slice Ao84 xqc_1.length co84] 25 (0, 0)) (zb BK236.out) hb)
           have n3_ := zK (yF (zl HB.out) hb)
           clear HO_qa
           clear HO_qc
           clear BK236
           clear HB
           have HO_qa := n0_
           have HO_qc := n1_
           have BK236 := n2_
           have HB := n3_
           clear n0_ n1_ n2_ n3_
           (try clear hb)
           (try clear hb2)
           (try clear hk)
           (try clear hi)
           refine hK.out _ _ ⟨(zQ BK236.out 0).trans rfl, (zQ BK236.out 1).trans rfl, (zQ BK236.out 2).trans rfl⟩ (fun hHeld => ?_)
           clear hK K
           refine norm_ (a' := ?_) ?_ ?_
           rotate_left
           ·show Act.put _ (some 66) _ = _
            simp only [Act.put, zY, zZ, yA, i64_w, i32_w]
            rfl
           refine two_ (i := 2) (j := 6) (Ni := some 67) (Nj := some 11) #[true, true, true, false, false, false, false, false, false] #[true, true, false, false, false, false, true, false, false] rfl rfl rfl rfl (two_of HT_.out (by kernel_rfl)) (by decide) (by decide) (fun K hK => ?_) (fun K hK => ?_)
           ·skip
            refine goes_ Try.func26 (by kernel_rfl) rfl #[.agg #[.slice Ao83 xqa_1.length co83, .int .i64 xqb_1, .slice Ao84 xqc_1.length co84], .agg #[.int .i64 t252, .int .i64 t253, .int .i64 t254]] (by rfl) rfl rfl zt ?_
            with_reducible refine (tree_Insert.calls _ _ xqa_1 xqb_1 _ _ xqc_1 t252 t253 t254 t255 t258 t259 t262 _ ?side1 ?side2 ?side3 ?side4 A64.out).mono ?_
            (case side1 => exact zc (zX HO_qa.out).2.2)
            (case side2 => exact (zX HO_qa.out).2.1)
            (case side3 => exact zc (zX HO_qc.out).2.2)
            (case side4 => exact (zX HO_qc.out).2.1)
            rintro e w87 ⟨v256, v260, rfl, ho0, ho1, hb⟩
            refine ⟨_, rfl, ?_⟩
            have n0_ := zK (yC (zr HO_qa.out) (Kd.R_base ho0) hb)
            have n1_ := zK (yC (zr HO_qc.out) (Kd.R_base ho1) hb)
            have n2_ := zK (zV (zW ho0 (yB (zr HO_qa.out))) (yG (zl HB.out)))
            have n3_ := zK (zV (zW ho1 (yB (zr HO_qc.out))) (yG (zl HB.out)))
            have n4_ := zK (zP (g := gb236) (o := .cells #[.slice Ao83 xqa_1.length co83, .int .i64 xqb_1, .slice Ao84 xqc_1.length co84] 25 (0, 0)) (zb BK236.out) hb)
            have n5_ := zK (yF (zl HB.out) hb)
            clear HO_qa
            clear HO_qc
            clear BK236
            clear HB
            have HO_qa := n0_
            have HO_qc := n1_
            have HO257 := n2_
            have HO261 := n3_
            have BK236 := n4_
            have HB := n5_
            clear n0_ n1_ n2_ n3_ n4_ n5_
            (try clear hb)
            (try clear hb2)
            (try clear hk)
            (try clear hi)
            (try clear ho0)
            (try clear ho1)
            refine hK.out _ _ ⟨(zQ BK236.out 0).trans rfl, (zQ BK236.out 1).trans rfl, (zQ BK236.out 2).trans rfl⟩ (fun hHeld => ?_)
            clear hK K
            refine norm_ (a' := ?_) ?_ ?_
            rotate_left
            ·show Act.put _ (some 67) _ = _
             simp only [Act.put, zY, zZ, yA, i64_w, i32_w]
             rfl
            refine pure_ (i := 3) (N := some 64) (v := ?_) (a' := ?_) #[true, true, true, true, false, false, false, false, false] rfl rfl (any_of HT_.out (by kernel_rfl)) (fun _ _ _ h => h) (Or.inl ⟨by rfl, ?_⟩) ?_ ?_
            rotate_left
            ·intro w'
             go_simp
             with_reducible rfl
            rotate_left
            ·simp only [Act.put, zY, zZ, yA, i64_w, i32_w]
             rfl
            refine pure_ (i := 4) (N := some 68) (v := ?_) (a' := ?_) #[true, true, true, true, true, false, false, false, false] rfl rfl (any_of HT_.out (by kernel_rfl)) (fun _ _ _ h => h) (Or.inl ⟨by rfl, ?_⟩) ?_ ?_
            rotate_left
            ·intro w'
             go_simp
             with_reducible rfl
            rotate_left
            ·simp only [Act.put, zY, zZ, yA, i64_w, i32_w]
             rfl
            refine pure_ (i := 5) (N := some 69) (v := ?_) (a' := ?_) #[true, true, true, true, true, true, false, false, false] rfl rfl (any_of HT_.out (by kernel_rfl)) (fun _ _ _ h => h) (Or.inl ⟨by rfl, ?_⟩) ?_ ?_
            rotate_left
            ·intro w'
             go_simp
             with_reducible rfl
            rotate_left
            ·simp only [Act.put, zY, zZ, yA, i64_w, i32_w]
             rfl
            refine one_ (i := 6) (N := some 11) #[true, true, true, true, true, true, true, false, false] rfl rfl (one_of HT_.out (by kernel_rfl)) (by decide) (fun K hK => ?_)
            refine box_step ?hg (N := 11) ?hd (cs := #[.slice none 0 0, .int .i64 0, .slice none 0 0]) (t := 25) ?hr ?_; (case hd => rfl); (case hg => rfl); (case hr => first | (go_simp; done) | (go_simp; rfl))
            intro gb263 hg w88 hbox hb
            have n0_ := zK (zO (zr HO_qa.out) hb)
            have n1_ := zK (zO (zr HO_qc.out) hb)
            have n2_ := zK (zO (zr HO257.out) hb)
            have n3_ := zK (zO (zr HO261.out) hb)
            have n4_ := zK (zP (g := gb236) (o := .cells #[.slice Ao83 xqa_1.length co83, .int .i64 xqb_1, .slice Ao84 xqc_1.length co84] 25 (0, 0)) (zb BK236.out) hb)
            have n5_ := zK (yF (zl HB.out) hb)
            have n6_ := zK (hbox)
            have n7_ := zK ((by rw [hg]; exact (yG (zl HB.out)) : w.heap.size ≤ gb263))
            have n8_ := zK ((by rw [hg]; exact (yG (zl HB.out)) : w.heap.size ≤ gb263))
            have n9_ := zK ((by rw [hg]; exact zN (blk_lt (g := gb236) (o := .cells #[.slice Ao83 xqa_1.length co83, .int .i64 xqb_1, .slice Ao84 xqc_1.length co84] 25 (0, 0)) (zb BK236.out)) : gb236 ≠ gb263))
            have n10_ := zK ((by rw [hg]; exact Nat.ne_of_gt (blk_lt (g := gb236) (o := .cells #[.slice Ao83 xqa_1.length co83, .int .i64 xqb_1, .slice Ao84 xqc_1.length co84] 25 (0, 0)) (zb BK236.out)) : gb263 ≠ gb236))
            clear HO_qa
            clear HO_qc
            clear HO257
            clear HO261
            clear BK236
            clear HB
            have HO_qa := n0_
            have HO_qc := n1_
            have HO257 := n2_
            have HO261 := n3_
            have BK236 := n4_
            have HB := n5_
            have BK263 := n6_
            have GW263 := n7_
            have GE263 := n8_
            have NB236_263 := n9_
            have NB263_236 := n10_
            clear n0_ n1_ n2_ n3_ n4_ n5_ n6_ n7_ n8_ n9_ n10_
            clear hb hbox hg
            refine hK.out _ _ ⟨(zQ BK236.out 0).trans rfl, (zQ BK236.out 1).trans rfl, (zQ BK236.out 2).trans rfl⟩ (fun hHeld => ?_)
            clear hK K
            refine norm_ (a' := ?_) ?_ ?_
            rotate_left
            ·show Act.put _ (some 11) _ = _
             simp only [Act.put, zY, zZ, yA, i64_w, i32_w]
             rfl
            exact norm_ (by simp only [putAll, Act.put, zY, zZ, yA]) (hCont (v256, v260, gb263) _ ⟨hHeld, (by (with_reducible repeat (first | apply zA | apply zB | apply zC)); exact Kd.R_mono HO257.out (fun _ hk => hk.2)), (by (with_reducible repeat (first | apply zA | apply zB | apply zC)); exact Kd.R_mono HO261.out (fun _ hk => hk.2)), (by (with_reducible repeat (first | apply zA | apply zB | apply zC)); exact Kd.R_mono HO_qa.out (fun _ hk => hk.2)), (by (with_reducible repeat (first | apply zA | apply zB | apply zC)); exact Kd.R_mono HO_qc.out (fun _ hk => hk.2)), (zb BK236.out), (zb BK263.out), GW263.out, GE263.out, NB236_263.out, NB263_236.out, (zl HB.out)⟩)
           ·skip
            refine box_step ?hg (N := 11) ?hd (cs := #[.slice none 0 0, .int .i64 0, .slice none 0 0]) (t := 25) ?hr ?_; (case hd => rfl); (case hg => rfl); (case hr => first | (go_simp; done) | (go_simp; rfl))
            intro gb263 hg w87 hbox hb
            have n0_ := zK (zO (zr HO_qa.out) hb)
            have n1_ := zK (zO (zr HO_qc.out) hb)
            have n2_ := zK (zP (g := gb236) (o := .cells #[.slice Ao83 xqa_1.length co83, .int .i64 xqb_1, .slice Ao84 xqc_1.length co84] 25 (0, 0)) (zb BK236.out) hb)
            have n3_ := zK (yF (zl HB.out) hb)
            have n4_ := zK (hbox)
            have n5_ := zK ((by rw [hg]; exact (yG (zl HB.out)) : w.heap.size ≤ gb263))
            have n6_ := zK ((by rw [hg]; exact (yG (zl HB.out)) : w.heap.size ≤ gb263))
            have n7_ := zK ((by rw [hg]; exact zN (blk_lt (g := gb236) (o := .cells #[.slice Ao83 xqa_1.length co83, .int .i64 xqb_1, .slice Ao84 xqc_1.length co84] 25 (0, 0)) (zb BK236.out)) : gb236 ≠ gb263))
            have n8_ := zK ((by rw [hg]; exact Nat.ne_of_gt (blk_lt (g := gb236) (o := .cells #[.slice Ao83 xqa_1.length co83, .int .i64 xqb_1, .slice Ao84 xqc_1.length co84] 25 (0, 0)) (zb BK236.out)) : gb263 ≠ gb236))
            clear HO_qa
            clear HO_qc
            clear BK236
            clear HB
            have HO_qa := n0_
            have HO_qc := n1_
            have BK236 := n2_
            have HB := n3_
            have BK263 := n4_
            have GW263 := n5_
            have GE263 := n6_
            have NB236_263 := n7_
            have NB263_236 := n8_
            clear n0_ n1_ n2_ n3_ n4_ n5_ n6_ n7_ n8_
            clear hb hbox hg
            refine hK.out _ _ ⟨(zQ BK236.out 0).trans rfl, (zQ BK236.out 1).trans rfl, (zQ BK236.out 2).trans rfl⟩ (fun hHeld => ?_)
            clear hK K
            refine norm_ (a' := ?_) ?_ ?_
            rotate_left
            ·show Act.put _ (some 11) _ = _
             simp only [Act.put, zY, zZ, yA, i64_w, i32_w]
             rfl
            refine one_ (i := 2) (N := some 67) #[true, true, true, false, false, false, true, false, false] rfl rfl (one_of HT_.out (by kernel_rfl)) (by decide) (fun K hK => ?_)
            refine goes_ Try.func26 (by kernel_rfl) rfl #[.agg #[.slice Ao83 xqa_1.length co83, .int .i64 xqb_1, .slice Ao84 xqc_1.length co84], .agg #[.int .i64 t252, .int .i64 t253, .int .i64 t254]] (by rfl) rfl rfl zt ?_
            with_reducible refine (tree_Insert.calls _ _ xqa_1 xqb_1 _ _ xqc_1 t252 t253 t254 t255 t258 t259 t262 _ ?side1 ?side2 ?side3 ?side4 A64.out).mono ?_
            (case side1 => exact zc (zX HO_qa.out).2.2)
            (case side2 => exact (zX HO_qa.out).2.1)
            (case side3 => exact zc (zX HO_qc.out).2.2)
            (case side4 => exact (zX HO_qc.out).2.1)
            rintro e w88 ⟨v256, v260, rfl, ho0, ho1, hb⟩
            refine ⟨_, rfl, ?_⟩
            have n0_ := zK (yC (zr HO_qa.out) (Kd.R_base ho0) hb)
            have n1_ := zK (yC (zr HO_qc.out) (Kd.R_base ho1) hb)
            have n2_ := zK (zV (zW ho0 (yB (zr HO_qa.out))) (yG (zl HB.out)))
            have n3_ := zK (zV (zW ho1 (yB (zr HO_qc.out))) (yG (zl HB.out)))
            have n4_ := zK (zP (g := gb236) (o := .cells #[.slice Ao83 xqa_1.length co83, .int .i64 xqb_1, .slice Ao84 xqc_1.length co84] 25 (0, 0)) (zb BK236.out) hb)
            have n5_ := zK (zP (g := gb263) (o := .cells #[.slice none 0 0, .int .i64 0, .slice none 0 0] 25 (0, 0)) (zb BK263.out) hb)
            have n6_ := zK (yF (zl HB.out) hb)
            clear HO_qa
            clear HO_qc
            clear BK236
            clear BK263
            clear HB
            have HO_qa := n0_
            have HO_qc := n1_
            have HO257 := n2_
            have HO261 := n3_
            have BK236 := n4_
            have BK263 := n5_
            have HB := n6_
            clear n0_ n1_ n2_ n3_ n4_ n5_ n6_
            (try clear hb)
            (try clear hb2)
            (try clear hk)
            (try clear hi)
            (try clear ho0)
            (try clear ho1)
            refine hK.out _ _ ⟨(zQ BK236.out 0).trans rfl, (zQ BK236.out 1).trans rfl, (zQ BK236.out 2).trans rfl⟩ (fun hHeld => ?_)
            clear hK K
            refine norm_ (a' := ?_) ?_ ?_
            rotate_left
            ·show Act.put _ (some 67) _ = _
             simp only [Act.put, zY, zZ, yA, i64_w, i32_w]
             rfl
            refine pure_ (i := 3) (N := some 64) (v := ?_) (a' := ?_) #[true, true, true, true, false, false, true, false, false] rfl rfl (any_of HT_.out (by kernel_rfl)) (fun _ _ _ h => h) (Or.inl ⟨by rfl, ?_⟩) ?_ ?_
            rotate_left
            ·intro w'
             go_simp
             with_reducible rfl
            rotate_left
            ·simp only [Act.put, zY, zZ, yA, i64_w, i32_w]
             rfl
            refine pure_ (i := 4) (N := some 68) (v := ?_) (a' := ?_) #[true, true, true, true, true, false, true, false, false] rfl rfl (any_of HT_.out (by kernel_rfl)) (fun _ _ _ h => h) (Or.inl ⟨by rfl, ?_⟩) ?_ ?_
            rotate_left
            ·intro w'
             go_simp
             with_reducible rfl
            rotate_left
            ·simp only [Act.put, zY, zZ, yA, i64_w, i32_w]
             rfl
            refine pure_ (i := 5) (N := some 69) (v := ?_) (a' := ?_) #[true, true, true, true, true, true, true, false, false] rfl rfl (any_of HT_.out (by kernel_rfl)) (fun _ _ _ h => h) (Or.inl ⟨by rfl, ?_⟩) ?_ ?_
            rotate_left
            ·intro w'
             go_simp
             with_reducible rfl
            rotate_left
            ·simp only [Act.put, zY, zZ, yA, i64_w, i32_w]
             rfl
            exact norm_ (by simp only [putAll, Act.put, zY, zZ, yA]) (hCont (v256, v260, gb263) _ ⟨hHeld, (by (with_reducible repeat (first | apply zA | apply zB | apply zC)); exact Kd.R_mono HO257.out (fun _ hk => hk.2)), (by (with_reducible repeat (first | apply zA | apply zB | apply zC)); exact Kd.R_mono HO261.out (fun _ hk => hk.2)), (by (with_reducible repeat (first | apply zA | apply zB | apply zC)); exact Kd.R_mono HO_qa.out (fun _ hk => hk.2)), (by (with_reducible repeat (first | apply zA | apply zB | apply zC)); exact Kd.R_mono HO_qc.out (fun _ hk => hk.2)), (zb BK236.out), (zb BK263.out), GW263.out, GE263.out, NB236_263.out, NB263_236.out, (zl HB.out)⟩)
          ·skip
           refine box_step ?hg (N := 11) ?hd (cs := #[.slice none 0 0, .int .i64 0, .slice none 0 0]) (t := 25) ?hr ?_; (case hd => rfl); (case hg => rfl); (case hr => first | (go_simp; done) | (go_simp; rfl))
           intro gb263 hg w86 hbox hb
           have n0_ := zK (zO (zr HO_qa.out) hb)
           have n1_ := zK (zO (zr HO_qc.out) hb)
           have n2_ := zK (zP (g := gb236) (o := .cells #[.slice Ao83 xqa_1.length co83, .int .i64 xqb_1, .slice Ao84 xqc_1.length co84] 25 (0, 0)) (zb BK236.out) hb)
           have n3_ := zK (yF (zl HB.out) hb)
           have n4_ := zK (hbox)
           have n5_ := zK ((by rw [hg]; exact (yG (zl HB.out)) : w.heap.size ≤ gb263))
           have n6_ := zK ((by rw [hg]; exact (yG (zl HB.out)) : w.heap.size ≤ gb263))
           have n7_ := zK ((by rw [hg]; exact zN (blk_lt (g := gb236) (o := .cells #[.slice Ao83 xqa_1.length co83, .int .i64 xqb_1, .slice Ao84 xqc_1.length co84] 25 (0, 0)) (zb BK236.out)) : gb236 ≠ gb263))
           have n8_ := zK ((by rw [hg]; exact Nat.ne_of_gt (blk_lt (g := gb236) (o := .cells #[.slice Ao83 xqa_1.length co83, .int .i64 xqb_1, .slice Ao84 xqc_1.length co84] 25 (0, 0)) (zb BK236.out)) : gb263 ≠ gb236))
           clear HO_qa
           clear HO_qc
           clear BK236
           clear HB
           have HO_qa := n0_
           have HO_qc := n1_
           have BK236 := n2_
           have HB := n3_
           have BK263 := n4_
           have GW263 := n5_
           have GE263 := n6_
           have NB236_263 := n7_
           have NB263_236 := n8_
           clear n0_ n1_ n2_ n3_ n4_ n5_ n6_ n7_ n8_
           clear hb hbox hg
           refine hK.out _ _ ⟨(zQ BK236.out 0).trans rfl, (zQ BK236.out 1).trans rfl, (zQ BK236.out 2).trans rfl⟩ (fun hHeld => ?_)
           clear hK K
           refine norm_ (a' := ?_) ?_ ?_
           rotate_left
           ·show Act.put _ (some 11) _ = _
            simp only [Act.put, zY, zZ, yA, i64_w, i32_w]
            rfl
           refine one_ (i := 1) (N := some 66) #[true, true, false, false, false, false, true, false, false] rfl rfl (one_of HT_.out (by kernel_rfl)) (by decide) (fun K hK => ?_)
           refine goes_ Try.func35 (by kernel_rfl) rfl #[.int .i64 200, .int .i64 201, .int .i64 0] (by rfl) rfl rfl zt ?_
           with_reducible refine (tollbarlaw17_item.calls 200 201 0 t252 t253 t254 _ A63.out).mono ?_
           rintro e w87 ⟨rfl, hb⟩
           refine ⟨_, rfl, ?_⟩
           have n0_ := zK (zO (zr HO_qa.out) hb)
           have n1_ := zK (zO (zr HO_qc.out) hb)
           have n2_ := zK (zP (g := gb236) (o := .cells #[.slice Ao83 xqa_1.length co83, .int .i64 xqb_1, .slice Ao84 xqc_1.length co84] 25 (0, 0)) (zb BK236.out) hb)
           have n3_ := zK (zP (g := gb263) (o := .cells #[.slice none 0 0, .int .i64 0, .slice none 0 0] 25 (0, 0)) (zb BK263.out) hb)
           have n4_ := zK (yF (zl HB.out) hb)
           clear HO_qa
           clear HO_qc
           clear BK236
           clear BK263
           clear HB
           have HO_qa := n0_
           have HO_qc := n1_
           have BK236 := n2_
           have BK263 := n3_
           have HB := n4_
           clear n0_ n1_ n2_ n3_ n4_
           (try clear hb)
           (try clear hb2)
           (try clear hk)
           (try clear hi)
           refine hK.out _ _ ⟨(zQ BK236.out 0).trans rfl, (zQ BK236.out 1).trans rfl, (zQ BK236.out 2).trans rfl⟩ (fun hHeld => ?_)
           clear hK K
           refine norm_ (a' := ?_) ?_ ?_
           rotate_left
           ·show Act.put _ (some 66) _ = _
            simp only [Act.put, zY, zZ, yA, i64_w, i32_w]
            rfl
           refine one_ (i := 2) (N := some 67) #[true, true, true, false, false, false, true, false, false] rfl rfl (one_of HT_.out (by kernel_rfl)) (by decide) (fun K hK => ?_)
           refine goes_ Try.func26 (by kernel_rfl) rfl #[.agg #[.slice Ao83 xqa_1.length co83, .int .i64 xqb_1, .slice Ao84 xqc_1.length co84], .agg #[.int .i64 t252, .int .i64 t253, .int .i64 t254]] (by rfl) rfl rfl zt ?_
           with_reducible refine (tree_Insert.calls _ _ xqa_1 xqb_1 _ _ xqc_1 t252 t253 t254 t255 t258 t259 t262 _ ?side1 ?side2 ?side3 ?side4 A64.out).mono ?_
           (case side1 => exact zc (zX HO_qa.out).2.2)
           (case side2 => exact (zX HO_qa.out).2.1)
           (case side3 => exact zc (zX HO_qc.out).2.2)
           (case side4 => exact (zX HO_qc.out).2.1)
           rintro e w88 ⟨v256, v260, rfl, ho0, ho1, hb⟩
           refine ⟨_, rfl, ?_⟩
           have n0_ := zK (yC (zr HO_qa.out) (Kd.R_base ho0) hb)
           have n1_ := zK (yC (zr HO_qc.out) (Kd.R_base ho1) hb)
           have n2_ := zK (zV (zW ho0 (yB (zr HO_qa.out))) (yG (zl HB.out)))
           have n3_ := zK (zV (zW ho1 (yB (zr HO_qc.out))) (yG (zl HB.out)))
           have n4_ := zK (zP (g := gb236) (o := .cells #[.slice Ao83 xqa_1.length co83, .int .i64 xqb_1, .slice Ao84 xqc_1.length co84] 25 (0, 0)) (zb BK236.out) hb)
           have n5_ := zK (zP (g := gb263) (o := .cells #[.slice none 0 0, .int .i64 0, .slice none 0 0] 25 (0, 0)) (zb BK263.out) hb)
           have n6_ := zK (yF (zl HB.out) hb)
           clear HO_qa
           clear HO_qc
           clear BK236
           clear BK263
           clear HB
           have HO_qa := n0_
           have HO_qc := n1_
           have HO257 := n2_
           have HO261 := n3_
           have BK236 := n4_
           have BK263 := n5_
           have HB := n6_
           clear n0_ n1_ n2_ n3_ n4_ n5_ n6_
           (try clear hb)
           (try clear hb2)
           (try clear hk)
           (try clear hi)
           (try clear ho0)
           (try clear ho1)
           refine hK.out _ _ ⟨(zQ BK236.out 0).trans rfl, (zQ BK236.out 1).trans rfl, (zQ BK236.out 2).trans rfl⟩ (fun hHeld => ?_)
           clear hK K
           refine norm_ (a' := ?_) ?_ ?_
           rotate_left
           ·show Act.put _ (some 67) _ = _
            simp only [Act.put, zY, zZ, yA, i64_w, i32_w]
            rfl
           refine pure_ (i := 3) (N := some 64) (v := ?_) (a' := ?_) #[true, true, true, true, false, false, true, false, false] rfl rfl (any_of HT_.out (by kernel_rfl)) (fun _ _ _ h => h) (Or.inl ⟨by rfl, ?_⟩) ?_ ?_
           rotate_left
           ·intro w'
            go_simp
            with_reducible rfl
           rotate_left
           ·simp only [Act.put, zY, zZ, yA, i64_w, i32_w]
            rfl
           refine pure_ (i := 4) (N := some 68) (v := ?_) (a' := ?_) #[true, true, true, true, true, false, true, false, false] rfl rfl (any_of HT_.out (by kernel_rfl)) (fun _ _ _ h => h) (Or.inl ⟨by rfl, ?_⟩) ?_ ?_
           rotate_left
           ·intro w'
            go_simp
            with_reducible rfl
           rotate_left
           ·simp only [Act.put, zY, zZ, yA, i64_w, i32_w]
            rfl
           refine pure_ (i := 5) (N := some 69) (v := ?_) (a' := ?_) #[true, true, true, true, true, true, true, false, false] rfl rfl (any_of HT_.out (by kernel_rfl)) (fun _ _ _ h => h) (Or.inl ⟨by rfl, ?_⟩) ?_ ?_
           rotate_left
           ·intro w'
            go_simp
            with_reducible rfl
           rotate_left
           ·simp only [Act.put, zY, zZ, yA, i64_w, i32_w]
            rfl
           exact norm_ (by simp only [putAll, Act.put, zY, zZ, yA]) (hCont (v256, v260, gb263) _ ⟨hHeld, (by (with_reducible repeat (first | apply zA | apply zB | apply zC)); exact Kd.R_mono HO257.out (fun _ hk => hk.2)), (by (with_reducible repeat (first | apply zA | apply zB | apply zC)); exact Kd.R_mono HO261.out (fun _ hk => hk.2)), (by (with_reducible repeat (first | apply zA | apply zB | apply zC)); exact Kd.R_mono HO_qa.out (fun _ hk => hk.2)), (by (with_reducible repeat (first | apply zA | apply zB | apply zC)); exact Kd.R_mono HO_qc.out (fun _ hk => hk.2)), (zb BK236.out), (zb BK263.out), GW263.out, GE263.out, NB236_263.out, NB263_236.out, (zl HB.out)⟩)
         rintro ⟨v256, v260, gb263⟩ w89 ⟨hS_, h0_, h1_, h2_, h3_, h4_, h5_, h6_, h7_, h8_, h9_, h10_⟩
         have n0_ : Aside0 (Kd.R k64 64 w89 w.heap.size (fun k_ => some k_ ≠ (.slice Ao83 xqa_1.length co83 : Value).ownBlock) v256 t255) := ⟨h0_⟩
         have n1_ : Aside0 (Kd.R (Kd.int .i64) 3 w89 w.heap.size (fun k_ => some k_ ≠ (.slice Ao84 xqc_1.length co84 : Value).ownBlock) v260 t259) := ⟨h1_⟩
         have n2_ : Aside0 (Kd.R k64 64 w89 w.heap.size (fun k_ => some k_ ≠ (v256 : Value).ownBlock) (.slice Ao83 xqa_1.length co83) xqa_1) := ⟨h2_⟩
         have n3_ : Aside0 (Kd.R (Kd.int .i64) 3 w89 w.heap.size (fun k_ => some k_ ≠ (v260 : Value).ownBlock) (.slice Ao84 xqc_1.length co84) xqc_1) := ⟨h3_⟩
         have n4_ : Aside0 (w89.heap[gb236]? = some (.cells #[.slice Ao83 xqa_1.length co83, .int .i64 xqb_1, .slice Ao84 xqc_1.length co84] 25 (0, 0))) := ⟨h4_⟩
         have n5_ : Aside0 (w89.heap[gb263]? = some (.cells #[.slice none 0 0, .int .i64 0, .slice none 0 0] 25 (0, 0))) := ⟨h5_⟩
         have n6_ : Aside0 (w.heap.size ≤ gb263) := ⟨h6_⟩
         have n7_ : Aside0 (w.heap.size ≤ gb263) := ⟨h7_⟩
         have n8_ : Aside0 (gb236 ≠ gb263) := ⟨h8_⟩
         have n9_ : Aside0 (gb263 ≠ gb236) := ⟨h9_⟩
         have n10_ : Aside0 (Below w.heap.size w w89) := ⟨h10_⟩
         clear HO_qa
         clear HO_qc
         clear BK236
         clear HB
         clear h0_ h1_ h2_ h3_ h4_ h5_ h6_ h7_ h8_ h9_ h10_
         have HO257 := n0_
         have HO261 := n1_
         have HO_qa := n2_
         have HO_qc := n3_
         have BK236 := n4_
         have BK263 := n5_
         have GW263 := n6_
         have GE263 := n7_
         have NB236_263 := n8_
         have NB263_236 := n9_
         have HB := n10_
         clear n0_ n1_ n2_ n3_ n4_ n5_ n6_ n7_ n8_ n9_ n10_
         have hHeld : w89.cell? ⟨gb236, 0, none⟩ = some (.slice Ao83 xqa_1.length co83) ∧ w89.cell? ⟨gb236, 1, none⟩ = some (.int .i64 xqb_1) ∧ w89.cell? ⟨gb236, 2, none⟩ = some (.slice Ao84 xqc_1.length co84) := hS_
         obtain ⟨Ao90, co90, eo90⟩ := yE HO257.out
         (first | subst eo90 | (injection eo90 with f1_ f2_ f3_; have f4_ := f1_.symm; have f5_ := f3_.symm; clear f1_ f2_ f3_; subst f4_; subst f5_))
         obtain ⟨Ao93, co93, eo93⟩ := yE HO261.out
         (first | subst eo93 | (injection eo93 with f1_ f2_ f3_; have f4_ := f1_.symm; have f5_ := f3_.symm; clear f1_ f2_ f3_; subst f4_; subst f5_))
         refine norm_ (a' := ?_) ?_ ?_
         rotate_left
         ·simp only [putAll, Act.put, zY, zZ, yA]
          rfl
         refine one_ (i := 7) (N := none) #[true, true, true, true, true, true, true, true, false] rfl rfl (one_of HT_.out (by kernel_rfl)) (by decide) (fun K hK => ?_)
         have hs91 : w89.cell? ⟨gb263, 0, none⟩ = some (.slice none 0 0) := (zQ BK263.out 0).trans rfl
         have hfs91 := zR BK263.out 0
         have hns91_0 := NB236_263.out
         have hms91_0 := NB263_236.out
         have hs92 : w89.cell? ⟨gb263, 1, none⟩ = some (.int .i64 0) := (zQ BK263.out 1).trans rfl
         have hfs92 := zR BK263.out 1
         have hns92_0 := NB236_263.out
         have hms92_0 := NB263_236.out
         have hs94 : w89.cell? ⟨gb263, 2, none⟩ = some (.slice none 0 0) := (zQ BK263.out 2).trans rfl
         have hfs94 := zR BK263.out 2
         have hns94_0 := NB236_263.out
         have hms94_0 := NB263_236.out
         refine skip_ (w1 := ?_) (by rfl) rfl ?_ ?_
         rotate_left
         ·go_simp
          rfl
         refine hK.out _ _ ⟨((cell_far (p := ⟨gb263, _, none⟩) NB236_263.out _).trans (((cell_far (p := ⟨gb263, _, none⟩) NB236_263.out _).trans (((cell_far (p := ⟨gb263, _, none⟩) NB236_263.out _).trans (hHeld.1)))))), ((cell_far (p := ⟨gb263, _, none⟩) NB236_263.out _).trans (((cell_far (p := ⟨gb263, _, none⟩) NB236_263.out _).trans (((cell_far (p := ⟨gb263, _, none⟩) NB236_263.out _).trans (hHeld.2.1)))))), ((cell_far (p := ⟨gb263, _, none⟩) NB236_263.out _).trans (((cell_far (p := ⟨gb263, _, none⟩) NB236_263.out _).trans (((cell_far (p := ⟨gb263, _, none⟩) NB236_263.out _).trans (hHeld.2.2))))))⟩ (fun hHeld => ?_)
         clear hK K
         refine pure_ (i := 8) (N := some 12) (v := ?_) (a' := ?_) #[true, true, true, true, true, true, true, true, true] rfl rfl (any_of HT_.out (by kernel_rfl)) (fun _ _ _ h => h) (Or.inl ⟨by rfl, ?_⟩) ?_ ?_
         rotate_left
         ·intro w'
          go_simp
          with_reducible rfl
         rotate_left
         ·simp only [Act.put, zY, zZ, yA, i64_w, i32_w]
          rfl
         refine done_ (done_of HT_.out (by kernel_rfl)) ?_
         try go_wp2_with (first | ((with_reducible refine gate_callee (f := 18) rfl ?_); refine goesL_ (some 70) rfl rfl Try.func18 (by kernel_rfl) rfl #[] rfl zt ?_; (with_reducible refine (tollbarlaw17_awake.calls  true _ A65.out).mono ?_); rintro e w95 ⟨rfl, hb⟩; refine ⟨_, rfl, ?_⟩; have n0_ := zK (zO (by (with_reducible repeat (first | apply zA | apply zB | apply zC)); exact (Kd.R_mono (Kd.R_far (p := ⟨gb263, 2, none⟩) (Kd.R_far (p := ⟨gb263, 1, none⟩) (Kd.R_far (p := ⟨gb263, 0, none⟩) (Kd.R_types HO_qa.out BK263.out (by decide)) (fun _ hk => hk.2) (.slice Ao90 t255.length co90)) (fun _ hk => hk.2) (.int .i64 t258)) (fun _ hk => hk.2) (.slice Ao93 t259.length co93)) (fun _ h_ => h_.1))) hb); have n1_ := zK (zO (by (with_reducible repeat (first | apply zA | apply zB | apply zC)); exact (Kd.R_mono (Kd.R_far (p := ⟨gb263, 2, none⟩) (Kd.R_far (p := ⟨gb263, 1, none⟩) (Kd.R_far (p := ⟨gb263, 0, none⟩) (Kd.R_types HO_qc.out BK263.out (by decide)) (fun _ hk => hk.2) (.slice Ao90 t255.length co90)) (fun _ hk => hk.2) (.int .i64 t258)) (fun _ hk => hk.2) (.slice Ao93 t259.length co93)) (fun _ h_ => h_.1))) hb); have n2_ := zK (zO (by (with_reducible repeat (first | apply zA | apply zB | apply zC)); exact (Kd.R_mono (Kd.R_far (p := ⟨gb263, 2, none⟩) (Kd.R_far (p := ⟨gb263, 1, none⟩) (Kd.R_far (p := ⟨gb263, 0, none⟩) (Kd.R_types HO257.out BK263.out (by decide)) (fun _ hk => hk.2) (.slice Ao90 t255.length co90)) (fun _ hk => hk.2) (.int .i64 t258)) (fun _ hk => hk.2) (.slice Ao93 t259.length co93)) (fun _ h_ => h_.1))) hb); have n3_ := zK (zO (by (with_reducible repeat (first | apply zA | apply zB | apply zC)); exact (Kd.R_mono (Kd.R_far (p := ⟨gb263, 2, none⟩) (Kd.R_far (p := ⟨gb263, 1, none⟩) (Kd.R_far (p := ⟨gb263, 0, none⟩) (Kd.R_types HO261.out BK263.out (by decide)) (fun _ hk => hk.2) (.slice Ao90 t255.length co90)) (fun _ hk => hk.2) (.int .i64 t258)) (fun _ hk => hk.2) (.slice Ao93 t259.length co93)) (fun _ h_ => h_.1))) hb); have n4_ := zK (zP (g := gb236) (o := .cells #[.slice Ao83 xqa_1.length co83, .int .i64 xqb_1, .slice Ao84 xqc_1.length co84] 25 (0, 0)) (by (with_reducible repeat (first | refine zD ?_ _ | refine zE ?_ | refine zF ?_ _)); refine blk_far ?_ NB236_263.out _; (with_reducible repeat (first | refine zD ?_ _ | refine zE ?_ | refine zF ?_ _)); refine blk_far ?_ NB236_263.out _; (with_reducible repeat (first | refine zD ?_ _ | refine zE ?_ | refine zF ?_ _)); refine blk_far ?_ NB236_263.out _; (with_reducible repeat (first | refine zD ?_ _ | refine zE ?_ | refine zF ?_ _)); exact BK236.out) hb); have n5_ := zK (zP (g := gb263) (o := .cells #[.slice Ao90 t255.length co90, .int .i64 t258, .slice Ao93 t259.length co93] 25 (0, 0)) (by (with_reducible repeat (first | refine zD ?_ _ | refine zE ?_ | refine zF ?_ _)); refine blk_put (cs := #[.slice Ao90 t255.length co90, .int .i64 t258, .slice none 0 0]) ?_ 2 _ rfl; (with_reducible repeat (first | refine zD ?_ _ | refine zE ?_ | refine zF ?_ _)); refine blk_put (cs := #[.slice Ao90 t255.length co90, .int .i64 0, .slice none 0 0]) ?_ 1 _ rfl; (with_reducible repeat (first | refine zD ?_ _ | refine zE ?_ | refine zF ?_ _)); refine blk_put (cs := #[.slice none 0 0, .int .i64 0, .slice none 0 0]) ?_ 0 _ rfl; (with_reducible repeat (first | refine zD ?_ _ | refine zE ?_ | refine zF ?_ _)); exact BK263.out) hb); have n6_ := zK (yF (zl HB.out) hb); clear HO_qa; clear HO_qc; clear HO257; clear HO261; clear BK236; clear BK263; clear HB; have HO_qa := n0_; have HO_qc := n1_; have HO257 := n2_; have HO261 := n3_; have BK236 := n4_; have BK263 := n5_; have HB := n6_; clear n0_ n1_ n2_ n3_ n4_ n5_ n6_; (try clear hb); (try clear hb2); (try clear hk); (try clear hi)) | (go_at_call 19; (with_reducible refine (tollbarlaw0_Num.calls t262 t265 _ A67.out).mono ?_); rintro e w' ⟨rfl, ⟨nd, rfl⟩⟩))
         go_ret
         exact ⟨by first | rfl | (rw [Option.some.inj (A67.out.symm.trans A69.out)]; rfl) | (simp [errW_none, errW_some] <;> rfl) | (simp [*, errW_none, errW_some] <;> rfl), zl HB.out⟩
       ·replace c66 := Bool.eq_false_iff.mpr c66
        subst c66
        have H1 : (some false) = some r := by rw [if_neg (show ¬ (false = true) by decide)] at H; exact H
        clear H
        have H := H1
        clear H1
        obtain rfl := Option.some.inj H
        obtain ⟨Ao96, co96, eo96⟩ := yE HO_qa.out
        subst eo96
        obtain ⟨Ao97, co97, eo97⟩ := yE HO_qc.out
        subst eo97
        try go_wp2
        have n0_ := zK (zC HO_qa.out)
        have n1_ := zK (zC HO_qc.out)
        have n2_ := zK (zE BK236.out)
        have n3_ := zK (zI HB.out)
        clear HO_qa
        clear HO_qc
        clear BK236
        clear HB
        have HO_qa := n0_
        have HO_qc := n1_
        have BK236 := n2_
        have HB := n3_
        clear n0_ n1_ n2_ n3_
        refine start_ (n := 9) (S := fun w' => w'.cell? ⟨gb236, 0, none⟩ = some (.slice Ao96 xqa_1.length co96) ∧ w'.cell? ⟨gb236, 1, none⟩ = some (.int .i64 xqb_1) ∧ w'.cell? ⟨gb236, 2, none⟩ = some (.slice Ao97 xqc_1.length co97)) (ds := []) #[false, false, false, false, false, false, false, false, false] (by kernel_rfl) rfl rfl ⟨(zQ BK236.out 0).trans rfl, (zQ BK236.out 1).trans rfl, (zQ BK236.out 2).trans rfl⟩ (fun hHeld => ?_); refine with_tabW tollbarlaw17_TreeHigh.tab15 tollbarlaw17_TreeHigh.bits15 (fun HT_ HW_ => ?_)
        generalize wc.drew = w98 at HO_qa HO_qc BK236 HB hHeld ⊢
        refine take_ (i := 0) (N := some 65) (v := ?_) (a' := ?_) #[true, false, false, false, false, false, false, false, false] rfl rfl (take_ofW HT_.out HW_.out (by kernel_rfl)) (fun _ _ _ h => h) (Or.inl ⟨by rfl, ?_⟩) hHeld ?_ ?_
        rotate_left
        ·rintro w' ⟨s0, s1, s2⟩
         go_simp
         with_reducible rfl
        rotate_left
        ·simp only [Act.put, zY, zZ, yA, i64_w, i32_w]
         rfl
        refine join_ (σ := Value × Value × Nat) 2 #[true, true, true, true, true, true, true, false, false] (fun s_ => [(66, .agg #[.int .i64 t252, .int .i64 t253, .int .i64 t254]), (67, .tuple #[.agg #[s_.1, .int .i64 t258, s_.2.1], .int .i64 t262]), (11, .pointer (some ⟨s_.2.2, 0, none⟩)), (64, .tuple #[.agg #[s_.1, .int .i64 t258, s_.2.1], .int .i64 t262]), (68, .agg #[s_.1, .int .i64 t258, s_.2.1]), (69, .int .i64 t262)]) (fun s_ w' => (w'.cell? ⟨gb236, 0, none⟩ = some (.slice Ao96 xqa_1.length co96) ∧ w'.cell? ⟨gb236, 1, none⟩ = some (.int .i64 xqb_1) ∧ w'.cell? ⟨gb236, 2, none⟩ = some (.slice Ao97 xqc_1.length co97)) ∧ (Kd.R k64 64 w' w.heap.size (fun k_ => some k_ ≠ (.slice Ao96 xqa_1.length co96 : Value).ownBlock) s_.1 t255) ∧ (Kd.R (Kd.int .i64) 3 w' w.heap.size (fun k_ => some k_ ≠ (.slice Ao97 xqc_1.length co97 : Value).ownBlock) s_.2.1 t259) ∧ (Kd.R k64 64 w' w.heap.size (fun k_ => some k_ ≠ (s_.1 : Value).ownBlock) (.slice Ao96 xqa_1.length co96) xqa_1) ∧ (Kd.R (Kd.int .i64) 3 w' w.heap.size (fun k_ => some k_ ≠ (s_.2.1 : Value).ownBlock) (.slice Ao97 xqc_1.length co97) xqc_1) ∧ (w'.heap[gb236]? = some (.cells #[.slice Ao96 xqa_1.length co96, .int .i64 xqb_1, .slice Ao97 xqc_1.length co97] 25 (0, 0))) ∧ (w'.heap[s_.2.2]? = some (.cells #[.slice none 0 0, .int .i64 0, .slice none 0 0] 25 (0, 0))) ∧ (w.heap.size ≤ s_.2.2) ∧ (w.heap.size ≤ s_.2.2) ∧ (gb236 ≠ s_.2.2) ∧ (s_.2.2 ≠ gb236) ∧ (Below w.heap.size w w')) ?_ ?_
        rotate_left
        ·intro hCont
         refine two_ (i := 1) (j := 6) (Ni := some 66) (Nj := some 11) #[true, true, false, false, false, false, false, false, false] #[true, false, false, false, false, false, true, false, false] rfl rfl rfl rfl (two_of HT_.out (by kernel_rfl)) (by decide) (by decide) (fun K hK => ?_) (fun K hK => ?_)
         ·skip
          refine goes_ Try.func35 (by kernel_rfl) rfl #[.int .i64 200, .int .i64 201, .int .i64 0] (by rfl) rfl rfl zt ?_
          with_reducible refine (tollbarlaw17_item.calls 200 201 0 t252 t253 t254 _ A63.out).mono ?_
          rintro e w99 ⟨rfl, hb⟩
          refine ⟨_, rfl, ?_⟩
          have n0_ := zK (zO (zr HO_qa.out) hb)
          have n1_ := zK (zO (zr HO_qc.out) hb)
          have n2_ := zK (zP (g := gb236) (o := .cells #[.slice Ao96 xqa_1.length co96, .int .i64 xqb_1, .slice Ao97 xqc_1.length co97] 25 (0, 0)) (zb BK236.out) hb)
          have n3_ := zK (yF (zl HB.out) hb)
          clear HO_qa
          clear HO_qc
          clear BK236
          clear HB
          have HO_qa := n0_
          have HO_qc := n1_
          have BK236 := n2_
          have HB := n3_
          clear n0_ n1_ n2_ n3_
          (try clear hb)
          (try clear hb2)
          (try clear hk)
          (try clear hi)
          refine hK.out _ _ ⟨(zQ BK236.out 0).trans rfl, (zQ BK236.out 1).trans rfl, (zQ BK236.out 2).trans rfl⟩ (fun hHeld => ?_)
          clear hK K
          refine norm_ (a' := ?_) ?_ ?_
          rotate_left
          ·show Act.put _ (some 66) _ = _
           simp only [Act.put, zY, zZ, yA, i64_w, i32_w]
           rfl
          refine two_ (i := 2) (j := 6) (Ni := some 67) (Nj := some 11) #[true, true, true, false, false, false, false, false, false] #[true, true, false, false, false, false, true, false, false] rfl rfl rfl rfl (two_of HT_.out (by kernel_rfl)) (by decide) (by decide) (fun K hK => ?_) (fun K hK => ?_)
          ·skip
           refine goes_ Try.func26 (by kernel_rfl) rfl #[.agg #[.slice Ao96 xqa_1.length co96, .int .i64 xqb_1, .slice Ao97 xqc_1.length co97], .agg #[.int .i64 t252, .int .i64 t253, .int .i64 t254]] (by rfl) rfl rfl zt ?_
           with_reducible refine (tree_Insert.calls _ _ xqa_1 xqb_1 _ _ xqc_1 t252 t253 t254 t255 t258 t259 t262 _ ?side1 ?side2 ?side3 ?side4 A64.out).mono ?_
           (case side1 => exact zc (zX HO_qa.out).2.2)
           (case side2 => exact (zX HO_qa.out).2.1)
           (case side3 => exact zc (zX HO_qc.out).2.2)
           (case side4 => exact (zX HO_qc.out).2.1)
           rintro e w100 ⟨v256, v260, rfl, ho0, ho1, hb⟩
           refine ⟨_, rfl, ?_⟩
           have n0_ := zK (yC (zr HO_qa.out) (Kd.R_base ho0) hb)
           have n1_ := zK (yC (zr HO_qc.out) (Kd.R_base ho1) hb)
           have n2_ := zK (zV (zW ho0 (yB (zr HO_qa.out))) (yG (zl HB.out)))
           have n3_ := zK (zV (zW ho1 (yB (zr HO_qc.out))) (yG (zl HB.out)))
           have n4_ := zK (zP (g := gb236) (o := .cells #[.slice Ao96 xqa_1.length co96, .int .i64 xqb_1, .slice Ao97 xqc_1.length co97] 25 (0, 0)) (zb BK236.out) hb)
           have n5_ := zK (yF (zl HB.out) hb)
           clear HO_qa
           clear HO_qc
           clear BK236
           clear HB
           have HO_qa := n0_
           have HO_qc := n1_
           have HO257 := n2_
           have HO261 := n3_
           have BK236 := n4_
           have HB := n5_
           clear n0_ n1_ n2_ n3_ n4_ n5_
           (try clear hb)
           (try clear hb2)
           (try clear hk)
           (try clear hi)
           (try clear ho0)
           (try clear ho1)
           refine hK.out _ _ ⟨(zQ BK236.out 0).trans rfl, (zQ BK236.out 1).trans rfl, (zQ BK236.out 2).trans rfl⟩ (fun hHeld => ?_)
           clear hK K
           refine norm_ (a' := ?_) ?_ ?_
           rotate_left
           ·show Act.put _ (some 67) _ = _
            simp only [Act.put, zY, zZ, yA, i64_w, i32_w]
            rfl
           refine pure_ (i := 3) (N := some 64) (v := ?_) (a' := ?_) #[true, true, true, true, false, false, false, false, false] rfl rfl (any_of HT_.out (by kernel_rfl)) (fun _ _ _ h => h) (Or.inl ⟨by rfl, ?_⟩) ?_ ?_
           rotate_left
           ·intro w'
            go_simp
            with_reducible rfl
           rotate_left
           ·simp only [Act.put, zY, zZ, yA, i64_w, i32_w]
            rfl
           refine pure_ (i := 4) (N := some 68) (v := ?_) (a' := ?_) #[true, true, true, true, true, false, false, false, false] rfl rfl (any_of HT_.out (by kernel_rfl)) (fun _ _ _ h => h) (Or.inl ⟨by rfl, ?_⟩) ?_ ?_
           rotate_left
           ·intro w'
            go_simp
            with_reducible rfl
           rotate_left
           ·simp only [Act.put, zY, zZ, yA, i64_w, i32_w]
            rfl
           refine pure_ (i := 5) (N := some 69) (v := ?_) (a' := ?_) #[true, true, true, true, true, true, false, false, false] rfl rfl (any_of HT_.out (by kernel_rfl)) (fun _ _ _ h => h) (Or.inl ⟨by rfl, ?_⟩) ?_ ?_
           rotate_left
           ·intro w'
            go_simp
            with_reducible rfl
           rotate_left
           ·simp only [Act.put, zY, zZ, yA, i64_w, i32_w]
            rfl
           refine one_ (i := 6) (N := some 11) #[true, true, true, true, true, true, true, false, false] rfl rfl (one_of HT_.out (by kernel_rfl)) (by decide) (fun K hK => ?_)
           refine box_step ?hg (N := 11) ?hd (cs := #[.slice none 0 0, .int .i64 0, .slice none 0 0]) (t := 25) ?hr ?_; (case hd => rfl); (case hg => rfl); (case hr => first | (go_simp; done) | (go_simp; rfl))
           intro gb263 hg w101 hbox hb
           have n0_ := zK (zO (zr HO_qa.out) hb)
           have n1_ := zK (zO (zr HO_qc.out) hb)
           have n2_ := zK (zO (zr HO257.out) hb)
           have n3_ := zK (zO (zr HO261.out) hb)
           have n4_ := zK (zP (g := gb236) (o := .cells #[.slice Ao96 xqa_1.length co96, .int .i64 xqb_1, .slice Ao97 xqc_1.length co97] 25 (0, 0)) (zb BK236.out) hb)
           have n5_ := zK (yF (zl HB.out) hb)
           have n6_ := zK (hbox)
           have n7_ := zK ((by rw [hg]; exact (yG (zl HB.out)) : w.heap.size ≤ gb263))
           have n8_ := zK ((by rw [hg]; exact (yG (zl HB.out)) : w.heap.size ≤ gb263))
           have n9_ := zK ((by rw [hg]; exact zN (blk_lt (g := gb236) (o := .cells #[.slice Ao96 xqa_1.length co96, .int .i64 xqb_1, .slice Ao97 xqc_1.length co97] 25 (0, 0)) (zb BK236.out)) : gb236 ≠ gb263))
           have n10_ := zK ((by rw [hg]; exact Nat.ne_of_gt (blk_lt (g := gb236) (o := .cells #[.slice Ao96 xqa_1.length co96, .int .i64 xqb_1, .slice Ao97 xqc_1.length co97] 25 (0, 0)) (zb BK236.out)) : gb263 ≠ gb236))
           clear HO_qa
           clear HO_qc
           clear HO257
           clear HO261
           clear BK236
           clear HB
           have HO_qa := n0_
           have HO_qc := n1_
           have HO257 := n2_
           have HO261 := n3_
           have BK236 := n4_
           have HB := n5_
           have BK263 := n6_
           have GW263 := n7_
           have GE263 := n8_
           have NB236_263 := n9_
           have NB263_236 := n10_
           clear n0_ n1_ n2_ n3_ n4_ n5_ n6_ n7_ n8_ n9_ n10_
           clear hb hbox hg
           refine hK.out _ _ ⟨(zQ BK236.out 0).trans rfl, (zQ BK236.out 1).trans rfl, (zQ BK236.out 2).trans rfl⟩ (fun hHeld => ?_)
           clear hK K
           refine norm_ (a' := ?_) ?_ ?_
           rotate_left
           ·show Act.put _ (some 11) _ = _
            simp only [Act.put, zY, zZ, yA, i64_w, i32_w]
            rfl
           exact norm_ (by simp only [putAll, Act.put, zY, zZ, yA]) (hCont (v256, v260, gb263) _ ⟨hHeld, (by (with_reducible repeat (first | apply zA | apply zB | apply zC)); exact Kd.R_mono HO257.out (fun _ hk => hk.2)), (by (with_reducible repeat (first | apply zA | apply zB | apply zC)); exact Kd.R_mono HO261.out (fun _ hk => hk.2)), (by (with_reducible repeat (first | apply zA | apply zB | apply zC)); exact Kd.R_mono HO_qa.out (fun _ hk => hk.2)), (by (with_reducible repeat (first | apply zA | apply zB | apply zC)); exact Kd.R_mono HO_qc.out (fun _ hk => hk.2)), (zb BK236.out), (zb BK263.out), GW263.out, GE263.out, NB236_263.out, NB263_236.out, (zl HB.out)⟩)
          ·skip
           refine box_step ?hg (N := 11) ?hd (cs := #[.slice none 0 0, .int .i64 0, .slice none 0 0]) (t := 25) ?hr ?_; (case hd => rfl); (case hg => rfl); (case hr => first | (go_simp; done) | (go_simp; rfl))
           intro gb263 hg w100 hbox hb
           have n0_ := zK (zO (zr HO_qa.out) hb)
           have n1_ := zK (zO (zr HO_qc.out) hb)
           have n2_ := zK (zP (g := gb236) (o := .cells #[.slice Ao96 xqa_1.length co96, .int .i64 xqb_1, .slice Ao97 xqc_1.length co97] 25 (0, 0)) (zb BK236.out) hb)
           have n3_ := zK (yF (zl HB.out) hb)
           have n4_ := zK (hbox)
           have n5_ := zK ((by rw [hg]; exact (yG (zl HB.out)) : w.heap.size ≤ gb263))
           have n6_ := zK ((by rw [hg]; exact (yG (zl HB.out)) : w.heap.size ≤ gb263))
           have n7_ := zK ((by rw [hg]; exact zN (blk_lt (g := gb236) (o := .cells #[.slice Ao96 xqa_1.length co96, .int .i64 xqb_1, .slice Ao97 xqc_1.length co97] 25 (0, 0)) (zb BK236.out)) : gb236 ≠ gb263))
           have n8_ := zK ((by rw [hg]; exact Nat.ne_of_gt (blk_lt (g := gb236) (o := .cells #[.slice Ao96 xqa_1.length co96, .int .i64 xqb_1, .slice Ao97 xqc_1.length co97] 25 (0, 0)) (zb BK236.out)) : gb263 ≠ gb236))
           clear HO_qa
           clear HO_qc
           clear BK236
           clear HB
           have HO_qa := n0_
           have HO_qc := n1_
           have BK236 := n2_
           have HB := n3_
           have BK263 := n4_
           have GW263 := n5_
           have GE263 := n6_
           have NB236_263 := n7_
           have NB263_236 := n8_
           clear n0_ n1_ n2_ n3_ n4_ n5_ n6_ n7_ n8_
           clear hb hbox hg
           refine hK.out _ _ ⟨(zQ BK236.out 0).trans rfl, (zQ BK236.out 1).trans rfl, (zQ BK236.out 2).trans rfl⟩ (fun hHeld => ?_)
           clear hK K
           refine norm_ (a' := ?_) ?_ ?_
           rotate_left
           ·show Act.put _ (some 11) _ = _
            simp only [Act.put, zY, zZ, yA, i64_w, i32_w]
            rfl
           refine one_ (i := 2) (N := some 67) #[true, true, true, false, false, false, true, false, false] rfl rfl (one_of HT_.out (by kernel_rfl)) (by decide) (fun K hK => ?_)
           refine goes_ Try.func26 (by kernel_rfl) rfl #[.agg #[.slice Ao96 xqa_1.length co96, .int .i64 xqb_1, .slice Ao97 xqc_1.length co97], .agg #[.int .i64 t252, .int .i64 t253, .int .i64 t254]] (by rfl) rfl rfl zt ?_
           with_reducible refine (tree_Insert.calls _ _ xqa_1 xqb_1 _ _ xqc_1 t252 t253 t254 t255 t258 t259 t262 _ ?side1 ?side2 ?side3 ?side4 A64.out).mono ?_
           (case side1 => exact zc (zX HO_qa.out).2.2)
           (case side2 => exact (zX HO_qa.out).2.1)
           (case side3 => exact zc (zX HO_qc.out).2.2)
           (case side4 => exact (zX HO_qc.out).2.1)
           rintro e w101 ⟨v256, v260, rfl, ho0, ho1, hb⟩
           refine ⟨_, rfl, ?_⟩
           have n0_ := zK (yC (zr HO_qa.out) (Kd.R_base ho0) hb)
           have n1_ := zK (yC (zr HO_qc.out) (Kd.R_base ho1) hb)
           have n2_ := zK (zV (zW ho0 (yB (zr HO_qa.out))) (yG (zl HB.out)))
           have n3_ := zK (zV (zW ho1 (yB (zr HO_qc.out))) (yG (zl HB.out)))
           have n4_ := zK (zP (g := gb236) (o := .cells #[.slice Ao96 xqa_1.length co96, .int .i64 xqb_1, .slice Ao97 xqc_1.length co97] 25 (0, 0)) (zb BK236.out) hb)
           have n5_ := zK (zP (g := gb263) (o := .cells #[.slice none 0 0, .int .i64 0, .slice none 0 0] 25 (0, 0)) (zb BK263.out) hb)
           have n6_ := zK (yF (zl HB.out) hb)
           clear HO_qa
           clear HO_qc
           clear BK236
           clear BK263
           clear HB
           have HO_qa := n0_
           have HO_qc := n1_
           have HO257 := n2_
           have HO261 := n3_
           have BK236 := n4_
           have BK263 := n5_
           have HB := n6_
           clear n0_ n1_ n2_ n3_ n4_ n5_ n6_
           (try clear hb)
           (try clear hb2)
           (try clear hk)
           (try clear hi)
           (try clear ho0)
           (try clear ho1)
           refine hK.out _ _ ⟨(zQ BK236.out 0).trans rfl, (zQ BK236.out 1).trans rfl, (zQ BK236.out 2).trans rfl⟩ (fun hHeld => ?_)
           clear hK K
           refine norm_ (a' := ?_) ?_ ?_
           rotate_left
           ·show Act.put _ (some 67) _ = _
            simp only [Act.put, zY, zZ, yA, i64_w, i32_w]
            rfl
           refine pure_ (i := 3) (N := some 64) (v := ?_) (a' := ?_) #[true, true, true, true, false, false, true, false, false] rfl rfl (any_of HT_.out (by kernel_rfl)) (fun _ _ _ h => h) (Or.inl ⟨by rfl, ?_⟩) ?_ ?_
           rotate_left
           ·intro w'
            go_simp
            with_reducible rfl
           rotate_left
           ·simp only [Act.put, zY, zZ, yA, i64_w, i32_w]
            rfl
           refine pure_ (i := 4) (N := some 68) (v := ?_) (a' := ?_) #[true, true, true, true, true, false, true, false, false] rfl rfl (any_of HT_.out (by kernel_rfl)) (fun _ _ _ h => h) (Or.inl ⟨by rfl, ?_⟩) ?_ ?_
           rotate_left
           ·intro w'
            go_simp
            with_reducible rfl
           rotate_left
           ·simp only [Act.put, zY, zZ, yA, i64_w, i32_w]
            rfl
           refine pure_ (i := 5) (N := some 69) (v := ?_) (a' := ?_) #[true, true, true, true, true, true, true, false, false] rfl rfl (any_of HT_.out (by kernel_rfl)) (fun _ _ _ h => h) (Or.inl ⟨by rfl, ?_⟩) ?_ ?_
           rotate_left
           ·intro w'
            go_simp
            with_reducible rfl
           rotate_left
           ·simp only [Act.put, zY, zZ, yA, i64_w, i32_w]
            rfl
           exact norm_ (by simp only [putAll, Act.put, zY, zZ, yA]) (hCont (v256, v260, gb263) _ ⟨hHeld, (by (with_reducible repeat (first | apply zA | apply zB | apply zC)); exact Kd.R_mono HO257.out (fun _ hk => hk.2)), (by (with_reducible repeat (first | apply zA | apply zB | apply zC)); exact Kd.R_mono HO261.out (fun _ hk => hk.2)), (by (with_reducible repeat (first | apply zA | apply zB | apply zC)); exact Kd.R_mono HO_qa.out (fun _ hk => hk.2)), (by (with_reducible repeat (first | apply zA | apply zB | apply zC)); exact Kd.R_mono HO_qc.out (fun _ hk => hk.2)), (zb BK236.out), (zb BK263.out), GW263.out, GE263.out, NB236_263.out, NB263_236.out, (zl HB.out)⟩)
         ·skip
          refine box_step ?hg (N := 11) ?hd (cs := #[.slice none 0 0, .int .i64 0, .slice none 0 0]) (t := 25) ?hr ?_; (case hd => rfl); (case hg => rfl); (case hr => first | (go_simp; done) | (go_simp; rfl))
          intro gb263 hg w99 hbox hb
          have n0_ := zK (zO (zr HO_qa.out) hb)
          have n1_ := zK (zO (zr HO_qc.out) hb)
          have n2_ := zK (zP (g := gb236) (o := .cells #[.slice Ao96 xqa_1.length co96, .int .i64 xqb_1, .slice Ao97 xqc_1.length co97] 25 (0, 0)) (zb BK236.out) hb)
          have n3_ := zK (yF (zl HB.out) hb)
          have n4_ := zK (hbox)
          have n5_ := zK ((by rw [hg]; exact (yG (zl HB.out)) : w.heap.size ≤ gb263))
          have n6_ := zK ((by rw [hg]; exact (yG (zl HB.out)) : w.heap.size ≤ gb263))
          have n7_ := zK ((by rw [hg]; exact zN (blk_lt (g := gb236) (o := .cells #[.slice Ao96 xqa_1.length co96, .int .i64 xqb_1, .slice Ao97 xqc_1.length co97] 25 (0, 0)) (zb BK236.out)) : gb236 ≠ gb263))
          have n8_ := zK ((by rw [hg]; exact Nat.ne_of_gt (blk_lt (g := gb236) (o := .cells #[.slice Ao96 xqa_1.length co96, .int .i64 xqb_1, .slice Ao97 xqc_1.length co97] 25 (0, 0)) (zb BK236.out)) : gb263 ≠ gb236))
          clear HO_qa
          clear HO_qc
          clear BK236
          clear HB
          have HO_qa := n0_
          have HO_qc := n1_
          have BK236 := n2_
          have HB := n3_
          have BK263 := n4_
          have GW263 := n5_
          have GE263 := n6_
          have NB236_263 := n7_
          have NB263_236 := n8_
          clear n0_ n1_ n2_ n3_ n4_ n5_ n6_ n7_ n8_
          clear hb hbox hg
          refine hK.out _ _ ⟨(zQ BK236.out 0).trans rfl, (zQ BK236.out 1).trans rfl, (zQ BK236.out 2).trans rfl⟩ (fun hHeld => ?_)
          clear hK K
          refine norm_ (a' := ?_) ?_ ?_
          rotate_left
          ·show Act.put _ (some 11) _ = _
           simp only [Act.put, zY, zZ, yA, i64_w, i32_w]
           rfl
          refine one_ (i := 1) (N := some 66) #[true, true, false, false, false, false, true, false, false] rfl rfl (one_of HT_.out (by kernel_rfl)) (by decide) (fun K hK => ?_)
          refine goes_ Try.func35 (by kernel_rfl) rfl #[.int .i64 200, .int .i64 201, .int .i64 0] (by rfl) rfl rfl zt ?_
          with_reducible refine (tollbarlaw17_item.calls 200 201 0 t252 t253 t254 _ A63.out).mono ?_
          rintro e w100 ⟨rfl, hb⟩
          refine ⟨_, rfl, ?_⟩
          have n0_ := zK (zO (zr HO_qa.out) hb)
          have n1_ := zK (zO (zr HO_qc.out) hb)
          have n2_ := zK (zP (g := gb236) (o := .cells #[.slice Ao96 xqa_1.length co96, .int .i64 xqb_1, .slice Ao97 xqc_1.length co97] 25 (0, 0)) (zb BK236.out) hb)
          have n3_ := zK (zP (g := gb263) (o := .cells #[.slice none 0 0, .int .i64 0, .slice none 0 0] 25 (0, 0)) (zb BK263.out) hb)
          have n4_ := zK (yF (zl HB.out) hb)
          clear HO_qa
          clear HO_qc
          clear BK236
          clear BK263
          clear HB
          have HO_qa := n0_
          have HO_qc := n1_
          have BK236 := n2_
          have BK263 := n3_
          have HB := n4_
          clear n0_ n1_ n2_ n3_ n4_
          (try clear hb)
          (try clear hb2)
          (try clear hk)
          (try clear hi)
          refine hK.out _ _ ⟨(zQ BK236.out 0).trans rfl, (zQ BK236.out 1).trans rfl, (zQ BK236.out 2).trans rfl⟩ (fun hHeld => ?_)
          clear hK K
          refine norm_ (a' := ?_) ?_ ?_
          rotate_left
          ·show Act.put _ (some 66) _ = _
           simp only [Act.put, zY, zZ, yA, i64_w, i32_w]
           rfl
          refine one_ (i := 2) (N := some 67) #[true, true, true, false, false, false, true, false, false] rfl rfl (one_of HT_.out (by kernel_rfl)) (by decide) (fun K hK => ?_)
          refine goes_ Try.func26 (by kernel_rfl) rfl #[.agg #[.slice Ao96 xqa_1.length co96, .int .i64 xqb_1, .slice Ao97 xqc_1.length co97], .agg #[.int .i64 t252, .int .i64 t253, .int .i64 t254]] (by rfl) rfl rfl zt ?_
          with_reducible refine (tree_Insert.calls _ _ xqa_1 xqb_1 _ _ xqc_1 t252 t253 t254 t255 t258 t259 t262 _ ?side1 ?side2 ?side3 ?side4 A64.out).mono ?_
          (case side1 => exact zc (zX HO_qa.out).2.2)
          (case side2 => exact (zX HO_qa.out).2.1)
          (case side3 => exact zc (zX HO_qc.out).2.2)
          (case side4 => exact (zX HO_qc.out).2.1)
          rintro e w101 ⟨v256, v260, rfl, ho0, ho1, hb⟩
          refine ⟨_, rfl, ?_⟩
          have n0_ := zK (yC (zr HO_qa.out) (Kd.R_base ho0) hb)
          have n1_ := zK (yC (zr HO_qc.out) (Kd.R_base ho1) hb)
          have n2_ := zK (zV (zW ho0 (yB (zr HO_qa.out))) (yG (zl HB.out)))
          have n3_ := zK (zV (zW ho1 (yB (zr HO_qc.out))) (yG (zl HB.out)))
          have n4_ := zK (zP (g := gb236) (o := .cells #[.slice Ao96 xqa_1.length co96, .int .i64 xqb_1, .slice Ao97 xqc_1.length co97] 25 (0, 0)) (zb BK236.out) hb)
          have n5_ := zK (zP (g := gb263) (o := .cells #[.slice none 0 0, .int .i64 0, .slice none 0 0] 25 (0, 0)) (zb BK263.out) hb)
          have n6_ := zK (yF (zl HB.out) hb)
          clear HO_qa
          clear HO_qc
          clear BK236
          clear BK263
          clear HB
          have HO_qa := n0_
          have HO_qc := n1_
          have HO257 := n2_
          have HO261 := n3_
          have BK236 := n4_
          have BK263 := n5_
          have HB := n6_
          clear n0_ n1_ n2_ n3_ n4_ n5_ n6_
          (try clear hb)
          (try clear hb2)
          (try clear hk)
          (try clear hi)
          (try clear ho0)
          (try clear ho1)
          refine hK.out _ _ ⟨(zQ BK236.out 0).trans rfl, (zQ BK236.out 1).trans rfl, (zQ BK236.out 2).trans rfl⟩ (fun hHeld => ?_)
          clear hK K
          refine norm_ (a' := ?_) ?_ ?_
          rotate_left
          ·show Act.put _ (some 67) _ = _
           simp only [Act.put, zY, zZ, yA, i64_w, i32_w]
           rfl
          refine pure_ (i := 3) (N := some 64) (v := ?_) (a' := ?_) #[true, true, true, true, false, false, true, false, false] rfl rfl (any_of HT_.out (by kernel_rfl)) (fun _ _ _ h => h) (Or.inl ⟨by rfl, ?_⟩) ?_ ?_
          rotate_left
          ·intro w'
           go_simp
           with_reducible rfl
          rotate_left
          ·simp only [Act.put, zY, zZ, yA, i64_w, i32_w]
           rfl
          refine pure_ (i := 4) (N := some 68) (v := ?_) (a' := ?_) #[true, true, true, true, true, false, true, false, false] rfl rfl (any_of HT_.out (by kernel_rfl)) (fun _ _ _ h => h) (Or.inl ⟨by rfl, ?_⟩) ?_ ?_
          rotate_left
          ·intro w'
           go_simp
           with_reducible rfl
          rotate_left
          ·simp only [Act.put, zY, zZ, yA, i64_w, i32_w]
           rfl
          refine pure_ (i := 5) (N := some 69) (v := ?_) (a' := ?_) #[true, true, true, true, true, true, true, false, false] rfl rfl (any_of HT_.out (by kernel_rfl)) (fun _ _ _ h => h) (Or.inl ⟨by rfl, ?_⟩) ?_ ?_
          rotate_left
          ·intro w'
           go_simp
           with_reducible rfl
          rotate_left
          ·simp only [Act.put, zY, zZ, yA, i64_w, i32_w]
           rfl
          exact norm_ (by simp only [putAll, Act.put, zY, zZ, yA]) (hCont (v256, v260, gb263) _ ⟨hHeld, (by (with_reducible repeat (first | apply zA | apply zB | apply zC)); exact Kd.R_mono HO257.out (fun _ hk => hk.2)), (by (with_reducible repeat (first | apply zA | apply zB | apply zC)); exact Kd.R_mono HO261.out (fun _ hk => hk.2)), (by (with_reducible repeat (first | apply zA | apply zB | apply zC)); exact Kd.R_mono HO_qa.out (fun _ hk => hk.2)), (by (with_reducible repeat (first | apply zA | apply zB | apply zC)); exact Kd.R_mono HO_qc.out (fun _ hk => hk.2)), (zb BK236.out), (zb BK263.out), GW263.out, GE263.out, NB236_263.out, NB263_236.out, (zl HB.out)⟩)
        rintro ⟨v256, v260, gb263⟩ w102 ⟨hS_, h0_, h1_, h2_, h3_, h4_, h5_, h6_, h7_, h8_, h9_, h10_⟩
        have n0_ : Aside0 (Kd.R k64 64 w102 w.heap.size (fun k_ => some k_ ≠ (.slice Ao96 xqa_1.length co96 : Value).ownBlock) v256 t255) := ⟨h0_⟩
        have n1_ : Aside0 (Kd.R (Kd.int .i64) 3 w102 w.heap.size (fun k_ => some k_ ≠ (.slice Ao97 xqc_1.length co97 : Value).ownBlock) v260 t259) := ⟨h1_⟩
        have n2_ : Aside0 (Kd.R k64 64 w102 w.heap.size (fun k_ => some k_ ≠ (v256 : Value).ownBlock) (.slice Ao96 xqa_1.length co96) xqa_1) := ⟨h2_⟩
        have n3_ : Aside0 (Kd.R (Kd.int .i64) 3 w102 w.heap.size (fun k_ => some k_ ≠ (v260 : Value).ownBlock) (.slice Ao97 xqc_1.length co97) xqc_1) := ⟨h3_⟩
        have n4_ : Aside0 (w102.heap[gb236]? = some (.cells #[.slice Ao96 xqa_1.length co96, .int .i64 xqb_1, .slice Ao97 xqc_1.length co97] 25 (0, 0))) := ⟨h4_⟩
        have n5_ : Aside0 (w102.heap[gb263]? = some (.cells #[.slice none 0 0, .int .i64 0, .slice none 0 0] 25 (0, 0))) := ⟨h5_⟩
        have n6_ : Aside0 (w.heap.size ≤ gb263) := ⟨h6_⟩
        have n7_ : Aside0 (w.heap.size ≤ gb263) := ⟨h7_⟩
        have n8_ : Aside0 (gb236 ≠ gb263) := ⟨h8_⟩
        have n9_ : Aside0 (gb263 ≠ gb236) := ⟨h9_⟩
        have n10_ : Aside0 (Below w.heap.size w w102) := ⟨h10_⟩
        clear HO_qa
        clear HO_qc
        clear BK236
        clear HB
        clear h0_ h1_ h2_ h3_ h4_ h5_ h6_ h7_ h8_ h9_ h10_
        have HO257 := n0_
        have HO261 := n1_
        have HO_qa := n2_
        have HO_qc := n3_
        have BK236 := n4_
        have BK263 := n5_
        have GW263 := n6_
        have GE263 := n7_
        have NB236_263 := n8_
        have NB263_236 := n9_
        have HB := n10_
        clear n0_ n1_ n2_ n3_ n4_ n5_ n6_ n7_ n8_ n9_ n10_
        have hHeld : w102.cell? ⟨gb236, 0, none⟩ = some (.slice Ao96 xqa_1.length co96) ∧ w102.cell? ⟨gb236, 1, none⟩ = some (.int .i64 xqb_1) ∧ w102.cell? ⟨gb236, 2, none⟩ = some (.slice Ao97 xqc_1.length co97) := hS_
        obtain ⟨Ao103, co103, eo103⟩ := yE HO257.out
        (first | subst eo103 | (injection eo103 with f1_ f2_ f3_; have f4_ := f1_.symm; have f5_ := f3_.symm; clear f1_ f2_ f3_; subst f4_; subst f5_))
        obtain ⟨Ao106, co106, eo106⟩ := yE HO261.out
        (first | subst eo106 | (injection eo106 with f1_ f2_ f3_; have f4_ := f1_.symm; have f5_ := f3_.symm; clear f1_ f2_ f3_; subst f4_; subst f5_))
        refine norm_ (a' := ?_) ?_ ?_
        rotate_left
        ·simp only [putAll, Act.put, zY, zZ, yA]
         rfl
        refine one_ (i := 7) (N := none) #[true, true, true, true, true, true, true, true, false] rfl rfl (one_of HT_.out (by kernel_rfl)) (by decide) (fun K hK => ?_)
        have hs104 : w102.cell? ⟨gb263, 0, none⟩ = some (.slice none 0 0) := (zQ BK263.out 0).trans rfl
        have hfs104 := zR BK263.out 0
        have hns104_0 := NB236_263.out
        have hms104_0 := NB263_236.out
        have hs105 : w102.cell? ⟨gb263, 1, none⟩ = some (.int .i64 0) := (zQ BK263.out 1).trans rfl
        have hfs105 := zR BK263.out 1
        have hns105_0 := NB236_263.out
        have hms105_0 := NB263_236.out
        have hs107 : w102.cell? ⟨gb263, 2, none⟩ = some (.slice none 0 0) := (zQ BK263.out 2).trans rfl
        have hfs107 := zR BK263.out 2
        have hns107_0 := NB236_263.out
        have hms107_0 := NB263_236.out
        refine skip_ (w1 := ?_) (by rfl) rfl ?_ ?_
        rotate_left
        ·go_simp
         rfl
        refine hK.out _ _ ⟨((cell_far (p := ⟨gb263, _, none⟩) NB236_263.out _).trans (((cell_far (p := ⟨gb263, _, none⟩) NB236_263.out _).trans (((cell_far (p := ⟨gb263, _, none⟩) NB236_263.out _).trans (hHeld.1)))))), ((cell_far (p := ⟨gb263, _, none⟩) NB236_263.out _).trans (((cell_far (p := ⟨gb263, _, none⟩) NB236_263.out _).trans (((cell_far (p := ⟨gb263, _, none⟩) NB236_263.out _).trans (hHeld.2.1)))))), ((cell_far (p := ⟨gb263, _, none⟩) NB236_263.out _).trans (((cell_far (p := ⟨gb263, _, none⟩) NB236_263.out _).trans (((cell_far (p := ⟨gb263, _, none⟩) NB236_263.out _).trans (hHeld.2.2))))))⟩ (fun hHeld => ?_)
        clear hK K
        refine pure_ (i := 8) (N := some 12) (v := ?_) (a' := ?_) #[true, true, true, true, true, true, true, true, true] rfl rfl (any_of HT_.out (by kernel_rfl)) (fun _ _ _ h => h) (Or.inl ⟨by rfl, ?_⟩) ?_ ?_
        rotate_left
        ·intro w'
         go_simp
         with_reducible rfl
        rotate_left
        ·simp only [Act.put, zY, zZ, yA, i64_w, i32_w]
         rfl
        refine done_ (done_of HT_.out (by kernel_rfl)) ?_
        try go_wp2_with (first | ((with_reducible refine gate_callee (f := 18) rfl ?_); refine goesL_ (some 70) rfl rfl Try.func18 (by kernel_rfl) rfl #[] rfl zt ?_; (with_reducible refine (tollbarlaw17_awake.calls  false _ A65.out).mono ?_); rintro e w108 ⟨rfl, hb⟩; refine ⟨_, rfl, ?_⟩; have n0_ := zK (zO (by (with_reducible repeat (first | apply zA | apply zB | apply zC)); exact (Kd.R_mono (Kd.R_far (p := ⟨gb263, 2, none⟩) (Kd.R_far (p := ⟨gb263, 1, none⟩) (Kd.R_far (p := ⟨gb263, 0, none⟩) (Kd.R_types HO_qa.out BK263.out (by decide)) (fun _ hk => hk.2) (.slice Ao103 t255.length co103)) (fun _ hk => hk.2) (.int .i64 t258)) (fun _ hk => hk.2) (.slice Ao106 t259.length co106)) (fun _ h_ => h_.1))) hb); have n1_ := zK (zO (by (with_reducible repeat (first | apply zA | apply zB | apply zC)); exact (Kd.R_mono (Kd.R_far (p := ⟨gb263, 2, none⟩) (Kd.R_far (p := ⟨gb263, 1, none⟩) (Kd.R_far (p := ⟨gb263, 0, none⟩) (Kd.R_types HO_qc.out BK263.out (by decide)) (fun _ hk => hk.2) (.slice Ao103 t255.length co103)) (fun _ hk => hk.2) (.int .i64 t258)) (fun _ hk => hk.2) (.slice Ao106 t259.length co106)) (fun _ h_ => h_.1))) hb); have n2_ := zK (zO (by (with_reducible repeat (first | apply zA | apply zB | apply zC)); exact (Kd.R_mono (Kd.R_far (p := ⟨gb263, 2, none⟩) (Kd.R_far (p := ⟨gb263, 1, none⟩) (Kd.R_far (p := ⟨gb263, 0, none⟩) (Kd.R_types HO257.out BK263.out (by decide)) (fun _ hk => hk.2) (.slice Ao103 t255.length co103)) (fun _ hk => hk.2) (.int .i64 t258)) (fun _ hk => hk.2) (.slice Ao106 t259.length co106)) (fun _ h_ => h_.1))) hb); have n3_ := zK (zO (by (with_reducible repeat (first | apply zA | apply zB | apply zC)); exact (Kd.R_mono (Kd.R_far (p := ⟨gb263, 2, none⟩) (Kd.R_far (p := ⟨gb263, 1, none⟩) (Kd.R_far (p := ⟨gb263, 0, none⟩) (Kd.R_types HO261.out BK263.out (by decide)) (fun _ hk => hk.2) (.slice Ao103 t255.length co103)) (fun _ hk => hk.2) (.int .i64 t258)) (fun _ hk => hk.2) (.slice Ao106 t259.length co106)) (fun _ h_ => h_.1))) hb); have n4_ := zK (zP (g := gb236) (o := .cells #[.slice Ao96 xqa_1.length co96, .int .i64 xqb_1, .slice Ao97 xqc_1.length co97] 25 (0, 0)) (by (with_reducible repeat (first | refine zD ?_ _ | refine zE ?_ | refine zF ?_ _)); refine blk_far ?_ NB236_263.out _; (with_reducible repeat (first | refine zD ?_ _ | refine zE ?_ | refine zF ?_ _)); refine blk_far ?_ NB236_263.out _; (with_reducible repeat (first | refine zD ?_ _ | refine zE ?_ | refine zF ?_ _)); refine blk_far ?_ NB236_263.out _; (with_reducible repeat (first | refine zD ?_ _ | refine zE ?_ | refine zF ?_ _)); exact BK236.out) hb); have n5_ := zK (zP (g := gb263) (o := .cells #[.slice Ao103 t255.length co103, .int .i64 t258, .slice Ao106 t259.length co106] 25 (0, 0)) (by (with_reducible repeat (first | refine zD ?_ _ | refine zE ?_ | refine zF ?_ _)); refine blk_put (cs := #[.slice Ao103 t255.length co103, .int .i64 t258, .slice none 0 0]) ?_ 2 _ rfl; (with_reducible repeat (first | refine zD ?_ _ | refine zE ?_ | refine zF ?_ _)); refine blk_put (cs := #[.slice Ao103 t255.length co103, .int .i64 0, .slice none 0 0]) ?_ 1 _ rfl; (with_reducible repeat (first | refine zD ?_ _ | refine zE ?_ | refine zF ?_ _)); refine blk_put (cs := #[.slice none 0 0, .int .i64 0, .slice none 0 0]) ?_ 0 _ rfl; (with_reducible repeat (first | refine zD ?_ _ | refine zE ?_ | refine zF ?_ _)); exact BK263.out) hb); have n6_ := zK (yF (zl HB.out) hb); clear HO_qa; clear HO_qc; clear HO257; clear HO261; clear BK236; clear BK263; clear HB; have HO_qa := n0_; have HO_qc := n1_; have HO257 := n2_; have HO261 := n3_; have BK236 := n4_; have BK263 := n5_; have HB := n6_; clear n0_ n1_ n2_ n3_ n4_ n5_ n6_; (try clear hb); (try clear hb2); (try clear hk); (try clear hi)))
        go_ret
        exact ⟨by first | rfl | (rw [Option.some.inj (A67.out.symm.trans A69.out)]; rfl) | (simp [errW_none, errW_some] <;> rfl) | (simp [*, errW_none, errW_some] <;> rfl), zl HB.out⟩
noncomputable def tollbarlaw17_TreeHigh.Pure : Prop := ∀ (a0 : Int) (a1 : Bool), (Lit.int .i64 a0).wf = true → ∃ k, tollbarlaw17_TreeHigh.f k a0 a1 = some true
theorem tollbarlaw17_TreeHigh.walk (P : tollbarlaw17_TreeHigh.Pure) (a0 : Int) (a1 : Bool) (w : World) (w0 : (Lit.int .i64 a0).wf = true) :
  Calls Try.prog 8 #[.int .i64 a0, .bool a1] w fun e w' => e = .returned (.bool true) ∧ Below w.heap.size w w' := by
 obtain ⟨k, h⟩ := P a0 a1 w0
 refine (tollbarlaw17_TreeHigh.calls k a0 a1 true w h).mono ?_
 rintro e w' ⟨rfl, hd⟩
 exact ⟨rfl, hd⟩
end Go.Proofs.Ytgkjpffbgnljeaa.QG
/- tollbarref17.All: what it answers, plain. -/
set_option linter.unusedVariables false
set_option linter.unusedSimpArgs false
namespace Go.Proofs.Ytgkjpffbgnljeaa.Man
open Go.RowKit Go.Proofs.Ytgkjpffbgnljeaa.QT Go.Proofs.Ytgkjpffbgnljeaa.QA Go.Proofs.Ytgkjpffbgnljeaa.TreeM Go.Proofs.YtgkjpffbgnljeaaW.PrintWords Go.Proofs.YtgkjpffbgnljeaaW.PrintLast Go.Proofs.YtgkjpffbgnljeaaW.PrintMore
theorem rdN_cells (ns : List Nd) (p : Nat) : rd_T64 ns (p : Int) = nodeN (cellN ns) p := by unfold rd_T64; rw [Int.toNat_natCast, nodeN_cellN]
end Go.Proofs.Ytgkjpffbgnljeaa.Man
/- tollbarref17.There, With, Without, InsertError; SameItems, SameInts, SameTree, CopyTree: what they answer, plain. -/
set_option linter.unusedVariables false
set_option linter.unusedSimpArgs false
namespace Go.Proofs.Ytgkjpffbgnljeaa.Man
open Go.RowKit Go.Proofs.Ytgkjpffbgnljeaa.QT Go.Proofs.Ytgkjpffbgnljeaa.QA Go.Proofs.Ytgkjpffbgnljeaa.TreeM Go.Proofs.YtgkjpffbgnljeaaW.PrintWords Go.Proofs.YtgkjpffbgnljeaaW.PrintLast Go.Proofs.YtgkjpffbgnljeaaW.PrintMore
theorem wrapN (j : Nat) (h : j ≤ 100000000000000) : wrap64 ((j : Int) + 1) = ((j + 1 : Nat) : Int) := by unfold wrap64; omega
end Go.Proofs.Ytgkjpffbgnljeaa.Man
/- The bits of a small number. -/
set_option linter.unusedVariables false
set_option linter.unusedSimpArgs false
namespace Go.Proofs.Ytgkjpffbgnljeaa.Man
open Go.RowKit Go.Proofs.Ytgkjpffbgnljeaa.QT Go.Proofs.Ytgkjpffbgnljeaa.QA Go.Proofs.Ytgkjpffbgnljeaa.TreeM Go.Proofs.YtgkjpffbgnljeaaW.PrintWords Go.Proofs.YtgkjpffbgnljeaaW.PrintLast Go.Proofs.YtgkjpffbgnljeaaW.PrintMore
theorem and_range (x : Int) (m : Nat) (hm : m < 2 ^ 62) : 0 ≤ Go.bits .and .i64 x (m : Int) ∧ Go.bits .and .i64 x (m : Int) ≤ (m : Int) := by
 have h1 : (BitVec.ofInt 64 x &&& BitVec.ofInt 64 (m : Int)).toNat ≤ m := by
  rw [BitVec.toNat_and, BitVec.ofInt_natCast, BitVec.toNat_ofNat, Nat.mod_eq_of_lt (by omega)]
  exact Nat.and_le_right
 have h2 : Go.bits .and .i64 x (m : Int) = IntKind.i64.wrap ((BitVec.ofInt 64 x &&& BitVec.ofInt 64 (m : Int)).toNat : Int) := rfl
 rw [h2, IntKind.wrap_i64]
 omega
end Go.Proofs.Ytgkjpffbgnljeaa.Man
/- The law TreeHigh, plain. -/
set_option linter.unusedVariables false
set_option linter.unusedSimpArgs false
namespace Go.Proofs.Ytgkjpffbgnljeaa.Man
open Go.RowKit Go.Proofs.Ytgkjpffbgnljeaa.QT Go.Proofs.Ytgkjpffbgnljeaa.QA Go.Proofs.Ytgkjpffbgnljeaa.TreeM Go.Proofs.YtgkjpffbgnljeaaW.PrintWords Go.Proofs.YtgkjpffbgnljeaaW.PrintLast Go.Proofs.YtgkjpffbgnljeaaW.PrintMore
theorem high_j2 (x5 : Int) (k : Nat) {ns : List Nd} {root : Int} {fr : List Int} {t : T} (h : IsT (cellN ns) ns.length root fr t) (h5 : 0 ≤ x5 ∧ x5 ≤ 31) (hl : ((items t).length : Int) = x5 + 1) (hm : ∀ y ∈ items t, y.fr ≤ 100) :
  QG.tollbarlaw17_TreeHigh.j2 (k + 1) x5 false ns root fr = some true := by
 have hf := h.free_le
 have hn : (⟨200, 201, 0⟩ : Itm) ∉ items t := fun g => absurd (hm _ g) (by decide)
 have hx : itmayF ⟨200, 201, 0⟩ = true := by decide
 rw [QG.tollbarlaw17_TreeHigh.j2, if_neg (by decide)]
 unfold tollbarlaw17_item.f tollbarlaw17_awake.f tollbarlaw0_Num.f
 simp only [Option.bind_some]
 by_cases h32 : 32 ≤ (items t).length
 ·rw [insf_of hf (insF_full h hx hn h32)]
  have e : x5 = 31 := by omega
  subst e
  rfl
 ·obtain ⟨n', r', f', e1, e2⟩ := ins_step h hx hn h32
  rw [insf_of hf e1]
  simp only [Option.bind_some, if_true]
  have e : (x5 == 31) = false := by rw [beq_eq_false_iff_ne]; omega
  have e' : decide (x5 < 31) = true := decide_eq_true (by omega)
  rw [e, e']
  rfl
theorem high_l0 (x5 : Int) (b : Bool) (h5 : 0 ≤ x5 ∧ x5 ≤ 31) : ∀ (n j k : Nat) (ns : List Nd) (root : Int) (fr : List Int) (t : T), ((n + j : Nat) : Int) = x5 + 1 → IsT (cellN ns) ns.length root fr t → (items t).length = j →
  (∀ y ∈ items t, (b = true → 101 - (j : Int) ≤ y.fr ∧ y.fr ≤ 100) ∧ (b = false → 0 ≤ y.fr ∧ y.fr < (j : Int))) → 2 * n + 3 ≤ k → QG.tollbarlaw17_TreeHigh.l0 k b x5 (j : Int) ns root fr = some true := by
 intro n
 induction n with
 | zero =>
  intro j k ns root fr t hj ht hl hi hk
  obtain ⟨k, rfl⟩ : ∃ i, k = i + 2 := ⟨k - 2, by omega⟩
  have hh := ht.good.hang
  have hw := ht.good.within
  have hb := ht.good.bal
  have hlow := low_tree hb (by omega)
  have hj2 := high_j2 x5 k ht h5 (by omega) (fun y hy => by
   have := hi y hy
   cases b with
   | true => exact (this.1 rfl).2
   | false => have := (this.2 rfl).2; omega)
  cases t with
  | nil => simp [items] at hl; omega
  | node p x l r =>
   obtain ⟨rfl, _, _, _, hc5, _⟩ := hh
   have hp := hw.p
   have hr : (rd_T64 ns (p : Int)).f3 = (hgt (.node p x l r) : Int) := by
    rw [rdN_cells]; exact hc5
   rw [QG.tollbarlaw17_TreeHigh.l0, if_neg (by omega), if_neg (by omega), if_neg (by omega), mayf_of ht]
   simp only [Option.bind_some]
   rw [if_pos trivial, if_pos (by omega), if_pos (by omega), hr, decide_eq_false (show ¬ ((hgt (.node p x l r) : Nat) : Int) > 6 by omega)]
   exact hj2
 | succ n ih =>
  intro j k ns root fr t hj ht hl hi hk
  obtain ⟨k, rfl⟩ : ∃ i, k = i + 2 := ⟨k - 2, by omega⟩
  have hf := ht.free_le
  have step : ∀ a : Int, 0 ≤ a → a ≤ 100 → (b = true → a = 100 - (j : Int)) → (b = false → a = (j : Int)) → QG.tollbarlaw17_TreeHigh.j1 (k + 1) b x5 (j : Int) a ns root fr = some true := by
   intro a ha0 ha1 hb1 hb2
   have hn : (⟨a, a + 1, 0⟩ : Itm) ∉ items t := fun g => by
    have := hi _ g
    cases b with
    | true => have h1 := (this.1 rfl).1; have h2 := hb1 rfl; simp only at h1; omega
    | false => have h1 := (this.2 rfl).2; have h2 := hb2 rfl; simp only at h1; omega
   have hx : itmayF ⟨a, a + 1, 0⟩ = true := by
    have e1 : decide (0 ≤ a) = true := decide_eq_true ha0
    have e2 : decide (a < a + 1) = true := decide_eq_true (by omega)
    have e3 : decide (a + 1 ≤ 4096) = true := decide_eq_true (by omega)
    show (decide (0 ≤ a) && decide (a < a + 1) && decide (a + 1 ≤ 4096) && rateF 0) = true
    rw [e1, e2, e3]
    rfl
   obtain ⟨n', r', f', e1, e2⟩ := ins_step ht hx hn (by omega)
   have ei := ins_items (x := ⟨a, a + 1, 0⟩) (p := placeOf ns.length fr) ht.row
   rw [QG.tollbarlaw17_TreeHigh.j1, show wrap64 (a + 1) = a + 1 by unfold wrap64; omega, show wrap64 ((j : Int) + 1) = ((j + 1 : Nat) : Int) from wrapN j (by omega)]
   unfold tollbarlaw17_item.f tollbarlaw0_Num.f
   simp only [Option.bind_some]
   rw [insf_of hf e1]
   simp only [Option.bind_some]
   rw [if_pos trivial]
   refine ih (j + 1) k n' r' f' _ (by omega) e2 (by rw [ei, with_length]; omega) ?_ (by omega)
   rw [ei]
   intro y hy
   rcases with_mem hy with rfl | hy
   ·exact ⟨fun g => by have := hb1 g; simp only; omega, fun g => by have := hb2 g; simp only; omega⟩
   ·have := hi y hy
    exact ⟨fun g => by have := this.1 g; omega, fun g => by have := this.2 g; omega⟩
  rw [QG.tollbarlaw17_TreeHigh.l0, if_pos (by omega)]
  cases b with
  | true =>
   rw [if_pos rfl, show wrap64 (100 - (j : Int)) = 100 - (j : Int) by unfold wrap64; omega]
   exact step _ (by omega) (by omega) (fun _ => rfl) (fun g => by cases g)
  | false =>
   rw [if_neg (by decide)]
   exact step _ (by omega) (by omega) (fun g => by cases g) (fun _ => rfl)
theorem treeHigh_f (a : Int) (b : Bool) : ∃ k, QG.tollbarlaw17_TreeHigh.f k a b = some true := by
 have h5 := and_range a 31 (by decide)
 refine ⟨100, ?_⟩
 unfold QG.tollbarlaw17_TreeHigh.f tree_New.f
 simp only [Option.bind_some]
 generalize hx : Go.bits .and .i64 a 31 = x5
 have h5' : 0 ≤ x5 ∧ x5 ≤ 31 := by rw [← hx]; exact h5
 exact high_l0 x5 b h5' (x5 + 1).toNat 0 100 [] (-1) [] .nil (by omega) isT_new rfl (fun y hy => by simp [items] at hy) (by omega)
end Go.Proofs.Ytgkjpffbgnljeaa.Man
/- The plain law TreeHigh, as its row asks for it. -/
set_option linter.unusedVariables false
namespace Go.Proofs.Ytgkjpffbgnljeaa.Pure
open Go.RowKit Go.Proofs.Ytgkjpffbgnljeaa.QG
theorem TreeHigh : tollbarlaw17_TreeHigh.Pure := fun a b _ => Go.Proofs.Ytgkjpffbgnljeaa.Man.treeHigh_f a b
end Go.Proofs.Ytgkjpffbgnljeaa.Pure
